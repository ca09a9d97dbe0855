/- Parts of the proof, one behind the other: G2, G3, K7, K8, Y1, Y2, Y3. No condition but what each theorem states. -/
import Derived.Deep.CutBlock
import Derived.Lib.SlBytesConst
import Derived.Laws.CopyRow
import Derived.Test.YtbldfgaogmfoaaaGreatZP5
import Derived.Test.YtbldfgaogmfoaaaGreatZP6
import Derived.Test.YtbldfgaogmfoaaaGreatZP7
set_option linter.unusedVariables false
set_option linter.unusedSimpArgs false

/- The document's tries (layer 7): one more text among others, in order; the beginnings of words: walked. -/

namespace Go.Proofs.YtbldfgaogmfoaaaGreat
open Go.RowKit Go.Sort

theorem putS_le (l : List (List Int)) (b : List Int) : (putS l b).length ≤ l.length + 1 ∧ l.length ≤ (putS l b).length := by
 induction l with
 | nil => simp [putS]
 | cons x l ih =>
  unfold putS
  split
  · simp; omega
  · split <;> simp
theorem Sl1.take {α : Type} {enc : α → Value} {w : World} {a : Option Addr} {n : Nat} {xs : List α} (h : Sl1 enc w a n xs) {m : Nat} (hm : m ≤ n) : Sl1 enc w a m (xs.take m) := by
 refine ⟨by rw [List.length_take, h.1]; omega, ?_⟩
 by_cases h0 : m = 0
 · exact .inl h0
 ·
  right
  obtain ⟨b, off, rfl, hlt, hcell⟩ := h.2.resolve_left (by omega)
  refine ⟨b, off, rfl, hlt, fun i u hu => hcell i u ?_⟩
  rw [List.getElem?_take] at hu
  split at hu
  · exact hu
  · cases hu
theorem Sl1.rest {α : Type} {enc : α → Value} {w : World} {b : Option Addr} {lb cb n : Nat} {xs : List α} (h : Sl1 enc w b lb xs) (hn : n ≤ lb) (hcb : lb ≤ cb) : Sl1 enc w (if cb = n then b else Option.map (fun x => x.add n) b) (lb - n) (xs.drop n) := by
 split
 ·
  have e : xs.drop n = [] := List.drop_eq_nil_of_le (by rw [h.1]; omega)
  rw [e, show lb - n = 0 by omega]
  exact ⟨rfl, .inl rfl⟩
 ·
  have hc := h.cut (lo := n) (m := lb - n) (by omega)
  rwa [List.take_of_length_le (by rw [List.length_drop, h.1]; exact Nat.le_refl _)] at hc

theorem rows_put {P : Sv → List Int → Prop} {vs : List Sv} {l : List (List Int)} (hl : vs.length = l.length) (h : ∀ (i : Nat) (v : Sv) (x : List Int), vs[i]? = some v → l[i]? = some x → P v x) {v0 : Sv} {x0 : List Int} (h0 : P v0 x0) (k : Nat) :
  ∀ (i : Nat) (v : Sv) (x : List Int), (vs.take k ++ v0 :: vs.drop k)[i]? = some v → (l.take k ++ x0 :: l.drop k)[i]? = some x → P v x := by
 intro i v x hv hx
 have e1 : (vs.take k).length = (l.take k).length := by simp [hl]
 by_cases hi : i < (l.take k).length
 ·
  rw [List.getElem?_append_left (by rw [e1]; exact hi)] at hv
  rw [List.getElem?_append_left hi] at hx
  have hik : i < k := by rw [List.length_take] at hi; omega
  rw [List.getElem?_take, if_pos hik] at hv hx
  exact h i v x hv hx
 ·
  rw [List.getElem?_append_right (by rw [e1]; omega), e1] at hv
  rw [List.getElem?_append_right (by omega)] at hx
  obtain ⟨j, hj⟩ : ∃ j, i - (l.take k).length = j := ⟨_, rfl⟩
  rw [hj] at hv hx
  cases j with
  | zero => simp at hv hx; subst hv hx; exact h0
  | succ j =>
   rw [List.getElem?_cons_succ, List.getElem?_drop] at hv hx
   exact h _ v x hv hx

set_option maxRecDepth 100000 in
set_option maxHeartbeats 4000000 in
theorem rput7_any (a b : Option Addr) (la ca lb cb : Nat) (l : List (List Int)) (x : List Int) (w : World) (hA : Wds w a la l) (hB : Bys w b lb x) (hla : la ≤ 10000000) (hlb : lb ≤ 10000000) (hca : la ≤ ca) (hcb : lb ≤ cb) (hM : ∀ y ∈ l, y.length ≤ 10000000) :
  Calls Tryz.prog 91 #[.slice a la ca, .slice b lb cb] w fun e w' => ∃ a' c', e = .returned (.slice a' (putS l x).length c') ∧ (putS l x).length ≤ c' ∧ Wds w' a' (putS l x).length (putS l x) ∧ Below w.heap.size w w' := by
 obtain ⟨i0, hi, hz0, hz1, hz2⟩ := info_parts sl_info
 have HL := Lib.hid hA.len
 have HA := Lib.hid hA
 have HB := Lib.hid hB
 clear hA hB
 go_enter Tryz.func91, Tryz.ntmps91
 go_upto_block 0 with fail
 go_cut [5] (fun s5 wx => ∃ k : Nat, k ≤ la ∧ s5 = .int .i64 k ∧ Hid (putS l x = if l[k]? = some x then l else l.take k ++ x :: l.drop k) ∧ Below w.heap.size w wx)
 case first =>
  go_wp2_with fail
  go_loopw [5] (fun s5 wr => ∃ k : Nat, k ≤ la ∧ s5 = .int .i64 k ∧ Hid (∀ (i : Nat) (y : List Int), i < k → l[i]? = some y → ltS y x = true) ∧ Below w.heap.size w wr) (fun i _ => la - (intOf i).toNat)
  case atStart => exact ⟨0, Nat.zero_le _, rfl, (fun i y h => absurd h (Nat.not_lt_zero _)), Below.refl _ _⟩
  case round =>
   obtain ⟨k, hk, rfl, HK, hBe⟩ := hrel
   by_cases hlt : k < la
   ·
    have hd : decide ((k : Int) < la) = true := by simp; omega
    obtain ⟨bb, off, aw, lw, cw, y, hbb, hbl, hcell, hy, hY, hlc⟩ := (HA.out.below hBe).at_ hlt
    subst hbb
    have HY := Lib.hid hy
    have i1 : (0 : Int) ≤ (k : Int) := by omega
    have i2 : (k : Int) < (la : Int) := by omega
    have HYB := Lib.hid hY
    have hBy := HB.out.below hBe
    clear hy hY
    have hlw : lw ≤ 4611686018427387904 := by
     have := hM y (List.mem_of_getElem? HY.out)
     rw [HYB.out.len] at this
     omega
    have hless := Lib.hid (rless7_any aw b lw cw lb cb y x wr HYB.out hBy hlw)
    clear HYB hBy hlw
    go_wp2_with fail
    refine hless.out.mono ?_
    rintro e w2 ⟨rfl, hb2⟩
    have hBe2 := hBe.trans (hb2.mono hBe.size)
    cases e2 : ltS y x with
    | true =>
     have HK2 : Hid (∀ (i : Nat) (y : List Int), i < k + 1 → l[i]? = some y → ltS y x = true) := fun i z hi hz => by
      by_cases h : i < k
      · exact HK.out i z h hz
      ·
       obtain rfl : i = k := by omega
       rw [HY.out] at hz
       rw [← Option.some.inj hz]; exact e2
     go_wp2
     go_roundw
     case rel => exact ⟨k + 1, by omega, by go_num, HK2, hBe2⟩
     case measure => simp [intOf]; omega
    | false =>
     have HP : Hid (putS l x = if l[k]? = some x then l else l.take k ++ x :: l.drop k) := putS_at (by rw [HL.out]; omega) HK.out (fun z hz => by
      rw [HY.out] at hz
      rw [← Option.some.inj hz]; exact e2)
     go_wp2_with fail
     go_meet
     exact ⟨k, hk, by go_num, HP, hBe2⟩
   ·
    obtain rfl : k = la := by omega
    have hd : decide ((k : Int) < k) = false := by simp
    have HP : Hid (putS l x = if l[k]? = some x then l else l.take k ++ x :: l.drop k) := putS_at (by rw [HL.out]; omega) HK.out (fun z hz => by
      rw [List.getElem?_eq_none (by rw [HL.out]; exact Nat.le_refl _)] at hz
      cases hz)
    go_wp2_with fail
    go_meet
    exact ⟨k, hk, by go_num, HP, hBe⟩
 case rest =>
  obtain ⟨k, hk, rfl, HP, hBe⟩ := hcut
  go_upto_region 4 with fail
  go_cut [34] (fun s34 wx => s34 = .bool (decide (l[k]? = some x)) ∧ Below w.heap.size w wx)
  case first =>
   by_cases hkl : k < la
   ·
    have hd : decide ((k : Int) < la) = true := by simp; omega
    obtain ⟨bb, off, aw, lw, cw, y, hbb, hbl, hcell, hy, hY, hlc⟩ := (HA.out.below hBe).at_ hkl
    subst hbb
    have f2 : ∀ d os, (grow (redrawn wc d) os).cell? ⟨bb, off + k, none⟩ = some (.slice aw lw cw) := fun d os => ((below_regrown wc d os).cell (p := ⟨bb, off + k, none⟩) hbl).trans hcell
    have f4 := fun d os => conv_bys (hY.below (below_regrown wc d os)) cw
    have f5 := fun d os => conv_bys ((HB.out.below hBe).below (below_regrown wc d os)) cb
    have i1 : (0 : Int) ≤ (k : Int) := by omega
    have i2 : (k : Int) < (la : Int) := by omega
    have HY := Lib.hid hy
    have HYB := Lib.hid hY.2
    have hq := str_beq HYB.out HB.out.2
    have HBE := Lib.hid hBe
    have HS : Hid (decide (l[k]? = some x) = decide (y = x)) := by rw [Hid, HY.out]; simp
    obtain ⟨B, hB⟩ : ∃ B, decide (y = x) = B := ⟨_, rfl⟩
    rw [hB] at hq
    have HSB : Hid (decide (l[k]? = some x) = B) := by rw [Hid, HS.out, hB]
    clear hy hY hcell hlc hBe HS hB
    go_wp2
    refine wp_region_quiet_below mixed (by kernel_rfl) ?_
    repeat (go_big_quiet_step (fail))
    refine wpQuiet_nil ?_
    rintro _ ⟨⟨dq, osq⟩, rfl⟩
    have hBq := HBE.out.trans ((below_regrown wc dq osq).mono HBE.out.size)
    clear f2 f4 f5
    go_wp2_with fail
    go_meet
    exact ⟨by rw [HSB.out], hBq⟩
   ·
    have hd : decide ((k : Int) < la) = false := by simp; omega
    have HS : Hid (decide (l[k]? = some x) = false) := by rw [Hid, List.getElem?_eq_none (by rw [HL.out]; omega)]; simp
    have HBE := Lib.hid hBe
    clear hBe
    go_wp2
    refine wp_region_quiet_below mixed (by kernel_rfl) ?_
    repeat (go_big_quiet_step (fail))
    refine wpQuiet_nil ?_
    rintro _ ⟨⟨dq, osq⟩, rfl⟩
    have hBq := HBE.out.trans ((below_regrown wc dq osq).mono HBE.out.size)
    go_wp2_with fail
    go_meet
    exact ⟨by rw [HS.out], hBq⟩
  case rest =>
   clear hBe
   obtain ⟨rfl, hBe⟩ := hcut
   by_cases hc : l[k]? = some x
   ·
    have HS : Hid (putS l x = l) := by rw [Hid, HP.out, if_pos hc]
    rw [decide_eq_true hc]
    clear hc
    go_wp2
    go_ret
    rw [HS.out, HL.out]
    exact ⟨a, ca, rfl, hca, HA.out.below hBe, hBe⟩
   have HS : Hid (putS l x = l.take k ++ x :: l.drop k) := by rw [Hid, HP.out, if_neg hc]
   rw [decide_eq_false hc]
   clear hc
   obtain ⟨vs, hs0, hvl, hrow⟩ := HA.out
   have HV := Lib.hid hvl
   have HRW := Lib.hid hrow
   have HS0 := Lib.hid hs0
   clear hvl hrow hs0
   have hsT := (HS0.out.below hBe).take hk
   go_upto_region 8 with (at_builtin; refine wpList_append_sl1 rfl _ _ 22 rfl (enc := svV) (fun _ => rfl) w.heap.size 25 i0 (.slice none 0 0) 24 Tryz.underlying22 hi hz0 hz1 hz2 rfl _ _ _ rfl (World.ownsRow_nil wc w.heap.size 25 1) a k ca (vs.take k) rfl hsT (by unfold maxLen; omega) (by omega) hBe.size ?_; intro v1 w3 hown1 hgrow1 hat1)
   simp only [Nat.zero_add, List.nil_append] at hown1
   have hB3 : Below w.heap.size w w3 := hBe.grown hgrow1 hBe.size (fun j hj => by cases hj)
   have hs3 := hB3.size
   go_upto_region 9 with (at_builtin; refine wpList_append_own _ rfl _ _ 22 rfl w.heap.size 25 i0 (.slice none 0 0) 1 24 Tryz.underlying22 hi hz0 hz1 hz2 rfl (by decide) _ _ _ rfl (hown1.alloc _) ⟨w3.heap.size, 0, none⟩ 1 1 [svV (b, lb, cb)] rfl rfl (cells_new _ _ (by simp)) (by simp [Value.oneCell']) (by unfold maxLen; omega) (by omega) (by simp; omega) ?_; intro v2 w4 hown2 hgrow2 hnil2)
   have hB4 : Below w.heap.size w w4 := below_append (base := 0) hB3 hown1 hgrow2
   have hsR := (HS0.out.below hB4).rest hk hca
   have hs4 := hB4.size
   clear hgrow1 hgrow2 hsT
   go_wp2_with (at_builtin; refine wpList_append_sl1 rfl _ _ 22 rfl (enc := svV) (fun _ => rfl) w.heap.size 25 i0 (.slice none 0 0) 24 Tryz.underlying22 hi hz0 hz1 hz2 rfl _ _ _ rfl hown2 (if ca = k then a else Option.map (fun x => x.add k) a) (la - k) (ca - k) (vs.drop k) rfl hsR (by unfold maxLen; omega) (by omega) (by omega) ?_; intro v3 w5 hown3 hgrow3 hat3)
   all_goals
    have hB5 : Below w.heap.size w w5 := hB4.grown hgrow3 (by omega) (fun j hj => (hown2.lt j hj).1)
    have hown4 : w5.ownsRow w.heap.size 25 1 v3 (k + 1 + (la - k)) ((vs.take k ++ (b, lb, cb) :: vs.drop k).map svV) := by
     simpa using hown3
    obtain ⟨a', c', rfl, hc', hsl⟩ := own_sl1 (enc := svV) hown4
    have HW : Hid (Wds w5 a' (k + 1 + (la - k)) (putS l x) ∧ (putS l x).length = k + 1 + (la - k)) := by
     have hlen : (putS l x).length = k + 1 + (la - k) := by rw [HS.out, List.length_append, List.length_cons, List.length_take, List.length_drop, HL.out]; omega
     refine ⟨⟨_, hsl, ?_, ?_⟩, hlen⟩
     · rw [hlen]; exact hsl.1
     ·
      rw [HS.out]
      refine rows_put (P := fun v x => Bys w5 v.1 v.2.1 x ∧ v.2.1 ≤ v.2.2) HV.out (fun i v x h1 h2 => ?_) ⟨HB.out.below hB5, hcb⟩ k
      obtain ⟨h3, h4⟩ := HRW.out i v x h1 h2
      exact ⟨h3.below hB5, h4⟩
    go_ret
    rw [HW.out.2]
    exact ⟨a', c', rfl, hc', HW.out.1, hB5⟩

theorem nodes_bd {wss : List (List Int)} {M : Nat} (h : ∀ x ∈ wss, x.length ≤ M) : ∀ y ∈ nodesL wss, y.length ≤ M := fun y hy => by
 rcases (mem_nodesL wss).1 hy with rfl | ⟨w, hw, k, _, _, rfl⟩
 · simp
 · have := h w hw; rw [List.length_take]; omega
theorem putW_le (l : List (List Int)) (w : List Int) : ∀ k, (putW l w k).length ≤ l.length + k
 | 0 => by simp [putW]
 | k + 1 => by
  rw [putW_succ]
  have h1 := putW_le l w k
  have h2 := (putS_le (putW l w k) (w.take (k + 1))).1
  omega
theorem nodes_le {M : Nat} (wss : List (List Int)) (h : ∀ x ∈ wss, x.length ≤ M) : (nodesL wss).length ≤ wss.length * M + 1 := by
 revert h
 refine snoc_ind (P := fun wss => (∀ x ∈ wss, x.length ≤ M) → (nodesL wss).length ≤ wss.length * M + 1) (by simp [nodesL]) (fun l w ih h => ?_) wss
 rw [nodesL_snoc]
 have h1 := putW_le (nodesL l) w w.length
 have h2 := ih fun x hx => h x (by simp [hx])
 have h3 := h w (by simp)
 rw [List.length_append, List.length_singleton, Nat.succ_mul]
 omega
theorem putW_bd {l : List (List Int)} {w : List Int} {M k : Nat} (h1 : ∀ y ∈ l, y.length ≤ M) (h2 : w.length ≤ M) : ∀ y ∈ putW l w k, y.length ≤ M := fun y hy => by
 rcases mem_putW.1 hy with h | ⟨j, _, _, rfl⟩
 · exact h1 y h
 · rw [List.length_take]; omega

set_option maxRecDepth 100000 in
set_option maxHeartbeats 4000000 in
theorem rnodes7_any (a : Option Addr) (la ca : Nat) (wss : List (List Int)) (w : World) (hA : Wds w a la wss) (hla : la ≤ 1000) (hM : ∀ x ∈ wss, x.length ≤ 1000) :
  Calls Tryz.prog 56 #[.slice a la ca] w fun e w' => ∃ a' c', e = .returned (.slice a' (nodesL wss).length c') ∧ (nodesL wss).length ≤ c' ∧ Wds w' a' (nodesL wss).length (nodesL wss) ∧ Below w.heap.size w w' := by
 have HL := Lib.hid hA.len
 have HA := Lib.hid hA
 clear hA
 obtain ⟨W2, hW2⟩ : ∃ W2, W2 = (w.alloc (.cells #[] 5)).alloc (.cells #[.slice (some ⟨w.heap.size, 0, none⟩) 0 0] 25) := ⟨_, rfl⟩
 have hB2 : Below w.heap.size w W2 := by rw [hW2]; exact (below_alloc _ _).alloc (by simp) _
 have hN0 : Wds W2 (some ⟨w.heap.size + 1, 0, none⟩) 1 (nodesL []) := by
  refine ⟨[(some ⟨w.heap.size, 0, none⟩, 0, 0)], ⟨rfl, .inr ⟨_, _, rfl, by rw [hW2]; simp, fun i x hx => ?_⟩⟩, by simp [nodesL], fun i v x hv hx => ?_⟩
  ·
   have := cells_new (w := w.alloc (.cells #[] 5)) #[.slice (some ⟨w.heap.size, 0, none⟩) 0 0] 25 (n := w.heap.size + 1) (by simp) i (svV x) (by
    cases i with
    | zero => simp at hx; subst hx; rfl
    | succ i => simp at hx)
   rw [hW2]
   rw [add_plain] at this
   exact this
  ·
   cases i with
   | zero =>
    simp [nodesL] at hv hx
    subst hv hx
    exact ⟨Bys.nil _ _, Nat.le_refl _⟩
   | succ i => simp at hv
 go_enter Tryz.func56, Tryz.ntmps56
 go_upto_region 2 with fail
 rw [← hW2]
 clear hW2
 go_wp2
 go_loopw [3, 4] (fun s3 s4 wr => ∃ (i : Nat) (aN : Option Addr) (cN : Nat) (N : List (List Int)), i ≤ la ∧ s4 = .int .i64 i ∧ s3 = .slice aN N.length cN ∧ Hid (nodesL (wss.take i) = N) ∧ N.length ≤ cN ∧ Hid (N.length ≤ i * 1000 + 1) ∧ Wds wr aN N.length N ∧ Below w.heap.size w wr) (fun _ s4 _ => la - (intOf s4).toNat)
 case atStart => exact ⟨0, _, 1, nodesL [], Nat.zero_le _, rfl, rfl, rfl, Nat.le_refl _, (by simp [Hid, nodesL]), hN0, hB2⟩
 case round =>
  clear hN0 hB2
  obtain ⟨i, aN, cN, N, hi, rfl, rfl, HN, hcN, HZ, hW, hBe⟩ := hrel
  by_cases hil : i < la
  ·
   have hd : decide ((i : Int) < la) = true := by simp; omega
   obtain ⟨bb, off, aw, lw, cw, x, hbb, hbl, hcell, hx, hX, hlc⟩ := HA.out.at_ hil
   subst hbb
   have HX := Lib.hid hx
   have hlw : lw ≤ 1000 := by have := mem_bd hM hx; rw [hX.len] at this; exact this
   have HXB := Lib.hid hX
   have HND : Hid (∀ y ∈ N, y.length ≤ 1000) := by
    rw [Hid, ← HN.out]
    exact nodes_bd fun z hz => hM z (List.mem_of_mem_take hz)
   have HNS : Hid (nodesL (wss.take (i + 1)) = putW N x lw) := by
    rw [Hid, take_step HX.out, nodesL_snoc, HN.out, HXB.out.len]
   have i1 : (0 : Int) ≤ (i : Int) := by omega
   have i2 : (i : Int) < (la : Int) := by omega
   have hc1 : wr.cell? ⟨bb, off + i, none⟩ = some (.slice aw lw cw) := (hBe.cell (p := ⟨bb, off + i, none⟩) hbl).trans hcell
   clear hx hX
   go_wp2
   clear hc1
   go_loopw [3, 5] (fun s3 s5 wi => ∃ (k : Nat) (aM : Option Addr) (cM : Nat) (M : List (List Int)), k ≤ lw ∧ s5 = .int .i64 (k + 1) ∧ s3 = .slice aM M.length cM ∧ Hid (putW N x k = M) ∧ M.length ≤ cM ∧ Wds wi aM M.length M ∧ Below w.heap.size w wi) (fun _ s5 _ => lw + 1 - (intOf s5).toNat)
   case atStart => exact ⟨0, aN, cN, N, Nat.zero_le _, rfl, rfl, rfl, hcN, hW, hBe⟩
   case round =>
    clear hW hBe
    obtain ⟨k, aM, cM, M, hk, rfl, rfl, HM, hcM, hWM, hBe⟩ := hrel
    have hc1 : wr.cell? ⟨bb, off + i, none⟩ = some (.slice aw lw cw) := (hBe.cell (p := ⟨bb, off + i, none⟩) hbl).trans hcell
    by_cases hkl : k < lw
    ·
     have hd2 : decide ((k : Int) + 1 ≤ (lw : Int)) = true := by simp; omega
     have hMl : M.length ≤ 10000000 := by
      have h1 := putW_le N x k
      have h2 := HZ.out
      rw [HM.out] at h1
      have : i * 1000 ≤ 1000 * 1000 := Nat.mul_le_mul_right _ (by omega)
      omega
     have hT : Bys wr aw (k + 1) (x.take (k + 1)) := (HXB.out.below hBe).take (by omega)
     have hbd : ∀ y ∈ M, y.length ≤ 10000000 := fun y hy => by
      rw [← HM.out] at hy
      have := putW_bd HND.out (w := x) (by rw [HXB.out.len]; exact hlw) y hy
      omega
     have HP := Lib.hid (rput7_any aM aw M.length cM (k + 1) cw M (x.take (k + 1)) wr hWM hT hMl (by omega) hcM (by omega) hbd)
     have HMS : Hid (putW N x (k + 1) = putS M (x.take (k + 1))) := by rw [Hid, putW_succ, HM.out]
     have i3 : (0 : Int) ≤ (k : Int) + 1 := by omega
     have i4 : (k : Int) + 1 ≤ (cw : Int) := by omega
     clear hWM hT hbd
     go_wp2_with fail
     refine HP.out.mono ?_
     rintro e w2 ⟨a', c', rfl, hc', hW', hb2⟩
     have hBe2 := hBe.trans (hb2.mono hBe.size)
     go_wp2
     go_roundw
     case rel => exact ⟨k + 1, a', c', _, by omega, by go_num, rfl, HMS, hc', hW', hBe2⟩
     case measure => simp [intOf]; omega
    ·
     obtain rfl : k = lw := by omega
     have hd2 : decide ((k : Int) + 1 ≤ (k : Int)) = false := by simp; omega
     have HZ2 : Hid (M.length ≤ (i + 1) * 1000 + 1) := by
      have h1 := putW_le N x k
      have h2 := HZ.out
      rw [HM.out] at h1
      rw [Hid, Nat.succ_mul]
      omega
     have HNM : Hid (nodesL (wss.take (i + 1)) = M) := by rw [Hid, HNS.out, HM.out]
     go_wp2
     go_roundw
     case rel => exact ⟨i + 1, aM, cM, M, by omega, by go_num, rfl, HNM, hcM, HZ2, hWM, hBe⟩
     case measure => simp [intOf]; omega
  ·
   obtain rfl : i = la := by omega
   have hd : decide ((i : Int) < i) = false := by simp
   have HF : Hid (nodesL wss = N) := by
    have := HN.out
    rwa [List.take_of_length_le (by rw [HL.out]; exact Nat.le_refl _)] at this
   go_wp2
   go_ret
   rw [HF.out]
   exact ⟨aN, cN, rfl, hcN, hW, hBe⟩

end Go.Proofs.YtbldfgaogmfoaaaGreat

/- The document's trie of words (layer 7): walked. -/

namespace Go.Proofs.YtbldfgaogmfoaaaGreat
open Go.RowKit Go.Sort

/-- A trie that grows in a box of the call's own: its four rows. -/
structure MT (tb : Nat) (U D X B : List Int) (u d x b : Value) (W : World) : Prop where
 box : W.heap[tb]? = some (.cells #[u, d, x, b] 34 (0, 0))
 up : OwnI W (tb + 1) u U
 dep : OwnI W (tb + 1) d D
 wrd : OwnI W (tb + 1) x X
 byt : OwnU W (tb + 1) b B
 s1 : sep u d
 s2 : sep u x
 s3 : sep u b
 s4 : sep d x
 s5 : sep d b
 s6 : sep x b

section
variable {tb : Nat} {U D X B : List Int} {u d x b : Value} {W W' : World}
theorem MT.lt (h : MT tb U D X B u d x b W) : tb < W.heap.size := (Array.getElem?_eq_some_iff.1 h.box).1
theorem MT.below (h : MT tb U D X B u d x b W) (hb : Below W.heap.size W W') : MT tb U D X B u d x b W' :=
 ⟨(hb.block _ h.lt).trans h.box, row_below h.up hb, row_below h.dep hb, row_below h.wrd hb, row_below h.byt hb, h.s1, h.s2, h.s3, h.s4, h.s5, h.s6⟩
theorem MT.cells (h : MT tb U D X B u d x b W) : (W.cell? ⟨tb, 0, none⟩ = some u ∧ W.cell? ⟨tb, 1, none⟩ = some d ∧ W.cell? ⟨tb, 2, none⟩ = some x ∧ W.cell? ⟨tb, 3, none⟩ = some b) ∧ ∀ i, W.frozen? ⟨tb, i, none⟩ = false := by
 refine ⟨⟨?_, ?_, ?_, ?_⟩, fun i => ?_⟩ <;> simp [World.cell?, World.frozen?, h.box]
theorem MT.cz (h : MT tb U D X B u d x b W) {V : World} (o : Obj) {v : Value} (hg : (W.alloc o).grownBy V v.ownBlock) (hv : v.ownBlock ≠ some tb) : (V.cell? ⟨tb, 0, none⟩ = some u ∧ V.cell? ⟨tb, 1, none⟩ = some d ∧ V.cell? ⟨tb, 2, none⟩ = some x ∧ V.cell? ⟨tb, 3, none⟩ = some b) ∧ ∀ i, V.frozen? ⟨tb, i, none⟩ = false := by
 have hlt := h.lt
 have hbx : V.heap[tb]? = some (.cells #[u, d, x, b] 34 (0, 0)) := (hg.block tb (by simp; omega) (fun e => hv e.symm)).trans ((Below.heap_alloc _ _ _ hlt).trans h.box)
 refine ⟨⟨?_, ?_, ?_, ?_⟩, fun i => ?_⟩ <;> simp [World.cell?, World.frozen?, hbx]
theorem MT.put_u (h : MT tb U D X B u d x b W) {V : World} {u' : Value} {z : Int} (o : Obj) (hown : V.ownsRow (tb + 1) 3 1 u' (U.length + 1) (U.map (Value.int .i64) ++ [.int .i64 z])) (hg : (W.alloc o).grownBy V u.ownBlock) (hat : u'.ownBlock = u.ownBlock ∨ u'.ownBlock = some (W.alloc o).heap.size) :
  MT tb (U ++ [z]) D X B u' d x b (V.setCell ⟨tb, 0, none⟩ u') ∧ Below tb W (V.setCell ⟨tb, 0, none⟩ u') := by
 have hs := hg.size
 simp at hs
 have hal : W.heap.size ≤ (W.alloc o).heap.size := by simp
 have hlt := h.lt
 have hnr : u.ownBlock ≠ some tb := fun e => by have := (row_lt h.up _ e).1; omega
 have hbx : V.heap[tb]? = some (.cells #[u, d, x, b] 34 (0, 0)) := (hg.block tb (by simp; omega) (fun e => hnr e.symm)).trans ((Below.heap_alloc _ _ _ hlt).trans h.box)
 have k_d := row_set (i := 0) ((h.dep.alloc o).kept hg h.s1.kept) (Nat.lt_succ_self tb) u'
 have k_x := row_set (i := 0) ((h.wrd.alloc o).kept hg h.s2.kept) (Nat.lt_succ_self tb) u'
 have k_b := row_set (i := 0) ((h.byt.alloc o).kept hg h.s3.kept) (Nat.lt_succ_self tb) u'
 exact ⟨⟨set_at hbx _, (by unfold OwnI; rw [List.length_append, List.map_append]; exact row_set hown (Nat.lt_succ_self tb) _), k_d, k_x, k_b, (h.s1.put hat (fun k e => Nat.lt_of_lt_of_le (row_lt h.dep k e).2 hal)), (h.s2.put hat (fun k e => Nat.lt_of_lt_of_le (row_lt h.wrd k e).2 hal)), (h.s3.put hat (fun k e => Nat.lt_of_lt_of_le (row_lt h.byt k e).2 hal)), h.s4, h.s5, h.s6⟩, (((Below.refl tb W).alloc (by omega) o).grown hg (by simp; omega) (fun k e => by have := (row_lt h.up k e).1; omega)).setCell (Nat.le_refl _) _⟩
theorem MT.put_d (h : MT tb U D X B u d x b W) {V : World} {d' : Value} {z : Int} (o : Obj) (hown : V.ownsRow (tb + 1) 3 1 d' (D.length + 1) (D.map (Value.int .i64) ++ [.int .i64 z])) (hg : (W.alloc o).grownBy V d.ownBlock) (hat : d'.ownBlock = d.ownBlock ∨ d'.ownBlock = some (W.alloc o).heap.size) :
  MT tb U (D ++ [z]) X B u d' x b (V.setCell ⟨tb, 1, none⟩ d') ∧ Below tb W (V.setCell ⟨tb, 1, none⟩ d') := by
 have hs := hg.size
 simp at hs
 have hal : W.heap.size ≤ (W.alloc o).heap.size := by simp
 have hlt := h.lt
 have hnr : d.ownBlock ≠ some tb := fun e => by have := (row_lt h.dep _ e).1; omega
 have hbx : V.heap[tb]? = some (.cells #[u, d, x, b] 34 (0, 0)) := (hg.block tb (by simp; omega) (fun e => hnr e.symm)).trans ((Below.heap_alloc _ _ _ hlt).trans h.box)
 have k_u := row_set (i := 1) ((h.up.alloc o).kept hg (h.s1.symm).kept) (Nat.lt_succ_self tb) d'
 have k_x := row_set (i := 1) ((h.wrd.alloc o).kept hg h.s4.kept) (Nat.lt_succ_self tb) d'
 have k_b := row_set (i := 1) ((h.byt.alloc o).kept hg h.s5.kept) (Nat.lt_succ_self tb) d'
 exact ⟨⟨set_at hbx _, k_u, (by unfold OwnI; rw [List.length_append, List.map_append]; exact row_set hown (Nat.lt_succ_self tb) _), k_x, k_b, ((h.s1.symm.put hat (fun k e => Nat.lt_of_lt_of_le (row_lt h.up k e).2 hal)).symm), h.s2, h.s3, (h.s4.put hat (fun k e => Nat.lt_of_lt_of_le (row_lt h.wrd k e).2 hal)), (h.s5.put hat (fun k e => Nat.lt_of_lt_of_le (row_lt h.byt k e).2 hal)), h.s6⟩, (((Below.refl tb W).alloc (by omega) o).grown hg (by simp; omega) (fun k e => by have := (row_lt h.dep k e).1; omega)).setCell (Nat.le_refl _) _⟩
theorem MT.put_x (h : MT tb U D X B u d x b W) {V : World} {x' : Value} {z : Int} (o : Obj) (hown : V.ownsRow (tb + 1) 3 1 x' (X.length + 1) (X.map (Value.int .i64) ++ [.int .i64 z])) (hg : (W.alloc o).grownBy V x.ownBlock) (hat : x'.ownBlock = x.ownBlock ∨ x'.ownBlock = some (W.alloc o).heap.size) :
  MT tb U D (X ++ [z]) B u d x' b (V.setCell ⟨tb, 2, none⟩ x') ∧ Below tb W (V.setCell ⟨tb, 2, none⟩ x') := by
 have hs := hg.size
 simp at hs
 have hal : W.heap.size ≤ (W.alloc o).heap.size := by simp
 have hlt := h.lt
 have hnr : x.ownBlock ≠ some tb := fun e => by have := (row_lt h.wrd _ e).1; omega
 have hbx : V.heap[tb]? = some (.cells #[u, d, x, b] 34 (0, 0)) := (hg.block tb (by simp; omega) (fun e => hnr e.symm)).trans ((Below.heap_alloc _ _ _ hlt).trans h.box)
 have k_u := row_set (i := 2) ((h.up.alloc o).kept hg (h.s2.symm).kept) (Nat.lt_succ_self tb) x'
 have k_d := row_set (i := 2) ((h.dep.alloc o).kept hg (h.s4.symm).kept) (Nat.lt_succ_self tb) x'
 have k_b := row_set (i := 2) ((h.byt.alloc o).kept hg h.s6.kept) (Nat.lt_succ_self tb) x'
 exact ⟨⟨set_at hbx _, k_u, k_d, (by unfold OwnI; rw [List.length_append, List.map_append]; exact row_set hown (Nat.lt_succ_self tb) _), k_b, h.s1, ((h.s2.symm.put hat (fun k e => Nat.lt_of_lt_of_le (row_lt h.up k e).2 hal)).symm), h.s3, ((h.s4.symm.put hat (fun k e => Nat.lt_of_lt_of_le (row_lt h.dep k e).2 hal)).symm), h.s5, (h.s6.put hat (fun k e => Nat.lt_of_lt_of_le (row_lt h.byt k e).2 hal))⟩, (((Below.refl tb W).alloc (by omega) o).grown hg (by simp; omega) (fun k e => by have := (row_lt h.wrd k e).1; omega)).setCell (Nat.le_refl _) _⟩
theorem MT.put_b (h : MT tb U D X B u d x b W) {V : World} {b' : Value} {z : Int} (o : Obj) (hown : V.ownsRow (tb + 1) 5 1 b' (B.length + 1) (B.map (Value.int .u8) ++ [.int .u8 z])) (hg : (W.alloc o).grownBy V b.ownBlock) (hat : b'.ownBlock = b.ownBlock ∨ b'.ownBlock = some (W.alloc o).heap.size) :
  MT tb U D X (B ++ [z]) u d x b' (V.setCell ⟨tb, 3, none⟩ b') ∧ Below tb W (V.setCell ⟨tb, 3, none⟩ b') := by
 have hs := hg.size
 simp at hs
 have hal : W.heap.size ≤ (W.alloc o).heap.size := by simp
 have hlt := h.lt
 have hnr : b.ownBlock ≠ some tb := fun e => by have := (row_lt h.byt _ e).1; omega
 have hbx : V.heap[tb]? = some (.cells #[u, d, x, b] 34 (0, 0)) := (hg.block tb (by simp; omega) (fun e => hnr e.symm)).trans ((Below.heap_alloc _ _ _ hlt).trans h.box)
 have k_u := row_set (i := 3) ((h.up.alloc o).kept hg (h.s3.symm).kept) (Nat.lt_succ_self tb) b'
 have k_d := row_set (i := 3) ((h.dep.alloc o).kept hg (h.s5.symm).kept) (Nat.lt_succ_self tb) b'
 have k_x := row_set (i := 3) ((h.wrd.alloc o).kept hg (h.s6.symm).kept) (Nat.lt_succ_self tb) b'
 exact ⟨⟨set_at hbx _, k_u, k_d, k_x, (by unfold OwnU; rw [List.length_append, List.map_append]; exact row_set hown (Nat.lt_succ_self tb) _), h.s1, h.s2, ((h.s3.symm.put hat (fun k e => Nat.lt_of_lt_of_le (row_lt h.up k e).2 hal)).symm), h.s4, ((h.s5.symm.put hat (fun k e => Nat.lt_of_lt_of_le (row_lt h.dep k e).2 hal)).symm), ((h.s6.symm.put hat (fun k e => Nat.lt_of_lt_of_le (row_lt h.wrd k e).2 hal)).symm)⟩, (((Below.refl tb W).alloc (by omega) o).grown hg (by simp; omega) (fun k e => by have := (row_lt h.byt k e).1; omega)).setCell (Nat.le_refl _) _⟩
end

theorem up_zero {ws : List (List Int)} {x : List Int} (h : x = []) : placeS (nodesL ws) x.dropLast = 0 ∧ lastB x = 0 := by
 subst h
 have := placeS_at (nodesL_srt ws).nodup (nodesL_head ws)
 exact ⟨by simpa using this, rfl⟩
theorem trie_at {ws : List (List Int)} {i : Nat} {x : List Int} (h : (nodesL ws)[i]? = some x) : (trieP ws).up.take (i + 1) = (trieP ws).up.take i ++ [placeS (nodesL ws) x.dropLast] ∧ (trieP ws).dep.take (i + 1) = (trieP ws).dep.take i ++ [(x.length : Int)] ∧
  (trieP ws).wrd.take (i + 1) = (trieP ws).wrd.take i ++ [placeS ws x] ∧ (trieP ws).byt.take (i + 1) = (trieP ws).byt.take i ++ [lastB x] := by
 refine ⟨?_, ?_, ?_, ?_⟩ <;> exact take_step (by simp [trieP, h])
theorem trie_len (ws : List (List Int)) (i : Nat) (h : i ≤ (nodesL ws).length) : ((trieP ws).up.take i).length = i ∧ ((trieP ws).dep.take i).length = i ∧ ((trieP ws).wrd.take i).length = i ∧ ((trieP ws).byt.take i).length = i := by
 refine ⟨?_, ?_, ?_, ?_⟩ <;> simp [trieP] <;> omega
theorem trie_all (ws : List (List Int)) : (trieP ws).up.take (nodesL ws).length = (trieP ws).up ∧ (trieP ws).dep.take (nodesL ws).length = (trieP ws).dep ∧ (trieP ws).wrd.take (nodesL ws).length = (trieP ws).wrd ∧ (trieP ws).byt.take (nodesL ws).length = (trieP ws).byt := by
 refine ⟨?_, ?_, ?_, ?_⟩ <;> exact List.take_of_length_le (by simp [trieP])

set_option maxHeartbeats 1000000 in
theorem rmake7_no (fold : Bool) (a : Option Addr) (la ca : Nat) (wss : List (List Int)) (w : World) (hA : Wds w a la wss) (hla : la ≤ 1000000) (hM : ∀ x ∈ wss, x.length ≤ 1000000) (hr : rightP fold wss = false) :
  Calls Tryz.prog 23 #[.agg (setV fold a la ca)] w fun e w' => e = .returned (.tuple #[.agg #[.slice none 0 0, .slice none 0 0, .slice none 0 0, .slice none 0 0], .int .i64 2]) ∧ Below w.heap.size w w' := by
 have hB2 : Below w.heap.size w ((w.alloc (.cells (setV fold a la ca) 24)).alloc (.cells (nil4) 34)) := ((Below.refl _ _).alloc (Nat.le_refl _) _).alloc (by simp) _
 have n1 := alloc_at (w := w.alloc (.cells (setV fold a la ca) 24)) (n := w.heap.size + 1) (by simp) (.cells (nil4) 34)
 have HC := Lib.hid (rright_any fold a la ca wss _ (hA.below hB2) hla hM)
 have HR : Hid (rightR fold wss = false) := by rw [Hid, ← right_eq]; exact hr
 clear hr
 go_enter Tryz.func23, Tryz.ntmps23
 go_wp2_with fail
 refine HC.out.mono ?_
 rintro e w1 ⟨rfl, hb⟩
 rw [HR.out]
 have hB1 : Below w.heap.size w w1 := hB2.trans (hb.mono (by simp; omega))
 have m1 : w1.heap[w.heap.size + 1]? = some (.cells nil4 34 (0, 0)) := (hb.block _ (by simp)).trans n1
 have hsz : w.heap.size + 1 < w1.heap.size := (Array.getElem?_eq_some_iff.1 m1).1
 clear hb n1
 have q0 : w1.cell? ⟨w.heap.size + 1, 0, none⟩ = some (.slice none 0 0) := by simp [World.cell?, m1]
 have q1 : w1.cell? ⟨w.heap.size + 1, 1, none⟩ = some (.slice none 0 0) := by simp [World.cell?, m1]
 have q2 : w1.cell? ⟨w.heap.size + 1, 2, none⟩ = some (.slice none 0 0) := by simp [World.cell?, m1]
 have q3 : w1.cell? ⟨w.heap.size + 1, 3, none⟩ = some (.slice none 0 0) := by simp [World.cell?, m1]
 have f0 : ∀ i, w1.frozen? ⟨w.heap.size + 1, i, none⟩ = false := fun i => by simp [World.frozen?, m1]
 go_wp2
 have hz2 := set_at (i := 3) (set_at (i := 2) (set_at (i := 1) (set_at (i := 0) m1 (.slice none 0 0)) (.slice none 0 0)) (.slice none 0 0)) (.slice none 0 0)
 refine bodyPost_ret (results_trie rfl rfl (by simpa using hz2)) rfl ?_
 exact ⟨rfl, (((hB1.setCell (by show w.heap.size ≤ w.heap.size + 1; omega) _).setCell (by show w.heap.size ≤ w.heap.size + 1; omega) _).setCell (by show w.heap.size ≤ w.heap.size + 1; omega) _).setCell (by show w.heap.size ≤ w.heap.size + 1; omega) _⟩

theorem dropLast_take {x : List Int} {q : Nat} (h : x.length = q + 1) : x.dropLast = x.take q := by rw [List.dropLast_eq_take, h, Nat.add_sub_cancel]
theorem lastB_at {x : List Int} {q : Nat} (h : x.length = q + 1) {c : Int} (hc : x[q]? = some c) : lastB x = c := by
 unfold lastB
 rw [List.getLast?_eq_getElem?, h, Nat.add_sub_cancel, hc]
 rfl

set_option maxRecDepth 100000 in
set_option maxHeartbeats 8000000 in
theorem rmake7_yes (fold : Bool) (a : Option Addr) (la ca : Nat) (wss : List (List Int)) (w : World) (hA : Wds w a la wss) (hr : rightP fold wss = true) :
    Calls Tryz.prog 23 #[.agg (setV fold a la ca)] w fun e w' => ∃ t : TV, e = .returned (.tuple #[.agg t.cells, .int .i64 0]) ∧ Tri w' t (trieP wss) ∧ Below w.heap.size w w' := by
  obtain ⟨iI, hi, hz0, hz1, hz2⟩ := info_parts i64_info7
  obtain ⟨iU, hj, hy0, hy1, hy2⟩ := info_parts u8_info7
  have HL := Lib.hid hA.len
  obtain ⟨r1, r2, r3, r4, r5, r6⟩ := right_spec hr
  have hla : la ≤ 1000 := by have := HL.out; omega
  have hM : ∀ x ∈ wss, x.length ≤ 1000 := fun x hx => by have := (r3 x hx).2; omega
  have hM32 : ∀ x ∈ wss, x.length ≤ 32 := fun x hx => (r3 x hx).2
  have HBY := Lib.hid hA.bytes
  have HNB := Lib.hid (nodes_bd hM)
  have HNL := Lib.hid (nodes_le wss hM32)
  have HLM : Hid (wss.length ≤ 64) := by rw [Hid]; omega
  have HR : Hid (rightR fold wss = true) := by rw [Hid, ← right_eq]; exact hr
  clear r1 r2 r3 r4 r5 r6 hr hM32
  have hB2 : Below w.heap.size w ((w.alloc (.cells (setV fold a la ca) 24)).alloc (.cells (nil4) 34)) := ((Below.refl _ _).alloc (Nat.le_refl _) _).alloc (by simp) _
  have n1 := alloc_at (w := w.alloc (.cells (setV fold a la ca) 24)) (n := w.heap.size + 1) (by simp) (.cells (nil4) 34)
  have n0 : ((w.alloc (.cells (setV fold a la ca) 24)).alloc (.cells (nil4) 34)).heap[w.heap.size]? = some (.cells (setV fold a la ca) 24 (0, 0)) := (Below.heap_alloc _ _ _ (by simp)).trans (World.alloc_heap_new _ _)
  have HC := Lib.hid (rright_any fold a la ca wss _ (hA.below hB2) (by omega) (fun x hx => by have := hM x hx; omega))
  go_enter Tryz.func23, Tryz.ntmps23
  go_wp2_with fail
  refine HC.out.mono ?_
  rintro e w1 ⟨rfl, hb⟩
  rw [HR.out]
  have hB1 : Below w.heap.size w w1 := hB2.trans (hb.mono (by simp; omega))
  have m0 : w1.heap[w.heap.size]? = some (.cells (setV fold a la ca) 24 (0, 0)) := (hb.block _ (by simp; omega)).trans n0
  have m1 : w1.heap[w.heap.size + 1]? = some (.cells nil4 34 (0, 0)) := (hb.block _ (by simp)).trans n1
  have hsz : w.heap.size + 1 < w1.heap.size := (Array.getElem?_eq_some_iff.1 m1).1
  have s1 : w1.cell? ⟨w.heap.size, 1, none⟩ = some (.slice a la ca) := by simp [World.cell?, m0]
  clear hb n1 n0 hB2 HC
  have HND := Lib.hid (rnodes7_any a la ca wss w1 (hA.below hB1) hla hM)
  go_wp2_with fail
  refine HND.out.mono ?_
  rintro e w4 ⟨aN, cN, rfl, hcN, hN, hb⟩
  have hB4 : Below w.heap.size w w4 := hB1.trans (hb.mono hB1.size)
  have k0 : w4.heap[w.heap.size]? = _ := (hb.block _ (by omega)).trans m0
  have k1 : w4.heap[w.heap.size + 1]? = _ := (hb.block _ hsz).trans m1
  have hsz4 : w.heap.size + 1 < w4.heap.size := (Array.getElem?_eq_some_iff.1 k1).1
  clear m0 m1 s1 hb HND hB1 hsz HR
  have HA4 := Lib.hid (hA.below hB4)
  have HN := Lib.hid hN
  obtain ⟨n, hn⟩ : ∃ n, (nodesL wss).length = n := ⟨_, rfl⟩
  rw [hn] at HN hcN ⊢
  have HNN := Lib.hid hn
  have hn6 : n ≤ 2049 := by have h1 := HNL.out; have h2 := HLM.out; omega
  clear hn hN HNL HLM
  go_upto_region 5 with fail
  obtain ⟨W5, hW5⟩ : ∃ W5, W5 = w4.alloc (.cells nil4 34) := ⟨_, rfl⟩
  have hT0 : MT w4.heap.size ((trieP wss).up.take 0) ((trieP wss).dep.take 0) ((trieP wss).wrd.take 0) ((trieP wss).byt.take 0) (.slice none 0 0) (.slice none 0 0) (.slice none 0 0) (.slice none 0 0) W5 := by
    rw [hW5]
    exact ⟨World.alloc_heap_new _ _, World.ownsRow_nil _ _ _ _, World.ownsRow_nil _ _ _ _, World.ownsRow_nil _ _ _ _, World.ownsRow_nil _ _ _ _, sep_nil _, sep_nil _, sep_nil _, sep_nil _, sep_nil _, sep_nil _⟩
  have hB5 : Below w4.heap.size w4 W5 := by rw [hW5]; exact below_alloc _ _
  rw [← hW5]
  clear hW5
  go_wp2
  go_loopw [6] (fun s6 wr => ∃ (i : Nat) (u d x b : Value), i ≤ n ∧ s6 = .int .i64 i ∧ MT w4.heap.size ((trieP wss).up.take i) ((trieP wss).dep.take i) ((trieP wss).wrd.take i) ((trieP wss).byt.take i) u d x b wr ∧ Below w4.heap.size w4 wr) (fun s _ => n - (intOf s).toNat)
  case atStart => exact ⟨0, _, _, _, _, Nat.zero_le _, rfl, hT0, hB5⟩
  case round =>
    clear hT0 hB5
    obtain ⟨i, u, d, x, b, hin, rfl, h, hBe⟩ := hrel
    by_cases hil : i < n
    · have hd : decide ((i : Int) < n) = true := by simp; omega
      obtain ⟨bb, off, aw, lw, cw, y, hbb, hbl, hcell, hy, hY, hlc⟩ := HN.out.at_ hil
      subst hbb
      have hc1 : wr.cell? ⟨bb, off + i, none⟩ = some (.slice aw lw cw) := (hBe.cell (p := ⟨bb, off + i, none⟩) hbl).trans hcell
      have HY := Lib.hid hy
      have HYB := Lib.hid hY
      have hlw : lw ≤ 1000 := by have := HNB.out y (List.mem_of_getElem? hy); rw [hY.len] at this; exact this
      have i1 : (0 : Int) ≤ (i : Int) := by omega
      have i2 : (i : Int) < (n : Int) := by omega
      obtain ⟨e1, e2, e3, e4⟩ := trie_at hy
      have E1 := Lib.hid e1
      have E2 := Lib.hid e2
      have E3 := Lib.hid e3
      have E4 := Lib.hid e4
      obtain ⟨l1, l2, l3, l4⟩ := trie_len wss i (by rw [HNN.out]; exact hin)
      clear e1 e2 e3 e4
      obtain ⟨U, hU⟩ : ∃ U, (trieP wss).up.take i = U := ⟨_, rfl⟩
      obtain ⟨D, hD⟩ : ∃ D, (trieP wss).dep.take i = D := ⟨_, rfl⟩
      obtain ⟨X, hX⟩ : ∃ X, (trieP wss).wrd.take i = X := ⟨_, rfl⟩
      obtain ⟨B, hB⟩ : ∃ B, (trieP wss).byt.take i = B := ⟨_, rfl⟩
      rw [hU] at h E1 l1
      rw [hD] at h E2 l2
      rw [hX] at h E3 l3
      rw [hB] at h E4 l4
      clear hU hD hX hB hy hY
      have hBA : Below w4.heap.size w4 wr := hBe
      go_upto_if 29 with fail
      go_cut [7, 8] (fun s7 s8 wx => s7 = .int .i64 (placeS (nodesL wss) y.dropLast) ∧ s8 = .int .u8 (lastB y) ∧ MT w4.heap.size U D X B u d x b wx ∧ Below w4.heap.size w4 wx)
      case first =>
        by_cases hz : lw = 0
        · subst hz
          have hy0 : y = [] := List.eq_nil_of_length_eq_zero HYB.out.len
          have HU := Lib.hid (up_zero (ws := wss) hy0)
          clear hy0
          go_wp2_with fail
          go_meet
          exact ⟨by rw [HU.out.1], by rw [HU.out.2], h, hBe⟩
        · obtain ⟨q, rfl⟩ : ∃ q, lw = q + 1 := ⟨lw - 1, by omega⟩
          have hd2 : decide ((0 : Int) < ((q + 1 : Nat) : Int)) = true := by simp
          have HDT := Lib.hid (dropLast_take HYB.out.len)
          have hNr := HN.out.below hBe
          have hTr : Bys wr aw q (y.take q) := (HYB.out.below hBe).take (by omega)
          have HP := Lib.hid (rplace7_any (some ⟨bb, off, none⟩) aw n cN q cw (nodesL wss) (y.take q) wr hNr hTr (by omega))
          obtain ⟨b2, o2, c, hb2, hl2, hcc, hc⟩ := sl1_at HYB.out.1 (show q < q + 1 by omega)
          have HLB := Lib.hid (lastB_at HYB.out.len hc)
          subst hb2
          clear hNr hTr hc
          go_wp2_with fail
          refine HP.out.mono ?_
          rintro e w6 ⟨rfl, hb6⟩
          have hBe6 : Below w4.heap.size w4 w6 := hBe.trans (hb6.mono hBe.size)
          have h6 := h.below hb6
          have hc2 : w6.cell? ⟨bb, off + i, none⟩ = some (.slice (some ⟨b2, o2, none⟩) (q + 1) cw) := (hBe6.cell (p := ⟨bb, off + i, none⟩) hbl).trans hcell
          have hc3 : w6.cell? ⟨b2, o2 + q, none⟩ = some (.int .u8 c) := (hBe6.cell (p := ⟨b2, o2 + q, none⟩) hl2).trans hcc
          have i3 : (0 : Int) ≤ (q : Int) := by omega
          have i4 : (q : Int) < ((q + 1 : Nat) : Int) := by omega
          clear hc1 hBe hb6 h
          go_wp2_with fail
          go_meet
          exact ⟨by rw [HDT.out], by rw [HLB.out], h6, hBe6⟩
      case rest =>
        obtain ⟨rfl, rfl, h, hBe⟩ := hcut
        clear hc1 hBA
        obtain ⟨P1, hP1⟩ : ∃ P, placeS (nodesL wss) y.dropLast = P := ⟨_, rfl⟩
        obtain ⟨P2, hP2⟩ : ∃ P, lastB y = P := ⟨_, rfl⟩
        rw [hP1] at E1 ⊢
        rw [hP2] at E4 ⊢
        clear hP1 hP2
        have hlU : U.length ≤ 2049 := by omega
        have hlD : D.length ≤ 2049 := by omega
        have hlX : X.length ≤ 2049 := by omega
        have hlB : B.length ≤ 2049 := by omega
        clear l1 l2 l3 l4
        obtain ⟨au, cu, rfl, _, _⟩ := own_sl1 h.up
        obtain ⟨ad, cd, rfl, _, _⟩ := own_sl1 h.dep
        obtain ⟨ax, cx, rfl, _, _⟩ := own_sl1 h.wrd
        obtain ⟨ab, cb, rfl, _, _⟩ := own_sl1 h.byt
        obtain ⟨⟨c0, c1, c2, c3⟩, cf⟩ := h.cells
        go_upto_region 14 with (at_builtin; refine wpList_append_own_at _ rfl _ _ 32 rfl (w4.heap.size + 1) 3 iI (.int .i64 0) 1 8 Tryz.underlying32 hi hz0 hz1 hz2 rfl (by decide) _ _ _ rfl (h.up.alloc _) ⟨wc.heap.size, 0, none⟩ 1 1 [.int .i64 P1] rfl rfl (cells_new _ _ (by simp)) (by simp [Value.oneCell']) (by unfold maxLen; omega) (by omega) (by have := h.lt; simp; omega) ?_; intro v7 v7w hown7 hg7 hnil7 hat7; obtain ⟨g7, cp7, rfl⟩ := ownsRow_succ hown7; obtain ⟨⟨e70, e71, e72, e73⟩, fz7⟩ := h.cz _ hg7 (row_nm h.up (Nat.lt_succ_self _)))
        obtain ⟨h', hl'⟩ := h.put_u _ hown7 hg7 hat7
        have hBe' := hBe.trans hl'
        clear e70 e71 e72 e73 c0 c1 c2 c3 cf hown7 hg7 hnil7 hat7 hl' fz7 h hBe
        have h := h'
        have hBe := hBe'
        clear h' hBe'
        obtain ⟨Y7, hY⟩ : ∃ Y, Y = v7w.setCell ⟨w4.heap.size, 0, none⟩ (.slice (some ⟨g7, 0, none⟩) (U.length + 1) cp7) := ⟨_, rfl⟩
        rw [← hY] at h hBe ⊢
        clear hY v7w
        obtain ⟨⟨c0, c1, c2, c3⟩, cf⟩ := h.cells
        go_upto_region 15 with (at_builtin; refine wpList_append_own_at _ rfl _ _ 25 rfl (w4.heap.size + 1) 5 iU (.int .u8 0) 1 1 Tryz.underlying25 hj hy0 hy1 hy2 rfl (by decide) _ _ _ rfl (h.byt.alloc _) ⟨Y7.heap.size, 0, none⟩ 1 1 [.int .u8 P2] rfl rfl (cells_new _ _ (by simp)) (by simp [Value.oneCell']) (by unfold maxLen; omega) (by omega) (by have := h.lt; simp; omega) ?_; intro v8 v8w hown8 hg8 hnil8 hat8; obtain ⟨g8, cp8, rfl⟩ := ownsRow_succ hown8; obtain ⟨⟨e80, e81, e82, e83⟩, fz8⟩ := h.cz _ hg8 (row_nm h.byt (Nat.lt_succ_self _)))
        obtain ⟨h', hl'⟩ := h.put_b _ hown8 hg8 hat8
        have hBe' := hBe.trans hl'
        clear e80 e81 e82 e83 c0 c1 c2 c3 cf hown8 hg8 hnil8 hat8 hl' fz8 h hBe
        have h := h'
        have hBe := hBe'
        clear h' hBe'
        obtain ⟨Y8, hY⟩ : ∃ Y, Y = v8w.setCell ⟨w4.heap.size, 3, none⟩ (.slice (some ⟨g8, 0, none⟩) (B.length + 1) cp8) := ⟨_, rfl⟩
        rw [← hY] at h hBe ⊢
        clear hY v8w
        obtain ⟨⟨c0, c1, c2, c3⟩, cf⟩ := h.cells
        go_upto_region 16 with (at_builtin; refine wpList_append_own_at _ rfl _ _ 32 rfl (w4.heap.size + 1) 3 iI (.int .i64 0) 1 8 Tryz.underlying32 hi hz0 hz1 hz2 rfl (by decide) _ _ _ rfl (h.dep.alloc _) ⟨Y8.heap.size, 0, none⟩ 1 1 [.int .i64 (lw : Int)] rfl rfl (cells_new _ _ (by simp)) (by simp [Value.oneCell']) (by unfold maxLen; omega) (by omega) (by have := h.lt; simp; omega) ?_; intro v9 v9w hown9 hg9 hnil9 hat9; obtain ⟨g9, cp9, rfl⟩ := ownsRow_succ hown9; obtain ⟨⟨e90, e91, e92, e93⟩, fz9⟩ := h.cz _ hg9 (row_nm h.dep (Nat.lt_succ_self _)))
        obtain ⟨h', hl'⟩ := h.put_d _ hown9 hg9 hat9
        have hBe' := hBe.trans hl'
        clear e90 e91 e92 e93 c0 c1 c2 c3 cf hown9 hg9 hnil9 hat9 hl' fz9 h hBe
        have h := h'
        have hBe := hBe'
        clear h' hBe'
        obtain ⟨Y9, hY⟩ : ∃ Y, Y = v9w.setCell ⟨w4.heap.size, 1, none⟩ (.slice (some ⟨g9, 0, none⟩) (D.length + 1) cp9) := ⟨_, rfl⟩
        rw [← hY] at h hBe ⊢
        clear hY v9w
        obtain ⟨⟨c0, c1, c2, c3⟩, cf⟩ := h.cells
        have hlt := h.lt
        have HS1 : Y9.cell? ⟨w.heap.size, 1, none⟩ = some (.slice a la ca) := (hBe.cell (p := ⟨w.heap.size, 1, none⟩) (by show w.heap.size < w4.heap.size; omega)).trans (by simp [World.cell?, k0])
        have hc1 : Y9.cell? ⟨bb, off + i, none⟩ = some (.slice aw lw cw) := (hBe.cell (p := ⟨bb, off + i, none⟩) hbl).trans hcell
        have hdd : Below Y9.heap.size Y9 Y9.drew := bel_drewN Y9 1
        have HP := Lib.hid (rplace7_any a aw la ca lw cw wss y Y9.drew ((HA4.out.below hBe).below hdd) ((HYB.out.below hBe).below hdd) (by omega))
        obtain ⟨Z, hZ⟩ : ∃ Z, placeS wss y = Z := ⟨_, rfl⟩
        rw [hZ] at E3 HP
        clear hZ
        go_wp2
        go_region_law (first
          | (go_simp; go_at_call 57; refine HP.out.mono ?_; rintro e w3 ⟨rfl, hb3⟩
             have hB3 : Below Y9.heap.size Y9 w3 := hdd.trans hb3
             have h3 := h.below hB3
             have hBe3 : Below w4.heap.size w4 w3 := hBe.trans (hB3.mono hBe.size)
             obtain ⟨⟨c30, c31, c32, c33⟩, cf3⟩ := h3.cells
             have hl3 : w4.heap.size < w3.heap.size := h3.lt
             have s14 : (w3.alloc (.cells #[.int .i64 Z] 3)).cell? ⟨w4.heap.size, 2, none⟩ = some (.slice ax X.length cx) := by rw [World.cell?_alloc_lt _ _ _ hl3]; exact c32
             have hl3b : w4.heap.size ≠ w3.heap.size := by omega
             have hl3c : w3.heap.size ≠ w4.heap.size := by omega
             dsimp only)
          | (refine step_append_lies _ (by rfl) _ _ 32 (by rfl) (w4.heap.size + 1) 3 iI (.int .i64 0) 1 8 Tryz.underlying32 hi hz0 hz1 hz2 rfl (by decide) (.slice ax X.length cx) X.length (X.map (Value.int .i64)) (by rfl) (h3.wrd.alloc _) ⟨w3.heap.size, 0, none⟩ 1 1 [.int .i64 Z] (by rfl) rfl (cell_one_new _ _ _) (by simp [Value.oneCell']) (by decide) (by unfold maxLen; omega) (by omega) (by simp; omega) _ rfl ?_
             intro g10 cp10 v10w hown10 hg10 hat10 hl10
             obtain ⟨⟨q0, q1, q2, q3⟩, qf⟩ := h3.cz _ hg10 (row_nm h3.wrd (Nat.lt_succ_self _))))
        all_goals
          go_wp2
          obtain ⟨h', hl'⟩ := h3.put_x (z := Z) (.cells #[.int .i64 Z] 3) hown10 hg10 (hat10.elim (fun e => .inl e.symm) (fun e => .inr (by rw [e]; rfl)))
          have hBe' := hBe3.trans hl'
          go_roundw
          case rel => exact ⟨i + 1, _, _, _, _, by omega, by go_num, by rw [E1.out, E2.out, E3.out, E4.out, HYB.out.len]; exact h', hBe'⟩
          case measure => simp [intOf]; omega
    · obtain rfl : i = n := by omega
      have hd : decide ((i : Int) < i) = false := by simp
      obtain ⟨e1, e2, e3, e4⟩ := trie_all wss
      rw [HNN.out] at e1 e2 e3 e4
      rw [e1, e2, e3, e4] at h
      obtain ⟨au, cu, rfl, hcu, rU⟩ := own_sl1 h.up
      obtain ⟨ad, cd, rfl, hcd, rD⟩ := own_sl1 h.dep
      obtain ⟨ax, cx, rfl, hcx, rX⟩ := own_sl1 h.wrd
      obtain ⟨ab, cb, rfl, hcb, rB⟩ := own_sl1 h.byt
      obtain ⟨⟨c0, c1, c2, c3⟩, cf⟩ := h.cells
      have j1 : wr.heap[w.heap.size + 1]? = some (.cells nil4 34 (0, 0)) := (hBe.block _ hsz4).trans k1
      have q0 : wr.cell? ⟨w.heap.size + 1, 0, none⟩ = some (.slice none 0 0) := by simp [World.cell?, j1]
      have q1 : wr.cell? ⟨w.heap.size + 1, 1, none⟩ = some (.slice none 0 0) := by simp [World.cell?, j1]
      have q2 : wr.cell? ⟨w.heap.size + 1, 2, none⟩ = some (.slice none 0 0) := by simp [World.cell?, j1]
      have q3 : wr.cell? ⟨w.heap.size + 1, 3, none⟩ = some (.slice none 0 0) := by simp [World.cell?, j1]
      have f0 : ∀ k, wr.frozen? ⟨w.heap.size + 1, k, none⟩ = false := fun k => by simp [World.frozen?, j1]
      have hz2 := set_at (i := 3) (set_at (i := 2) (set_at (i := 1) (set_at (i := 0) j1 (.slice au (trieP wss).up.length cu)) (.slice ad (trieP wss).dep.length cd)) (.slice ax (trieP wss).wrd.length cx)) (.slice ab (trieP wss).byt.length cb)
      have HZ := Lib.hid hz2
      have hBw : Below w.heap.size w wr := hB4.trans (hBe.mono hB4.size)
      have st : ∀ {V : World} (k : Nat) (u : Value), MT w4.heap.size (trieP wss).up (trieP wss).dep (trieP wss).wrd (trieP wss).byt (.slice au (trieP wss).up.length cu) (.slice ad (trieP wss).dep.length cd) (.slice ax (trieP wss).wrd.length cx) (.slice ab (trieP wss).byt.length cb) V → MT w4.heap.size (trieP wss).up (trieP wss).dep (trieP wss).wrd (trieP wss).byt (.slice au (trieP wss).up.length cu) (.slice ad (trieP wss).dep.length cd) (.slice ax (trieP wss).wrd.length cx) (.slice ab (trieP wss).byt.length cb) (V.setCell ⟨w.heap.size + 1, k, none⟩ u) := fun k u hV =>
        ⟨(Below.heap_setCell _ _ _ _ (by show w4.heap.size ≠ w.heap.size + 1; omega)).trans hV.box, row_set hV.up (by omega) _, row_set hV.dep (by omega) _, row_set hV.wrd (by omega) _, row_set hV.byt (by omega) _, hV.s1, hV.s2, hV.s3, hV.s4, hV.s5, hV.s6⟩
      have HF := Lib.hid (st 3 (.slice ab (trieP wss).byt.length cb) (st 2 (.slice ax (trieP wss).wrd.length cx) (st 1 (.slice ad (trieP wss).dep.length cd) (st 0 (.slice au (trieP wss).up.length cu) h))))
      have HBF := Lib.hid ((((hBw.setCell (p := ⟨w.heap.size + 1, 0, none⟩) (by show w.heap.size ≤ w.heap.size + 1; omega) (.slice au (trieP wss).up.length cu)).setCell (p := ⟨w.heap.size + 1, 1, none⟩) (by show w.heap.size ≤ w.heap.size + 1; omega) (.slice ad (trieP wss).dep.length cd)).setCell (p := ⟨w.heap.size + 1, 2, none⟩) (by show w.heap.size ≤ w.heap.size + 1; omega) (.slice ax (trieP wss).wrd.length cx)).setCell (p := ⟨w.heap.size + 1, 3, none⟩) (by show w.heap.size ≤ w.heap.size + 1; omega) (.slice ab (trieP wss).byt.length cb))
      have HCP := Lib.hid (And.intro hcu (And.intro hcd (And.intro hcx hcb)))
      clear h hz2 hBw st rU rD rX rB hBe e1 e2 e3 e4
      go_wp2
      refine bodyPost_ret (results_trie rfl rfl (by simpa using HZ.out)) rfl ?_
      exact ⟨⟨au, (trieP wss).up.length, cu, ad, (trieP wss).dep.length, cd, ax, (trieP wss).wrd.length, cx, ab, (trieP wss).byt.length, cb⟩, rfl, ⟨own_sl HF.out.up, own_sl HF.out.dep, own_sl HF.out.wrd, ⟨own_sl HF.out.byt, trieP_bd HBY.out⟩, HCP.out⟩, HBF.out⟩

end Go.Proofs.YtbldfgaogmfoaaaGreat

/- The trie of he, she, her; ends; a set's small trie (layer 8's laws): walked. -/

namespace Go.Proofs.YtbldfgaogmfoaaaGreat
open Go.RowKit Go.Sort

/-- What a slice of numbers reads lies in no box of slices: such a box may turn. -/
theorem Sl1.turn {k : IntKind} {W V : World} {a : Option Addr} {n Q : Nat} {xs : List Int} {cs : Array Value} {t : TypeId} {fr : Nat × Nat} (h : Sl1 (Value.int k) W a n xs) (hQ : W.heap[Q]? = some (.cells cs t fr)) (hcs : ∀ (i : Nat) (x : Int), cs[i]? ≠ some (.int k x))
  (hk : ∀ j, j ≠ Q → j < W.heap.size → V.heap[j]? = W.heap[j]?) (hs : W.heap.size ≤ V.heap.size) : Sl1 (Value.int k) V a n xs := by
 refine ⟨h.1, ?_⟩
 rcases h.2 with h0 | ⟨b, off, e, hlt, hc⟩
 · exact .inl h0
 ·
  refine .inr ⟨b, off, e, Nat.lt_of_lt_of_le hlt hs, fun i x hx => ?_⟩
  have h1 := hc i x hx
  have hb : b ≠ Q := by
   rintro rfl
   simp only [World.cell?, hQ] at h1
   exact hcs _ x h1
  rw [← h1]
  exact World.cell?_of_block (hk b hb hlt)
theorem Tri.turn {W V : World} {Q : Nat} {t : TV} {T : TrieT} {cs : Array Value} {ty : TypeId} {fr : Nat × Nat} (h : Tri W t T) (hQ : W.heap[Q]? = some (.cells cs ty fr)) (hcs : ∀ (k : IntKind) (i : Nat) (x : Int), cs[i]? ≠ some (.int k x))
  (hk : ∀ j, j ≠ Q → j < W.heap.size → V.heap[j]? = W.heap[j]?) (hs : W.heap.size ≤ V.heap.size) : Tri V t T :=
 ⟨h.up.turn hQ (hcs _) hk hs, h.dep.turn hQ (hcs _) hk hs, h.wrd.turn hQ (hcs _) hk hs, ⟨h.byt.1.turn hQ (hcs _) hk hs, h.byt.2⟩, h.cap⟩
theorem nil4_noint (k : IntKind) (i : Nat) (x : Int) : nil4[i]? ≠ some (.int k x) := by
 intro h
 rcases i with _ | _ | _ | _ | i <;> simp at h
end Go.Proofs.YtbldfgaogmfoaaaGreat

/- A set's small trie (layer 8's laws): walked. -/

namespace Go.Proofs.YtbldfgaogmfoaaaGreat
open Go.RowKit Go.Sort

theorem gr8_bd {wss : List (List Int)} (h : greatP wss = false) (fold : Bool) : wss.length ≤ 80 ∧ (∀ x ∈ wss, x.length ≤ 3000) ∧ (begL fold wss).length ≤ 3000 := by
 unfold greatP at h
 have h := of_decide_eq_false h
 have h1 : wss.length ≤ 80 := by omega
 have h2 : gsum wss ≤ 3000 := by omega
 have key : ∀ (l : List (List Int)), gsum l ≤ 3000 → (∀ x ∈ l, x.length ≤ 3000) ∧ ((begL fold l).length : Int) = gsum l := by
  intro l
  induction l with
  | nil => intro _; exact ⟨by simp, by simp [begL, gsum]⟩
  | cons x l ih =>
   intro hg
   have e : gsum (x :: l) = min (x.length : Int) 4000 + gsum l := by simp [gsum]
   have hn := gsum_nonneg l
   rw [e] at hg ⊢
   obtain ⟨i1, i2⟩ := ih (by omega)
   refine ⟨fun y hy => ?_, ?_⟩
   ·
    rcases List.mem_cons.1 hy with rfl | hy
    · omega
    · exact i1 y hy
   ·
    have e2 : begL fold (x :: l) = begW (foldL fold x) ++ begL fold l := by simp [begL]
    rw [e2, List.length_append, begW_length, foldL_length]
    omega
 obtain ⟨k1, k2⟩ := key wss h2
 exact ⟨h1, k1, by omega⟩

theorem Wds.turn {W V : World} {Q n : Nat} {a : Option Addr} {l : List (List Int)} {t : TypeId} {fr : Nat × Nat} (h : Wds W a n l) (hQ : W.heap[Q]? = some (.cells nil4 t fr)) (hx : ∃ x ∈ l, x ≠ [])
  (hk : ∀ j, j ≠ Q → j < W.heap.size → V.heap[j]? = W.heap[j]?) (hs : W.heap.size ≤ V.heap.size) : Wds V a n l := by
 obtain ⟨vs, ⟨h1, h2⟩, h3, h4⟩ := h
 have row : ∀ (i : Nat) (v : Option Addr × Nat × Nat) (x : List Int), vs[i]? = some v → l[i]? = some x → Bys V v.1 v.2.1 x ∧ v.2.1 ≤ v.2.2 := fun i v x hv hx => by
  obtain ⟨h5, h6⟩ := h4 i v x hv hx
  exact ⟨⟨h5.1.turn hQ (nil4_noint _) hk hs, h5.2⟩, h6⟩
 obtain ⟨x, hxm, hx0⟩ := hx
 obtain ⟨i, hi⟩ := List.getElem?_of_mem hxm
 have hil := (List.getElem?_eq_some_iff.1 hi).1
 obtain ⟨v, hv⟩ : ∃ v, vs[i]? = some v := ⟨vs[i]'(by omega), by simp⟩
 refine ⟨vs, ⟨h1, ?_⟩, h3, row⟩
 rcases h2 with h2 | ⟨b, off, e, hlt, hc⟩
 · exact .inl h2
 ·
  have hb : b ≠ Q := by
   rintro rfl
   have h5 := hc i v hv
   simp only [World.cell?, hQ] at h5
   have h6 : v.2.1 = 0 := by
    rcases hoi : off + i with _ | _ | _ | _ | k <;> rw [hoi] at h5 <;> simp at h5 <;> omega
   have h7 := (h4 i v x hv hi).1.len
   rw [h6] at h7
   exact hx0 (List.eq_nil_of_length_eq_zero h7)
  exact .inr ⟨b, off, e, Nat.lt_of_lt_of_le hlt hs, fun k u hu => (World.cell?_of_block (hk b hb hlt)).trans (hc k u hu)⟩
end Go.Proofs.YtbldfgaogmfoaaaGreat

/- Tables (layer 11): a table that is filled, its rows; walked. Printed by exp.py. -/

namespace Go.Proofs.YtbldfgaogmfoaaaGreat
open Go.RowKit Go.Sort

/-- The cells of a table that is filled: classes, how many, the rows, the tree, the links. -/
def makC (L : List Int) (m : Int) (row : Value) (t : TV) (lk : Value) : List Value := (L.map (Value.int .i64) ++ [.int .i64 m]) ++ [row, .slice t.ua t.un t.uc, .slice t.da t.dn t.dc, .slice t.xa t.xn t.xc, .slice t.ba t.bn t.bc, lk]
/-- A table that is filled, in a box of its own. -/
structure Mk (W : World) (M : Nat) (L : List Int) (m : Int) (row : Value) (t : TV) (lk : Value) : Prop where
 box : W.heap[M]? = some (.cells (makC L m row t lk).toArray 172 (0, 0))
 len : L.length = 256
theorem Mk.lt {W : World} {M : Nat} {L : List Int} {m : Int} {row lk : Value} {t : TV} (h : Mk W M L m row t lk) : M < W.heap.size := (Array.getElem?_eq_some_iff.1 h.box).1
theorem Mk.below {W V : World} {M : Nat} {L : List Int} {m : Int} {row lk : Value} {t : TV} (h : Mk W M L m row t lk) (hb : Below W.heap.size W V) : Mk V M L m row t lk := ⟨(hb.block M h.lt).trans h.box, h.len⟩
theorem Mk.cls {W : World} {M : Nat} {L : List Int} {m : Int} {row lk : Value} {t : TV} (h : Mk W M L m row t lk) {c : Nat} {v : Int} (hv : L[c]? = some v) : W.cell? ⟨M, c, none⟩ = some (.int .i64 v) := by
 have hc : c < 256 := by have := (List.getElem?_eq_some_iff.1 hv).1; have := h.len; omega
 have e : (makC L m row t lk)[c]? = some (.int .i64 v) := by
  unfold makC
  rw [List.getElem?_append_left (by simp [h.len]; omega), List.getElem?_append_left (by simp [h.len]; omega), List.getElem?_map, hv]
  rfl
 simp only [World.cell?, h.box]
 simp [e]
theorem Mk.off {W : World} {M : Nat} {L : List Int} {m : Int} {row lk : Value} {t : TV} (h : Mk W M L m row t lk) {i : Nat} {v : Value} (hv : [Value.int .i64 m, row, .slice t.ua t.un t.uc, .slice t.da t.dn t.dc, .slice t.xa t.xn t.xc, .slice t.ba t.bn t.bc, lk][i]? = some v) : W.cell? ⟨M, 256 + i, none⟩ = some v := by
 have e : (makC L m row t lk)[256 + i]? = some v := by
  unfold makC
  rw [List.append_assoc, List.getElem?_append_right (by simp [h.len])]
  simpa [h.len] using hv
 simp only [World.cell?, h.box]
 simp [e]
theorem Mk.cells {W : World} {M : Nat} {L : List Int} {m : Int} {row lk : Value} {t : TV} (h : Mk W M L m row t lk) : W.cell? ⟨M, 256, none⟩ = some (.int .i64 m) ∧ W.cell? ⟨M, 257, none⟩ = some row ∧ W.cell? ⟨M, 258, none⟩ = some (.slice t.ua t.un t.uc) ∧ W.cell? ⟨M, 259, none⟩ = some (.slice t.da t.dn t.dc) ∧ W.cell? ⟨M, 260, none⟩ = some (.slice t.xa t.xn t.xc) ∧ W.cell? ⟨M, 261, none⟩ = some (.slice t.ba t.bn t.bc) ∧ W.cell? ⟨M, 262, none⟩ = some lk :=
 ⟨h.off (i := 0) rfl, h.off (i := 1) rfl, h.off (i := 2) rfl, h.off (i := 3) rfl, h.off (i := 4) rfl, h.off (i := 5) rfl, h.off (i := 6) rfl⟩

theorem wrap_nat {x : Nat} (h : x ≤ 1000000000000) : IntKind.i64.wrap (x : Int) = (x : Int) := by simp [IntKind.wrap, IntKind.bits, IntKind.signed]; omega

set_option maxRecDepth 100000 in
set_option maxHeartbeats 4000000 in
theorem row11_any (M R n many node : Nat) (L : List Int) (t : TV) (lk : Value) (w : World) (h : Mk w M L (many : Int) (.slice (some ⟨R, 0, none⟩) (many * n) (many * n)) t lk) (hn : node < n) (hm : many ≤ 1000) (hm1 : 1 ≤ many) (hn2 : n ≤ 1000000) :
  Calls Tryz.prog 131 #[.pointer (some ⟨M, 0, none⟩), .int .i64 (node : Int)] w fun e w' => e = .returned (.slice (some ⟨R, node * many, none⟩) many (many * n - node * many)) ∧ Below w.heap.size w w' := by
 have hle : (node + 1) * many ≤ many * n := by rw [Nat.mul_comm many n]; exact Nat.mul_le_mul_right _ hn
 have hb : many * n ≤ 1000 * 1000000 := Nat.mul_le_mul hm hn2
 have hsu : (node + 1) * many = node * many + many := Nat.succ_mul _ _
 have c1 : (node : Int) * (many : Int) = ((node * many : Nat) : Int) := (Int.natCast_mul _ _).symm
 obtain ⟨Q, hQ⟩ : ∃ Q, many * n = Q := ⟨_, rfl⟩
 obtain ⟨P, hP⟩ : ∃ P, node * many = P := ⟨_, rfl⟩
 rw [hP] at hsu c1 ⊢
 rw [hQ] at h hle hb ⊢
 have e4 : IntKind.i64.wrap (((node : Int) + 1) * (many : Int)) = ((node : Int) + 1) * (many : Int) := by
  have e : ((node : Int) + 1) * (many : Int) = ((P + many : Nat) : Int) := by rw [Int.add_mul, Int.one_mul, c1]; omega
  rw [e]
  exact wrap_nat (by omega)
 have e1 : IntKind.i64.wrap ((node : Int) * (many : Int)) = (node : Int) * (many : Int) := by rw [c1]; exact wrap_nat (by omega)
 have e2 : IntKind.i64.wrap ((node : Int) + 1) = (node : Int) + 1 := wrap_nat (x := node + 1) (by omega)
 have HS : Hid (∀ V, RowKit.Below w.heap.size w V → V.cell? ⟨M, 256, none⟩ = some (.int .i64 (many : Int)) ∧ V.cell? ⟨M, 257, none⟩ = some (.slice (some ⟨R, 0, none⟩) Q Q)) := fun V hV => ⟨((h.below hV).cells).1, ((h.below hV).cells).2.1⟩
 have HC := Lib.hid c1
 have c3 : ((node : Int) + 1) * (many : Int) = ((P + many : Nat) : Int) := by rw [Int.add_mul, Int.one_mul, c1]; omega
 obtain ⟨E, hE⟩ : ∃ E, P + many = E := ⟨_, rfl⟩
 rw [hE] at c3
 have HC3 := Lib.hid c3
 have HE := Lib.hid hE
 have l1 : E ≤ Q := by omega
 have l3 : P ≤ E := by omega
 have l2 : ¬ Q = P := by omega
 clear hsu c1 c3 hP hQ h hE
 clear hle
 go_enter Tryz.func131, Tryz.ntmps131
 go_upto_region 1 with fail
 refine wp_region_noPanic ?_
 refine wp_region_held_drew (S := RowKit.Below w.heap.size w) (by kernel_rfl) (bel_drewN w 1) (fun hHeld => ?_)
 change wpAnyH _ _ _ _ _ 22 _ _ _
 iterate 4 (refine tkF 21 (v := ?_) ?_ ?_; rotate_left; (· intro V hV; first | (go_simp; done) | (go_simp; with_reducible rfl)); try simp only [Act.put, pA, pB, pC])
 refine tkW 4 (v := ?_) ?_ ?_
 rotate_left
 ·
  intro V hV
  have r0 := (HS.out V hV).2
  first | (go_simp; done) | (go_simp; with_reducible rfl)
 try simp only [Act.put, pA, pB, pC]
 iterate 5 (refine tkF 21 (v := ?_) ?_ ?_; rotate_left; (· intro V hV; first | (go_simp; done) | (go_simp; with_reducible rfl)); try simp only [Act.put, pA, pB, pC])
 refine tkW 10 (v := ?_) ?_ ?_
 rotate_left
 ·
  intro V hV
  have r0 := (HS.out V hV).1
  first | (go_simp; done) | (go_simp; with_reducible rfl)
 try simp only [Act.put, pA, pB, pC]
 iterate 7 (refine tkF 21 (v := ?_) ?_ ?_; rotate_left; (· intro V hV; first | (go_simp; done) | (go_simp; with_reducible rfl)); try simp only [Act.put, pA, pB, pC])
 refine tkW 18 (v := ?_) ?_ ?_
 rotate_left
 ·
  intro V hV
  have r0 := (HS.out V hV).1
  first | (go_simp; done) | (go_simp; with_reducible rfl)
 try simp only [Act.put, pA, pB, pC]
 refine tkW 19 (v := ?_) ?_ ?_
 rotate_left
 ·
  intro V hV
  first | (go_simp; done) | (go_simp; with_reducible rfl)
 try simp only [Act.put, pA, pB, pC]
 rw [HC.out, HC3.out]
 clear e1 e2 e4
 iterate 2 (refine tkF 21 (v := ?_) ?_ ?_; rotate_left; (· intro V hV; first | (go_simp; done) | (go_simp; with_reducible rfl)); try simp only [Act.put, pA, pB, pC])
 refine wpAnyH_done (by kernel_rfl) ?_ _
 refine NoPanic.normal ?_
 go_wp2_with fail
 have hEP : E - P = many := by have := HE.out; omega
 rw [hEP]
 go_ret
 exact ⟨rfl, bel_drewN w 1⟩
end Go.Proofs.YtbldfgaogmfoaaaGreat

/- Tables (layer 11): a node's kids, each with the class of its byte: the iterator, walked. -/

namespace Go.Proofs.YtbldfgaogmfoaaaGreat
open Go.RowKit Go.Sort
attribute [local go_sem] Oper.semAt_some
attribute [local simp] wide_fn wide_depth
attribute [local go_sem] wide_fn wide_depth

/-- The kids of a node, of the first nodes, each with its byte. -/
def kidsA (T : TrieT) (node : Int) : Nat → List (Int × Nat)
 | 0 => []
 | k + 1 => kidsA T node k ++ (if 1 ≤ k ∧ T.up[k]? = some node then [((T.byt[k]?).getD 0, k)] else [])
theorem kidsA_length (T : TrieT) (node : Int) : ∀ k, (kidsA T node k).length ≤ k
 | 0 => by simp [kidsA]
 | k + 1 => by
  have := kidsA_length T node k
  unfold kidsA
  rw [List.length_append]
  split <;> simp <;> omega
theorem mem_kidsA {T : TrieT} {node : Int} {p : Int × Nat} : ∀ {k : Nat}, p ∈ kidsA T node k ↔ 1 ≤ p.2 ∧ p.2 < k ∧ T.up[p.2]? = some node ∧ p.1 = (T.byt[p.2]?).getD 0
 | 0 => by simp [kidsA]
 | k + 1 => by
  unfold kidsA
  rw [List.mem_append, mem_kidsA (k := k)]
  constructor
  ·
   rintro (⟨h1, h2, h3⟩ | h)
   · exact ⟨h1, by omega, h3⟩
   ·
    split at h
    ·
     rename_i hc
     rw [List.mem_singleton] at h
     subst h
     exact ⟨hc.1, by dsimp only; omega, hc.2, rfl⟩
    · cases h
  ·
   rintro ⟨h1, h2, h3, h4⟩
   by_cases e : p.2 = k
   ·
    right
    subst e
    rw [if_pos ⟨h1, h3⟩, List.mem_singleton]
    exact Prod.ext h4 rfl
   · exact .inl ⟨h1, by omega, h3, h4⟩
/-- The kids of a node, of the first nodes, each with the class of its byte. -/
def kidsQ (L : List Int) (T : TrieT) (node : Int) (k : Nat) : List (Nat × Nat) := (kidsA T node k).map fun p => (((L[p.1.toNat]?).getD 0).toNat, p.2)
abbrev KdQ (many : Nat) := { p : Nat × Nat // p.1 < many }
def kqEnc {many : Nat} (p : KdQ many) : Array Value := #[.int .i64 (p.1.1 : Int), .int .i64 (p.1.2 : Int)]

theorem kids11_any (M : Nat) (node : Int) (w : World) :
  Calls Tryz.prog 132 #[.pointer (some ⟨M, 0, none⟩), .int .i64 node] w fun e w' => e = .returned (.func (.func 147) #[] #[.pointer (some ⟨w.heap.size, 0, none⟩), .pointer (some ⟨w.heap.size + 1, 0, none⟩)]) ∧
   w' = (w.alloc (.cells #[.pointer (some ⟨M, 0, none⟩)] 204)).alloc (.cells #[.int .i64 node] 3) := by
 go_enter Tryz.func132, Tryz.ntmps132
 go_wp2
 go_ret
 exact ⟨rfl, rfl⟩

set_option maxRecDepth 100000 in
set_option maxHeartbeats 4000000 in
theorem kids11_stops (t : TV) (T : TrieT) (M R p1 p2 many : Nat) (node : Int) (m : Int) (row lk : Value) (L : List Int) (n : Nat) (w : World) (hT : Tri w t T) (hn : T.byt.length = T.up.length) (hn4 : T.up.length ≤ 400)
  (hM : Mk w M L m row t lk) (hL : ∀ (c : Nat) (v : Int), L[c]? = some v → 0 ≤ v ∧ v < (many : Int))
  (h1 : w.heap[p1]? = some (.cells #[.pointer (some ⟨M, 0, none⟩)] 204 (0, 0))) (h2 : w.heap[p2]? = some (.cells #[.int .i64 node] 3 (0, 0)))
  (hR : M ≠ R ∧ p1 ≠ R ∧ p2 ≠ R ∧ (∀ a, t.ua = some a → a.block ≠ R) ∧ (∀ a, t.ba = some a → a.block ≠ R)) :
  SeqStopsK Fence.wide n Tryz.prog 147 #[.pointer (some ⟨p1, 0, none⟩), .pointer (some ⟨p2, 0, none⟩)] (kqEnc (many := many)) (keepOn (fun k => k < w.heap.size ∧ k ≠ R)) (fun zs => zs.map Subtype.val = kidsQ L T node T.up.length) (fun _ => True) 1000001 w := by
 intro l J Jx W hW hJ hJx hY h0
 have hkW : keepOn (fun k => k < w.heap.size ∧ k ≠ R) w W := keepOn_of_below hW (fun k hk => hk.1)
 obtain ⟨ua, un, uc, da, dn, dc, xa, xn, xc, ba, bn, bc⟩ := t
 dsimp only at hR
 obtain ⟨r0, r1, r2, r3, r4⟩ := hR
 have hp1 : p1 < w.heap.size := (Array.getElem?_eq_some_iff.1 h1).1
 have hp2 : p2 < w.heap.size := (Array.getElem?_eq_some_iff.1 h2).1
 have hgl : M < w.heap.size := hM.lt
 have cells : ∀ v : World, keepOn (fun k => k < w.heap.size ∧ k ≠ R) w v → v.cell? ⟨p1, 0, none⟩ = some (.pointer (some ⟨M, 0, none⟩)) ∧ v.cell? ⟨p2, 0, none⟩ = some (.int .i64 node) ∧ v.cell? ⟨M, 258, none⟩ = some (.slice ua un uc) ∧ v.cell? ⟨M, 261, none⟩ = some (.slice ba bn bc) ∧ (∀ (c : Nat) (v' : Int), L[c]? = some v' → v.cell? ⟨M, c, none⟩ = some (.int .i64 v')) := by
  intro v hv
  have e1 := (hv p1 ⟨hp1, r1⟩).trans h1
  have e2 := (hv p2 ⟨hp2, r2⟩).trans h2
  have e3 : Mk v M L m row ⟨ua, un, uc, da, dn, dc, xa, xn, xc, ba, bn, bc⟩ lk := ⟨(hv M ⟨hgl, r0⟩).trans hM.box, hM.len⟩
  refine ⟨by simp [World.cell?, e1], by simp [World.cell?, e2], e3.cells.2.2.1, e3.cells.2.2.2.2.2.1, fun c v' h => e3.cls h⟩
 have kc : ∀ (v : World) (p : Addr), keepOn (fun k => k < w.heap.size ∧ k ≠ R) w v → p.block < w.heap.size → p.block ≠ R → v.cell? p = w.cell? p := fun v p hv hp hr => World.cell?_of_block (hv _ ⟨hp, hr⟩)
 have KC := Lib.hid kc
 have HL := Lib.hid hL
 have HLn := Lib.hid hM.len
 have HC := Lib.hid cells
 have HT := Lib.hid hT
 have hun : Hid (T.up.length = un) := hT.up.1
 have hbn : bn = un := by have h1 : T.byt.length = bn := hT.byt.1.1; have := hun.out; omega
 have hu4 : un ≤ 400 := by have := hun.out; omega
 subst hbn
 clear hT hn hn4 hM h1 h2 cells hL kc
 obtain ⟨c1, c2, c3, c4, _⟩ := HC.out W hkW
 refine callsIn_of_wp Tryz.func147 rfl trivial ?_ rfl
 simp only [Tryz.ntmps147, List.size_toArray, List.length_cons, List.length_nil, Nat.reduceAdd, Nat.reduceSub, Array.replicate_succ, Array.replicate_zero, List.push_toArray, List.append_toArray, List.nil_append, List.cons_append]
 gi_wp2
 clear c1 c2 c3 c4
 gi_loopw [4] (fun i wr => ∃ (k : Nat) (pre : List (KdQ many)), 1 ≤ k ∧ i = .int .i64 k ∧ Hid (pre.map Subtype.val = kidsQ L T node k) ∧ Hid (k ≤ max bn 1) ∧ J pre wr ∧ keepOn (fun k => k < w.heap.size ∧ k ≠ R) w wr) (fun i _ => bn - (intOf i).toNat)
 case atStart => exact ⟨1, [], Nat.le_refl _, rfl, (by simp [Hid, kidsQ, kidsA]), Nat.le_max_right _ _, h0, hkW⟩
 case round =>
  obtain ⟨k, pre, hk, rfl, HP, HK, hj, hkr⟩ := hrel
  obtain ⟨c1, c2, c3, c4, c5⟩ := HC.out wr hkr
  by_cases hlt : k < bn
  ·
   have hdk : decide ((k : Int) < bn) = true := by simp; omega
   obtain ⟨b0, o0, u, e0, hl0, cu0, hu⟩ := sl1_at HT.out.up hlt
   subst e0
   obtain ⟨b3, o3, c, e3, hl3, cb0, hc⟩ := sl1_at HT.out.byt.1 hlt
   subst e3
   have cu : wr.cell? ⟨b0, o0 + k, none⟩ = some (.int .i64 u) := (KC.out wr ⟨b0, o0 + k, none⟩ hkr hl0 (r3 ⟨b0, o0, none⟩ rfl)).trans cu0
   have cb : wr.cell? ⟨b3, o3 + k, none⟩ = some (.int .u8 c) := (KC.out wr ⟨b3, o3 + k, none⟩ hkr hl3 (r4 ⟨b3, o3, none⟩ rfl)).trans cb0
   have hcr := HT.out.byt.2 c (List.mem_of_getElem? hc)
   have hplen : pre.length ≤ k := by have h1 := congrArg List.length HP.out; have := kidsA_length T node k; unfold kidsQ at h1; rw [List.length_map, List.length_map] at h1; omega
   have i1 : (0 : Int) ≤ (k : Int) := by omega
   have i2 : (k : Int) < (bn : Int) := by omega
   obtain ⟨c, rfl⟩ : ∃ c' : Nat, c = (c' : Int) := ⟨c.toNat, by omega⟩
   obtain ⟨v, hv⟩ : ∃ v, L[c]? = some v := ⟨L[c]'(by rw [HLn.out]; omega), by simp⟩
   obtain ⟨hv0, hv1⟩ := HL.out c v hv
   obtain ⟨v, rfl⟩ : ∃ v' : Nat, v = (v' : Int) := ⟨v.toNat, by omega⟩
   have cv := c5 c _ hv
   have i3 : (0 : Int) ≤ (c : Int) := by omega
   have i4 : (c : Int) < 256 := by omega
   by_cases hun2 : u = node
   ·
    subst hun2
    have HS : Hid ((pre ++ [(⟨(v, k), by dsimp only; omega⟩ : KdQ many)]).map Subtype.val = kidsQ L T u (k + 1)) := by
     unfold Hid kidsQ kidsA
     rw [if_pos ⟨hk, hu⟩, List.map_append, List.map_append, HP.out, hc]
     unfold kidsQ
     simp [hv]
    clear cu0 cb0 hu hc c5 hv
    gi_wp2
    refine regionR_drawn_tail (wideF _ _) 27 mixed (by kernel_rfl) (by kernel_rfl) ?_
    dsimp only [List.take_succ_cons, List.take_zero, List.drop_succ_cons, List.drop_zero]
    repeat (go_big_quiet_step (fail))
    refine wpQuiet_nil ?_
    rintro _ ⟨nq, rfl⟩
    have hb0 : Below wr.heap.size wr (wr.drewN nq) := ⟨rfl, rfl, rfl, Nat.le_refl _, fun _ _ => rfl⟩
    obtain ⟨fn, tmps, assign, body, hyl, hRo⟩ := hY pre ⟨(v, k), by dsimp only; omega⟩ (wr.drewN nq) (abides_below hJ hj hb0) (by omega)
    dsimp only [kqEnc] at hyl
    gi_wp2
    refine hRo.mono ?_
    rintro e W4 (⟨rfl, hJ4, hk4⟩ | ⟨rfl, hJx4⟩)
    ·
     gi_wp2
     go_roundw
     case rel => exact ⟨k + 1, _, by omega, by go_num, HS, (by unfold Hid; omega), hJ4, keepOn_t hkr hk4⟩
     case measure => simp [intOf]; omega
    ·
     gi_wp2
     refine bodyPost_ret (results_none rfl _ _ _) rfl ?_
     exact ⟨⟨_, rfl⟩, .inr ⟨_, trivial, hJx4⟩⟩
   ·
    have hd : (u == node) = false := by simpa using hun2
    have HS : Hid (pre.map Subtype.val = kidsQ L T node (k + 1)) := by
     unfold Hid kidsQ kidsA
     rw [if_neg (fun h => hun2 (by have := h.2; rw [hu] at this; exact Option.some.inj this)), HP.out, List.append_nil]
     rfl
    clear cu0 cb0 hu hc c5 hv
    gi_wp2
    refine regionR_drawn (wideF _ _) mixed (by kernel_rfl) (by kernel_rfl) ?_
    repeat (go_big_quiet_step (fail))
    refine wpQuiet_nil ?_
    rintro _ ⟨nq, rfl⟩
    have hb0 : Below wr.heap.size wr (wr.drewN nq) := ⟨rfl, rfl, rfl, Nat.le_refl _, fun _ _ => rfl⟩
    have hkr2 : keepOn (fun k => k < w.heap.size ∧ k ≠ R) w (wr.drewN nq) := hkr
    gi_wp2
    go_roundw
    case rel => exact ⟨k + 1, _, by omega, by go_num, HS, (by unfold Hid; omega), abides_below hJ hj hb0, hkr2⟩
    case measure => simp [intOf]; omega
  ·
   have hdk : decide ((k : Int) < bn) = false := by simp; omega
   clear c5
   gi_wp2
   go_end0
   refine ⟨⟨_, rfl⟩, .inl ⟨pre, ?_, hj⟩⟩
   show pre.map Subtype.val = kidsQ L T node T.up.length
   rw [HP.out, hun.out]
   have hmx := HK.out
   by_cases e : bn = 0
   ·
    obtain rfl : k = 1 := by omega
    subst e
    simp [kidsQ, kidsA]
   ·
    obtain rfl : k = bn := by omega
    rfl
end Go.Proofs.YtbldfgaogmfoaaaGreat

/- Tables (layer 11): a node's row is filled; walked. Printed by exp.py. -/

namespace Go.Proofs.YtbldfgaogmfoaaaGreat
open Go.RowKit Go.Sort

/-- A list with a part laid anew from a place on. -/
def spl (F : List Int) (P : Nat) (r : List Int) : List Int := F.take P ++ r ++ F.drop (P + r.length)
theorem spl_len {F r : List Int} {P : Nat} (h : P + r.length ≤ F.length) : (spl F P r).length = F.length := by unfold spl; simp; omega
theorem spl_same {F : List Int} {P m : Nat} (h : P + m ≤ F.length) : spl F P ((F.drop P).take m) = F := by
 unfold spl
 have hl : ((F.drop P).take m).length = m := by simp; omega
 rw [hl, List.append_assoc, ← List.drop_drop, List.take_append_drop, List.take_append_drop]
theorem spl_at {F r : List Int} {P i : Nat} (h : P + r.length ≤ F.length) (hi : i < r.length) : (spl F P r)[P + i]? = r[i]? := by
 unfold spl
 rw [List.append_assoc, List.getElem?_append_right (by simp; omega)]
 rw [List.length_take, Nat.min_eq_left (by omega), Nat.add_sub_cancel_left, List.getElem?_append_left hi]
theorem spl_set {F r : List Int} {P i : Nat} (h : P + r.length ≤ F.length) (hi : i < r.length) (v : Int) : (spl F P r).set (P + i) v = spl F P (r.set i v) := by
 unfold spl
 have e1 : (F.take P).length = P := by simp; omega
 rw [List.length_set, List.append_assoc, List.set_append_right _ _ (by omega), e1, Nat.add_sub_cancel_left, List.set_append_left _ _ hi, List.append_assoc]
/-- A row with its kids laid. -/
def kidsOn (r : List Int) (ks : List (Nat × Nat)) : List Int := ks.foldl (fun r p => r.set p.1 (p.2 : Int)) r
theorem kidsOn_len (ks : List (Nat × Nat)) : ∀ r : List Int, (kidsOn r ks).length = r.length := by
 induction ks with
 | nil => intro r; rfl
 | cons k ks ih => intro r; show (kidsOn (r.set k.1 _) ks).length = _; rw [ih]; simp
theorem kidsOn_snoc (r : List Int) (ks : List (Nat × Nat)) (p : Nat × Nat) : kidsOn r (ks ++ [p]) = (kidsOn r ks).set p.1 (p.2 : Int) := by unfold kidsOn; rw [List.foldl_append]; rfl

theorem IntRow.cell {g : Nat} {l : List Int} {W : World} (h : IntRow g l W) {i : Nat} {v : Int} (hv : l[i]? = some v) : W.cell? ⟨g, i, none⟩ = some (.int .i64 v) := by
 rw [cell_of_row W g i _ _ _ h]
 simp [hv]
theorem IntRow.frozen {g : Nat} {l : List Int} {W : World} (h : IntRow g l W) (i : Nat) : W.frozen? ⟨g, i, none⟩ = false := by
 have h2 : W.heap[g]? = some (.cells (l.map (Value.int .i64)).toArray 3 (0, 0)) := h
 simp [World.frozen?, h2]
theorem IntRow.lt {g : Nat} {l : List Int} {W : World} (h : IntRow g l W) : g < W.heap.size := (Array.getElem?_eq_some_iff.1 h).1
theorem introw_own {β : Type} (g : Nat) (f : β → List Int) : Own (fun s W => IntRow g (f s) W) := fun s X Y row hs hg hrow => by
 have hs2 : X.heap[g]? = some (.cells ((f s).map (Value.int .i64)).toArray 3 (0, 0)) := hs
 exact (hg.block g hs.lt (fun e => by obtain ⟨o, ho, hc⟩ := hrow g e.symm; rw [hs2] at ho; cases ho; cases hc)).trans hs2

set_option maxRecDepth 100000 in
set_option maxHeartbeats 8000000 in
theorem copy11 (w : World) (R P K m c1 c2 : Nat) (F : List Int) (ty : TypeId) (hR : IntRow R F w) (hP : P + m ≤ F.length) (hK : K + m ≤ F.length) :
  (Builtin.copy_ #[32, 32] ty #[.slice (some ⟨R, P, none⟩) m c1, .slice (some ⟨R, K, none⟩) m c2]).run Tryz.prog w = .ok (.int .i64 m) (w.setRow R ((spl F P ((F.drop K).take m)).map (Value.int .i64)).toArray) := by
 have hl : ((F.drop K).take m).length = m := by simp; omega
 have h := run_copy_row (P := Tryz.prog) w 32 32 ty 3 R P m c1 ⟨R, K, none⟩ m c2 ((F.map (Value.int .i64)).toArray) 3 (((F.drop K).take m).map (Value.int .i64)) Tryz.underlying32 (by kernel_rfl) hR
  (by rw [List.length_map, hl]; exact (Nat.min_self m).symm)
  (fun j v hv => by
   rw [List.getElem?_map, Option.map_eq_some_iff] at hv
   obtain ⟨x, hx, rfl⟩ := hv
   have hj : j < m := by have := (List.getElem?_eq_some_iff.1 hx).1; omega
   rw [List.getElem?_take_of_lt hj, List.getElem?_drop] at hx
   have e : (⟨R, K, none⟩ : Addr).add j = ⟨R, K + j, none⟩ := by unfold Addr.add; split <;> simp_all
   rw [e]
   exact hR.cell hx)
  (by rw [List.length_map, hl]; simp; omega)
  (fun v hv => by obtain ⟨x, _, rfl⟩ := List.mem_map.1 hv; rfl)
 rw [h, List.length_map, hl]
 unfold spl
 rw [hl]
 simp [goInt]

theorem wp_copy11 (w : World) {o : Oper} {a : Act} {K : Act → World → Prop} {Q : Exit → Act → World → Prop} (d s : Operand) (t t' : TypeId)
  (ho : o.op = .call { callee := .builtin .copy, args := #[d, s], argTypes := #[t, t'] }) (v u : Value) (hd : a.eval d = v) (hs : a.eval s = u) {v' : Value} {w' : World}
  (hr : (Builtin.copy_ #[t, t'] o.type #[v, u]).run Tryz.prog w = .ok v' w') (h : K (a.put o.dst v') w') : o.wp Tryz.prog a w K Q := by
 unfold Oper.wp
 simp only [execOp, ho, resolve, invoke, builtin, Sem.run_bind, Sem.run_pure, Result.andThen_ok, List.map_toArray, List.map_cons, List.map_nil, hd, hs, hr]
 exact h

end Go.Proofs.YtbldfgaogmfoaaaGreat
