/- Parts of the proof, one behind the other: O4, O5, O6, I1, I2, H1, I3, Jp. No condition but what each theorem states. -/
import Derived.Laws.StructEq
import Derived.BigRegion
import Derived.Shelf.SlGeneric
import Derived.Shelf.SlLaysF0
import Derived.Test.YtmpmjkbjnklgfaaProg
import Derived.Shelf.SlSortCmp.Xorshift
import Derived.Test.YtmpmjkbjnklgfaaW5

/- Which sets and places may be, which hit comes ahead, whether hits rise (layer 6): walked. -/

namespace Go.Proofs.Ytmpmjkbjnklgfaa
open Go.RowKit Go.Sort
set_option linter.unusedVariables false

def mayP (fold : Bool) (wss : List (List Int)) (frm : Int) : Bool := decide (0 ≤ frm ∧ frm ≤ 4611686018427387904) && rightP fold wss

set_option maxHeartbeats 1000000 in
theorem may_any (fold : Bool) (a : Option Addr) (la ca : Nat) (frm : Int) (wss : List (List Int)) (w : World) (hA : Wds w a la wss) (hla : la ≤ 1000000) (hM : ∀ x ∈ wss, x.length ≤ 1000000) (hT : (begL fold wss).length ≤ 1000000) :
    Calls Try.prog 70 #[.agg (setV fold a la ca), .int .i64 frm] w fun e w' => e = .returned (.bool (mayP fold wss frm)) ∧ Below w.heap.size w w' := by
  have hB0 : Below w.heap.size w (w.alloc (.cells (setV fold a la ca) 39)) := (Below.refl _ _).alloc (Nat.le_refl _) _
  by_cases h0 : 0 ≤ frm
  · by_cases h1 : frm ≤ 4611686018427387904
    · have HE : Hid (mayP fold wss frm = rightP fold wss) := by rw [Hid, mayP, decide_eq_true ⟨h0, h1⟩, Bool.true_and]
      go_enter Try.func70, Try.ntmps70
      go_wp2_with fail
      refine (pright_any fold a la ca wss _ (hA.below hB0) hla hM hT).mono ?_
      rintro e w1 ⟨rfl, hb⟩
      go_wp2
      go_ret
      exact ⟨by rw [HE.out]; rfl, hB0.trans (hb.mono (by simp))⟩
    · have HE : Hid (mayP fold wss frm = false) := by rw [Hid, mayP, decide_eq_false (by omega), Bool.false_and]
      go_enter Try.func70, Try.ntmps70
      go_wp2
      go_ret
      exact ⟨by rw [HE.out]; rfl, hB0⟩
  · have HE : Hid (mayP fold wss frm = false) := by rw [Hid, mayP, decide_eq_false (by omega), Bool.false_and]
    go_enter Try.func70, Try.ntmps70
    go_wp2
    go_ret
    exact ⟨by rw [HE.out]; rfl, hB0⟩

abbrev gathV (fold : Bool) (a : Option Addr) (la ca : Nat) (frm : Int) (hits : Value) : Array Value := #[.bool fold, .slice a la ca, .int .i64 frm, hits]

set_option maxHeartbeats 1000000 in
theorem less_any (fold : Bool) (a : Option Addr) (la ca : Nat) (x y : HitP) (wss : List (List Int)) (w : World) (hA : Wds w a la wss) (hla : la ≤ 1000000) :
    Calls Try.prog 33 #[.agg (setV fold a la ca), .agg #[.int .i64 x.1, .int .i64 x.2], .agg #[.int .i64 y.1, .int .i64 y.2]] w fun e w' => e = .returned (.bool (lessH wss x y)) ∧ Below w.heap.size w w' := by
  have hB4 : Below w.heap.size w ((((w.alloc (.cells (setV fold a la ca) 39)).alloc (.cells #[.int .i64 x.1, .int .i64 x.2] 43)).alloc (.cells #[.int .i64 y.1, .int .i64 y.2] 43)).alloc (.cells (gathV fold a la ca 0 (.slice none 0 0)) 94)) :=
    ((((Below.refl _ _).alloc (Nat.le_refl _) _).alloc (by simp) _).alloc (by simp; omega) _).alloc (by simp; omega) _
  have HE : Hid (lessH wss x y = decide (ordH wss x y < 0)) := rfl
  go_enter Try.func33, Try.ntmps33
  go_wp2_with fail
  refine (orderB_any _ x y a la ca wss _ (by simp) (cell_new (by simp) rfl) (hA.below hB4) hla).mono ?_
  rintro e w1 ⟨rfl, hb⟩
  go_wp2
  go_ret
  exact ⟨by rw [HE.out]; rfl, hB4.trans (hb.mono (by simp; omega))⟩

theorem riseH_snoc {wss : List (List Int)} {l : List HitP} {x y : HitP} (h : l.getLast? = some x) : riseH wss (l ++ [y]) = (riseH wss l && lessH wss x y) := by
  induction l with
  | nil => simp at h
  | cons a l ih =>
    cases l with
    | nil =>
      simp at h
      subst h
      simp [riseH]
    | cons b l =>
      have := ih (by simpa using h)
      rw [List.cons_append, List.cons_append]
      simp only [riseH]
      rw [← List.cons_append, this, Bool.and_assoc]
theorem riseH_take {wss : List (List Int)} {l : List HitP} {k : Nat} {x y : HitP} (hx : l[k]? = some x) (hy : l[k + 1]? = some y) : riseH wss (l.take (k + 2)) = (riseH wss (l.take (k + 1)) && lessH wss x y) := by
  rw [take_step (k := k + 1) hy, riseH_snoc]
  rw [take_step hx]
  simp
theorem riseH_no {wss : List (List Int)} {l : List HitP} {k : Nat} (h : riseH wss (l.take k) = false) : riseH wss l = false := by
  cases e : riseH wss l with
  | false => rfl
  | true =>
    have := riseH_pairwise.1 e
    have h2 : riseH wss (l.take k) = true := riseH_pairwise.2 (this.sublist (List.take_sublist _ _))
    rw [h] at h2
    cases h2

set_option maxHeartbeats 2000000 in
theorem orise_any (fold : Bool) (a b : Option Addr) (la ca lb cb : Nat) (l : List HitP) (wss : List (List Int)) (w : World) (hA : Wds w a la wss) (hL : Hts w b lb l) (hla : la ≤ 1000000) (hlb : lb ≤ 4611686018427387904) :
    Calls Try.prog 35 #[.agg (setV fold a la ca), .slice b lb cb] w fun e w' => e = .returned (.bool (riseH wss l)) ∧ Below w.heap.size w w' := by
  have hB0 : Below w.heap.size w (w.alloc (.cells (setV fold a la ca) 39)) := (Below.refl _ _).alloc (Nat.le_refl _) _
  have hnew := World.alloc_heap_new w (.cells (setV fold a la ca) 39)
  have HLN := Lib.hid hL.len
  go_enter Try.func35, Try.ntmps35
  go_wp2
  go_loopw [5] (fun i wr => ∃ k : Nat, (k = 0 ∨ k < lb) ∧ i = .int .i64 ((k : Int) + 1) ∧ Hid (riseH wss (l.take (k + 1)) = true) ∧ Below w.heap.size w wr ∧ wr.heap[w.heap.size]? = some (.cells (setV fold a la ca) 39 (0, 0))) (fun i _ => lb - (intOf i).toNat)
  case atStart =>
    refine ⟨0, .inl rfl, rfl, ?_, hB0, hnew⟩
    cases l <;> simp [Hid, riseH]
  case round =>
    obtain ⟨k, hk, rfl, HK, hBe, hsr⟩ := hrel
    by_cases hlt : k + 1 < lb
    · have hLr := hL.below hBe
      obtain ⟨bb, off, x, rfl, hbl, cx0, cx1, hx, _, _⟩ := hLr.at_ (show k < lb by omega)
      obtain ⟨_, _, y, e, _, cy0, cy1, hy, _, _⟩ := hLr.at_ hlt
      injection e with e
      injection e with e1 e2
      subst e1 e2
      clear hk
      have HS : Hid (riseH wss (l.take (k + 1 + 1)) = lessH wss x y) := by
        have := riseH_take (wss := wss) hx hy
        rw [HK.out, Bool.true_and] at this
        exact this
      have hAr := hA.below hBe
      clear hx hy hLr
      have hszr : w.heap.size < wr.heap.size := (Array.getElem?_eq_some_iff.1 hsr).1
      have s0 : ∀ d os, (grow (redrawn wr d) os).cell? ⟨w.heap.size, 0, none⟩ = some (.bool fold) := fun d os => ((below_regrown wr d os).cell (p := ⟨w.heap.size, 0, none⟩) hszr).trans (by simp [World.cell?, hsr])
      have s1 : ∀ d os, (grow (redrawn wr d) os).cell? ⟨w.heap.size, 1, none⟩ = some (.slice a la ca) := fun d os => ((below_regrown wr d os).cell (p := ⟨w.heap.size, 1, none⟩) hszr).trans (by simp [World.cell?, hsr])
      have x0 : ∀ d os, (grow (redrawn wr d) os).cell? ⟨bb, off + k * 2, none⟩ = some (.int .i64 x.1) := fun d os => ((below_regrown wr d os).cell (p := ⟨bb, off + k * 2, none⟩) hbl).trans cx0
      have x1 : ∀ d os, (grow (redrawn wr d) os).cell? ⟨bb, off + k * 2 + 1, none⟩ = some (.int .i64 x.2) := fun d os => ((below_regrown wr d os).cell (p := ⟨bb, off + k * 2 + 1, none⟩) hbl).trans cx1
      have y0 : ∀ d os, (grow (redrawn wr d) os).cell? ⟨bb, off + (k + 1) * 2, none⟩ = some (.int .i64 y.1) := fun d os => ((below_regrown wr d os).cell (p := ⟨bb, off + (k + 1) * 2, none⟩) hbl).trans cy0
      have y1 : ∀ d os, (grow (redrawn wr d) os).cell? ⟨bb, off + (k + 1) * 2 + 1, none⟩ = some (.int .i64 y.2) := fun d os => ((below_regrown wr d os).cell (p := ⟨bb, off + (k + 1) * 2 + 1, none⟩) hbl).trans cy1
      have hA2 : ∀ d os, Wds (grow (redrawn wr d) os) a la wss := fun d os => hAr.below (below_regrown wr d os)
      clear cx0 cx1 cy0 cy1
      have hd : decide ((k : Int) + 1 < lb) = true := by simp; omega
      go_wp2
      refine wp_region_quiet_below mixed (by kernel_rfl) ?_
      repeat (go_big_quiet_step (exact grown_below (less_any fold a la ca x y wss _ (hA2 _ _) hla)))
      refine wpQuiet_nil ?_
      rintro _ ⟨⟨dq, osq⟩, rfl⟩
      have hBq := below_regrown wr dq osq
      have hB1 : Below w.heap.size w (grow (redrawn wr dq) osq) := hBe.trans (hBq.mono hBe.size)
      have hs1 : (grow (redrawn wr dq) osq).heap[w.heap.size]? = _ := (hBq.block _ hszr).trans hsr
      clear s0 s1 x0 x1 y0 y1 hA2
      cases e : lessH wss x y with
      | true =>
        rw [e] at HS
        go_wp2
        go_roundw
        case rel => exact ⟨k + 1, by omega, by go_num, HS, hB1, hs1⟩
        case measure => simp [intOf]; omega
      | false =>
        rw [e] at HS
        have HN := Lib.hid (riseH_no HS.out)
        go_wp2
        go_ret
        exact ⟨by rw [HN.out]; rfl, hB1⟩
    · have HN : Hid (riseH wss l = true) := by
        have h := HK.out
        rwa [List.take_of_length_le (by rw [HLN.out]; omega)] at h
      go_wp2
      go_ret
      exact ⟨by rw [HN.out]; rfl, hBe⟩

end Go.Proofs.Ytmpmjkbjnklgfaa

/- Which hits stand, those between two places, lists joined, the same (layer 6): walked. -/


namespace Go.Proofs.Ytmpmjkbjnklgfaa
open Go.RowKit Go.Sort
set_option linter.unusedVariables false

theorem standsH_no {fold : Bool} {wss : List (List Int)} {frm : Int} {text : List Int} {h : HitP} (hn : ¬ (0 ≤ h.2 ∧ h.2 < wss.length ∧ frm ≤ h.1 ∧ h.1 - frm ≤ text.length)) : standsH fold wss frm text h = false := by
  unfold standsH
  rw [decide_eq_false hn, Bool.false_and]
theorem mayP_frm {fold : Bool} {wss : List (List Int)} {frm : Int} (h : mayP fold wss frm = true) : 0 ≤ frm ∧ frm ≤ 4611686018427387904 := by
  unfold mayP at h
  rw [Bool.and_eq_true] at h
  exact of_decide_eq_true h.1

set_option maxHeartbeats 2000000 in
theorem stands_any (fold : Bool) (a b : Option Addr) (la ca lb cb : Nat) (frm : Int) (text : List Int) (h : HitP) (wss : List (List Int)) (w : World) (hA : Wds w a la wss) (hL : Bys w b lb text) (hla : la ≤ 1000000) (hlb : lb ≤ 1000000) (hcb : lb ≤ cb) (hM : ∀ x ∈ wss, x.length ≤ 1000000) (hT : (begL fold wss).length ≤ 1000000) (hh : I64 h.1 ∧ I64 h.2) :
    Calls Try.prog 31 #[.agg (setV fold a la ca), .int .i64 frm, .slice b lb cb, .agg #[.int .i64 h.1, .int .i64 h.2]] w fun e w' => e = .returned (.bool (mayP fold wss frm && standsH fold wss frm text h)) ∧ Below w.heap.size w w' := by
  obtain ⟨hE, hW⟩ := h
  obtain ⟨⟨hh1, hh2⟩, hh3, hh4⟩ := hh
  dsimp only at hh1 hh2 hh3 hh4 ⊢
  have HL := Lib.hid hA.len
  have HT := Lib.hid hL.len
  have hB2 : Below w.heap.size w ((w.alloc (.cells (setV fold a la ca) 39)).alloc (.cells #[.int .i64 hE, .int .i64 hW] 43)) := ((Below.refl _ _).alloc (Nat.le_refl _) _).alloc (by simp) _
  have n0 : ((w.alloc (.cells (setV fold a la ca) 39)).alloc (.cells #[.int .i64 hE, .int .i64 hW] 43)).heap[w.heap.size]? = some (.cells (setV fold a la ca) 39 (0, 0)) :=
    (Below.heap_alloc _ _ _ (by simp)).trans (World.alloc_heap_new _ _)
  have n1 : ((w.alloc (.cells (setV fold a la ca) 39)).alloc (.cells #[.int .i64 hE, .int .i64 hW] 43)).heap[w.heap.size + 1]? = some (.cells #[.int .i64 hE, .int .i64 hW] 43 (0, 0)) := by
    have := World.alloc_heap_new (w.alloc (.cells (setV fold a la ca) 39)) (.cells #[.int .i64 hE, .int .i64 hW] 43)
    rwa [World.size_alloc] at this
  have hcall := may_any fold a la ca frm wss _ (hA.below hB2) hla hM hT
  have hz2 : ((w.alloc (.cells (setV fold a la ca) 39)).alloc (.cells #[.int .i64 hE, .int .i64 hW] 43)).heap.size = w.heap.size + 2 := by simp
  have HC := Lib.hid hcall
  have HN0 := Lib.hid n0
  have HN1 := Lib.hid n1
  have HZ2 := Lib.hid hz2
  clear hcall n0 n1 hz2
  have after : ∀ w1 : World, Below ((w.alloc (.cells (setV fold a la ca) 39)).alloc (.cells #[.int .i64 hE, .int .i64 hW] 43)).heap.size ((w.alloc (.cells (setV fold a la ca) 39)).alloc (.cells #[.int .i64 hE, .int .i64 hW] 43)) w1 →
      Below w.heap.size w w1 ∧ w1.cell? ⟨w.heap.size, 0, none⟩ = some (.bool fold) ∧ w1.cell? ⟨w.heap.size, 1, none⟩ = some (.slice a la ca) ∧ w1.cell? ⟨w.heap.size + 1, 0, none⟩ = some (.int .i64 hE) ∧ w1.cell? ⟨w.heap.size + 1, 1, none⟩ = some (.int .i64 hW) := by
    intro w1 hb
    have e0 : w1.heap[w.heap.size]? = _ := (hb.block _ (by rw [HZ2.out]; omega)).trans HN0.out
    have e1 : w1.heap[w.heap.size + 1]? = _ := (hb.block _ (by rw [HZ2.out]; omega)).trans HN1.out
    exact ⟨hB2.trans (hb.mono (by rw [HZ2.out]; omega)), by simp [World.cell?, e0], by simp [World.cell?, e0], by simp [World.cell?, e1], by simp [World.cell?, e1]⟩
  cases hm : mayP fold wss frm with
  | false =>
    have HM := Lib.hid hm
    clear hm
    have HE : Hid ((mayP fold wss frm && standsH fold wss frm text (hE, hW)) = false) := by rw [Hid, HM.out, Bool.false_and]
    rw [Bool.false_and]
    go_enter Try.func31, Try.ntmps31
    go_wp2_with fail
    refine HC.out.mono ?_
    rintro e w1 ⟨rfl, hb⟩
    obtain ⟨hB1, c0, c1, c2, c3⟩ := after w1 hb
    rw [HM.out]
    go_wp2
    go_ret
    exact ⟨rfl, hB1⟩
  | true =>
    have HM := Lib.hid hm
    obtain ⟨hf0, hf1⟩ := mayP_frm hm
    clear hm
    rw [Bool.true_and]
    by_cases g1 : 0 ≤ hW
    · by_cases g2 : hW < la
      · by_cases g3 : frm ≤ hE
        · by_cases g4 : hE - frm ≤ lb
          · obtain ⟨k, rfl⟩ : ∃ k : Nat, hW = k := ⟨hW.toNat, by omega⟩
            obtain ⟨p, hp⟩ : ∃ p : Nat, hE - frm = p := ⟨(hE - frm).toNat, by omega⟩
            obtain ⟨x, hx⟩ : ∃ x, wss[k]? = some x := ⟨wss[k]'(by rw [HL.out]; omega), by simp⟩
            have HP := Lib.hid hp
            clear hp
            have HE : Hid (standsH fold wss frm text (hE, (k : Int)) = atL fold text (hE - frm) x) := by
              unfold Hid standsH
              dsimp only
              rw [decide_eq_true ⟨g1, by rw [HL.out]; exact g2, g3, by rw [HT.out]; exact g4⟩, Bool.true_and, HP.out, Int.toNat_natCast, Int.toNat_natCast, stands_is hx]
            have HX := Lib.hid hx
            clear hx
            go_enter Try.func31, Try.ntmps31
            go_wp2_with fail
            refine HC.out.mono ?_
            rintro e w1 ⟨rfl, hb⟩
            obtain ⟨hB1, c0, c1, c2, c3⟩ := after w1 hb
            rw [HM.out]
            have hs1 := hb.size
            rw [HZ2.out] at hs1
            have hn1 : w.heap.size < w1.heap.size := by omega
            have hn2 : w.heap.size + 1 < w1.heap.size := by omega
            have hB5 : Below w.heap.size w (w1.alloc (.cells (gathV fold a la ca 0 (.slice none 0 0)) 94)) := hB1.alloc hB1.size _
            go_wp2_with fail
            refine (gat_any _ fold a b la ca lb cb (hE - frm) k wss x text _ (by simp) (cell_new rfl rfl) (cell_new rfl rfl) (hA.below hB5) (hL.below hB5) hla hlb hcb (by omega) HX.out (by omega)).mono ?_
            rintro e w2 ⟨rfl, hb2⟩
            go_wp2
            go_ret
            exact ⟨by rw [HE.out]; rfl, hB5.trans (hb2.mono hB5.size)⟩
          · have HE : Hid (standsH fold wss frm text (hE, hW) = false) := standsH_no (by dsimp only; rw [HT.out]; omega)
            go_enter Try.func31, Try.ntmps31
            go_wp2_with fail
            refine HC.out.mono ?_
            rintro e w1 ⟨rfl, hb⟩
            obtain ⟨hB1, c0, c1, c2, c3⟩ := after w1 hb
            rw [HM.out]
            go_wp2
            go_ret
            exact ⟨by rw [HE.out]; rfl, hB1⟩
        · have HE : Hid (standsH fold wss frm text (hE, hW) = false) := standsH_no (by dsimp only; omega)
          go_enter Try.func31, Try.ntmps31
          go_wp2_with fail
          refine HC.out.mono ?_
          rintro e w1 ⟨rfl, hb⟩
          obtain ⟨hB1, c0, c1, c2, c3⟩ := after w1 hb
          rw [HM.out]
          go_wp2
          go_ret
          exact ⟨by rw [HE.out]; rfl, hB1⟩
      · have HE : Hid (standsH fold wss frm text (hE, hW) = false) := standsH_no (by dsimp only; rw [HL.out]; omega)
        go_enter Try.func31, Try.ntmps31
        go_wp2_with fail
        refine HC.out.mono ?_
        rintro e w1 ⟨rfl, hb⟩
        obtain ⟨hB1, c0, c1, c2, c3⟩ := after w1 hb
        rw [HM.out]
        go_wp2
        go_ret
        exact ⟨by rw [HE.out]; rfl, hB1⟩
    · have HE : Hid (standsH fold wss frm text (hE, hW) = false) := standsH_no (by dsimp only; omega)
      go_enter Try.func31, Try.ntmps31
      go_wp2_with fail
      refine HC.out.mono ?_
      rintro e w1 ⟨rfl, hb⟩
      obtain ⟨hB1, c0, c1, c2, c3⟩ := after w1 hb
      rw [HM.out]
      go_wp2
      go_ret
      exact ⟨by rw [HE.out]; rfl, hB1⟩

set_option maxRecDepth 100000 in
set_option maxHeartbeats 2000000 in
theorem between_h (low high : Int) (a : Option Addr) (la ca : Nat) (l : List HitP) (w : World) (hL : Hts w a la l) (hla : la ≤ 1000000000000) :
    Calls Try.prog 37 #[.int .i64 low, .int .i64 high, .slice a la ca] w fun e w' => ∃ v, e = .returned v ∧ OwnH w' w.heap.size v (betwH low high l) ∧ Below w.heap.size w w' := by
  obtain ⟨i0, hi, hz0, hz1, hz2⟩ := info_parts hit_info
  have HLN := Lib.hid hL.len
  go_enter Try.func37, Try.ntmps37
  go_wp2
  go_loopw [7, 12] (fun v i wr => ∃ k : Nat, k ≤ la ∧ i = .int .i64 k ∧ Below w.heap.size w wr ∧ OwnH wr w.heap.size v (betwH low high (l.take k))) (fun _ i _ => la - (intOf i).toNat)
  case atStart => exact ⟨0, Nat.zero_le _, rfl, Below.refl _ _, by simpa [OwnH, betwH, hcells] using World.ownsRow_nil w w.heap.size 43 2⟩
  case round =>
    obtain ⟨k, hk, rfl, hBe, hown⟩ := hrel
    by_cases hlt : k < la
    · obtain ⟨b, off, x, rfl, hbl, c0, c1, hx, hxb⟩ := (hL.below hBe).at_ hlt
      have HX := Lib.hid hx
      clear hx
      have hB1 : Below w.heap.size w (wr.alloc (.cells #[.int .i64 x.1, .int .i64 x.2] 43)) := hBe.alloc hBe.size _
      have hlen : (betwH low high (l.take k)).length ≤ k := by
        have h1 := List.length_filter_le (fun h : HitP => decide (low < h.1) && decide (h.1 ≤ high)) (l.take k)
        have h2 := List.length_take_le k l
        unfold betwH
        omega
      have HSN := Lib.hid (betwH_snoc low high (l.take k) x)
      have HTK := Lib.hid (take_step HX.out)
      by_cases h1 : low < x.1
      · by_cases h2 : x.1 ≤ high
        · obtain ⟨m, hm⟩ : ∃ m, (betwH low high (l.take k)).length = m := ⟨_, rfl⟩
          unfold OwnH at hown
          rw [hm] at hown hlen
          have HM := Lib.hid hm
          clear hm
          go_wp2_with (at_builtin; refine wpList_append_own _ rfl _ _ 41 rfl w.heap.size 43 i0 (.agg #[.int .i64 0, .int .i64 0]) 2 16 Try.underlying41 hi hz0 hz1 hz2 rfl (by decide) _ _ _ rfl ((hown.alloc _).alloc _) ⟨wr.heap.size + 1, 0, none⟩ 1 1 [.int .i64 x.1, .int .i64 x.2] rfl rfl (cells_new _ _ (by simp)) (by simp [Value.oneCell']) (by unfold maxLen; omega) (by omega) (by have := hBe.size; simp; omega) ?_; intro v' w5 hown' hgrow hnil)
          have hB5 : Below w.heap.size w w5 := (hB1.alloc (by have := hBe.size; simp; omega) _).grown hgrow (by have := hBe.size; simp; omega) (fun j hj => (hown.lt j hj).1)
          go_roundw
          case rel =>
            refine ⟨k + 1, by omega, by go_num, hB5, ?_⟩
            unfold OwnH
            rw [HTK.out, HSN.out, if_pos ⟨h1, h2⟩, List.length_append, HM.out, hcells_snoc]
            exact hown'
          case measure => simp [intOf]; omega
        · go_wp2
          go_roundw
          case rel =>
            refine ⟨k + 1, by omega, by go_num, hB1, ?_⟩
            rw [HTK.out, HSN.out, if_neg (by omega)]
            exact hown.alloc _
          case measure => simp [intOf]; omega
      · go_wp2
        go_roundw
        case rel =>
          refine ⟨k + 1, by omega, by go_num, hB1, ?_⟩
          rw [HTK.out, HSN.out, if_neg (by omega)]
          exact hown.alloc _
        case measure => simp [intOf]; omega
    · obtain rfl : k = la := by omega
      have HF : Hid (l.take k = l) := List.take_of_length_le (by rw [HLN.out]; exact Nat.le_refl _)
      rw [HF.out] at hown
      go_wp2
      go_ret
      exact ⟨_, rfl, hown, hBe⟩

end Go.Proofs.Ytmpmjkbjnklgfaa

/- Two lists of hits that are the same, lists joined (layer 6, and the document's): walked. -/

namespace Go.Proofs.Ytmpmjkbjnklgfaa
open Go.RowKit Go.Sort
set_option linter.unusedVariables false

theorem hit_fields : ((Try.prog.fieldsOf 43).toList.map fun f => (f.name, f.type, f.offset)) = [("End", 3, 0), ("Word", 3, 1)] := by kernel_rfl
theorem eqFields_map (d : Nat) (xs ys : Array Value) (fs gs : List Field) (h : fs.map (fun f => (f.name, f.type, f.offset)) = gs.map (fun f => (f.name, f.type, f.offset))) : Op.eqFields d xs ys fs = Op.eqFields d xs ys gs := by
  induction fs generalizing gs with
  | nil => cases gs with
    | nil => rfl
    | cons g gs => simp at h
  | cons f fs ih => cases gs with
    | nil => simp at h
    | cons g gs =>
      simp only [List.map_cons, List.cons.injEq, Prod.mk.injEq] at h
      obtain ⟨⟨h1, h2, h3⟩, h4⟩ := h
      simp only [Op.eqFields, h1, h2, h3, ih gs h4]
theorem equalIn_hit (x y : HitP) (W : World) : (Op.equalIn 10000 43 (.agg #[.int .i64 x.1, .int .i64 x.2]) (.agg #[.int .i64 y.1, .int .i64 y.2])).run Try.prog W = .ok (decide (x = y)) W := by
  rw [run_equalIn_agg W 9999 43 _ _ (by kernel_rfl) (by kernel_rfl)]
  rw [eqFields_map 9999 _ _ _ [⟨ "End", 3, 0, false, "", "", 0⟩, ⟨ "Word", 3, 1, false, "", "", 0⟩] hit_fields]
  have h0 : ∀ W : World, (part 3 #[.int .i64 x.1, .int .i64 x.2] 0).run Try.prog W = .ok (.int .i64 x.1) W := fun W => by kernel_rfl
  have h1 : ∀ W : World, (part 3 #[.int .i64 x.1, .int .i64 x.2] 1).run Try.prog W = .ok (.int .i64 x.2) W := fun W => by kernel_rfl
  have g0 : ∀ W : World, (part 3 #[.int .i64 y.1, .int .i64 y.2] 0).run Try.prog W = .ok (.int .i64 y.1) W := fun W => by kernel_rfl
  have g1 : ∀ W : World, (part 3 #[.int .i64 y.1, .int .i64 y.2] 1).run Try.prog W = .ok (.int .i64 y.2) W := fun W => by kernel_rfl
  simp only [Op.eqFields, Sem.run_bind, Sem.run_ite, Sem.run_pure, h0, h1, g0, g1, Result.andThen_ok, run_equalIn_int _ _ _ _ _ _ _ Try.underlying3]
  obtain ⟨a, b⟩ := x
  obtain ⟨c, d⟩ := y
  by_cases e1 : a = c <;> by_cases e2 : b = d <;> simp [e1, e2]
theorem eql_hit (x y : HitP) (W : World) : (binOp .eql 43 (.agg #[.int .i64 x.1, .int .i64 x.2]) (.agg #[.int .i64 y.1, .int .i64 y.2])).run Try.prog W = .ok (.bool (decide (x = y))) W := by
  rw [run_eql_struct, equalIn_hit]
  rfl
theorem neq_hit (x y : HitP) (W : World) : (binOp .neq 43 (.agg #[.int .i64 x.1, .int .i64 x.2]) (.agg #[.int .i64 y.1, .int .i64 y.2])).run Try.prog W = .ok (.bool (!decide (x = y))) W := by
  rw [run_neq_struct, equalIn_hit]
  rfl
theorem hit_guard : Try.prog.eqGuardType Try.prog.depth 43 = false := by kernel_rfl

set_option maxHeartbeats 2000000 in
theorem sEqual_any (a b : Option Addr) (la ca lb cb : Nat) (l m : List HitP) (w : World) (hA : Hts w a la l) (hB : Hts w b lb m) (hla : la ≤ 4611686018427387904) :
    Calls Try.prog 77 #[.slice a la ca, .slice b lb cb] w fun e w' => e = .returned (.bool (decide (l = m))) ∧ Below w.heap.size w w' := by
  have HA := Lib.hid hA.len
  have HB := Lib.hid hB.len
  have hgt := hit_guard
  by_cases hl : la = lb
  · subst hl
    go_enter Try.func77, Try.ntmps77
    go_wp2
    go_loopw [13] (fun i wr => ∃ k : Nat, k ≤ la ∧ i = .int .i64 k ∧ Hid (l.take k = m.take k) ∧ Below w.heap.size w wr) (fun i _ => la - (intOf i).toNat)
    case atStart => exact ⟨0, Nat.zero_le _, rfl, by simp [Hid], Below.refl _ _⟩
    case round =>
      obtain ⟨k, hk, rfl, HK, hBe⟩ := hrel
      by_cases hlt : k < la
      · obtain ⟨b1, o1, x, rfl, hb1, x0, x1, hx, _, _⟩ := (hA.below hBe).at_ hlt
        obtain ⟨b2, o2, y, rfl, hb2, y0, y1, hy, _, _⟩ := (hB.below hBe).at_ hlt
        have HX := Lib.hid hx
        have HY := Lib.hid hy
        clear hx hy
        have hd : decide ((k : Int) < la) = true := by simp; omega
        have hne := fun W => neq_hit x y W
        by_cases h : x = y
        · have HS : Hid (l.take (k + 1) = m.take (k + 1)) := by rw [take_step HX.out, take_step HY.out, HK.out, h]; rfl
          have hdd : decide (x = y) = true := by simp [h]
          rw [hdd] at hne
          clear h hdd
          go_wp2
          go_quiet (fail)
          go_wp2
          go_roundw
          case rel => exact ⟨k + 1, by omega, by go_num, HS, hBe.trans ⟨rfl, rfl, rfl, Nat.le_refl _, fun _ _ => rfl⟩⟩
          case measure => simp [intOf]; omega
        · have HS : Hid (decide (l = m) = false) := by
            have : l ≠ m := fun e => by
              have h1 := HX.out
              rw [e, HY.out] at h1
              exact h (Option.some.inj h1).symm
            simp [Hid, this]
          have hdd : decide (x = y) = false := by simp [h]
          rw [hdd] at hne
          clear h hdd
          go_wp2
          go_quiet (fail)
          go_wp2
          go_ret
          exact ⟨by rw [HS.out]; rfl, hBe.trans ⟨rfl, rfl, rfl, Nat.le_refl _, fun _ _ => rfl⟩⟩
      · obtain rfl : k = la := by omega
        have HS : Hid (decide (l = m) = true) := by
          have h := HK.out
          rw [List.take_of_length_le (by rw [HA.out]; exact Nat.le_refl _), List.take_of_length_le (by rw [HB.out]; exact Nat.le_refl _)] at h
          simp [Hid, h]
        go_wp2
        go_ret
        exact ⟨by rw [HS.out]; rfl, hBe⟩
  · have HS : Hid (decide (l = m) = false) := by
      have : l ≠ m := fun e => hl (by rw [← HA.out, ← HB.out, e])
      simp [Hid, this]
    have hne : ((la : Int) != (lb : Int)) = true := by simp; omega
    go_enter Try.func77, Try.ntmps77
    go_wp2
    go_ret
    exact ⟨by rw [HS.out]; rfl, Below.refl _ _⟩

theorem osame_any (a b : Option Addr) (la ca lb cb : Nat) (l m : List HitP) (w : World) (hA : Hts w a la l) (hB : Hts w b lb m) (hla : la ≤ 4611686018427387904) :
    Calls Try.prog 40 #[.slice a la ca, .slice b lb cb] w fun e w' => e = .returned (.bool (decide (l = m))) ∧ Below w.heap.size w w' := by
  go_enter Try.func40, Try.ntmps40
  go_wp2_with fail
  refine (sEqual_any a b la ca lb cb l m w hA hB hla).mono ?_
  rintro e w1 ⟨rfl, hb⟩
  go_wp2
  go_ret
  exact ⟨rfl, hb⟩

set_option maxHeartbeats 2000000 in
theorem rsame6_any (a b : Option Addr) (la ca lb cb : Nat) (l m : List HitP) (w : World) (hA : Hts w a la l) (hB : Hts w b lb m) (hla : la ≤ 4611686018427387904) :
    Calls Try.prog 30 #[.slice a la ca, .slice b lb cb] w fun e w' => e = .returned (.bool (decide (l = m))) ∧ Below w.heap.size w w' := by
  have HA := Lib.hid hA.len
  have HB := Lib.hid hB.len
  have hgt := hit_guard
  by_cases hl : la = lb
  · subst hl
    go_enter Try.func30, Try.ntmps30
    go_wp2
    go_loopw [5] (fun i wr => ∃ k : Nat, k ≤ la ∧ i = .int .i64 k ∧ Hid (l.take k = m.take k) ∧ Below w.heap.size w wr) (fun i _ => la - (intOf i).toNat)
    case atStart => exact ⟨0, Nat.zero_le _, rfl, by simp [Hid], Below.refl _ _⟩
    case round =>
      obtain ⟨k, hk, rfl, HK, hBe⟩ := hrel
      by_cases hlt : k < la
      · obtain ⟨b1, o1, x, rfl, hb1, x0, x1, hx, _, _⟩ := (hA.below hBe).at_ hlt
        obtain ⟨b2, o2, y, rfl, hb2, y0, y1, hy, _, _⟩ := (hB.below hBe).at_ hlt
        have HX := Lib.hid hx
        have HY := Lib.hid hy
        clear hx hy
        have hd : decide ((k : Int) < la) = true := by simp; omega
        have hne := fun W => neq_hit x y W
        by_cases h : x = y
        · have HS : Hid (l.take (k + 1) = m.take (k + 1)) := by rw [take_step HX.out, take_step HY.out, HK.out, h]; rfl
          have hdd : decide (x = y) = true := by simp [h]
          rw [hdd] at hne
          clear h hdd
          go_wp2
          go_quiet (fail)
          go_wp2
          go_roundw
          case rel => exact ⟨k + 1, by omega, by go_num, HS, hBe.trans ⟨rfl, rfl, rfl, Nat.le_refl _, fun _ _ => rfl⟩⟩
          case measure => simp [intOf]; omega
        · have HS : Hid (decide (l = m) = false) := by
            have : l ≠ m := fun e => by
              have h1 := HX.out
              rw [e, HY.out] at h1
              exact h (Option.some.inj h1).symm
            simp [Hid, this]
          have hdd : decide (x = y) = false := by simp [h]
          rw [hdd] at hne
          clear h hdd
          go_wp2
          go_quiet (fail)
          go_wp2
          go_ret
          exact ⟨by rw [HS.out]; rfl, hBe.trans ⟨rfl, rfl, rfl, Nat.le_refl _, fun _ _ => rfl⟩⟩
      · obtain rfl : k = la := by omega
        have HS : Hid (decide (l = m) = true) := by
          have h := HK.out
          rw [List.take_of_length_le (by rw [HA.out]; exact Nat.le_refl _), List.take_of_length_le (by rw [HB.out]; exact Nat.le_refl _)] at h
          simp [Hid, h]
        go_wp2
        go_ret
        exact ⟨by rw [HS.out]; rfl, hBe⟩
  · have HS : Hid (decide (l = m) = false) := by
      have : l ≠ m := fun e => hl (by rw [← HA.out, ← HB.out, e])
      simp [Hid, this]
    have hne : ((la : Int) != (lb : Int)) = true := by simp; omega
    go_enter Try.func30, Try.ntmps30
    go_wp2
    go_ret
    exact ⟨by rw [HS.out]; rfl, Below.refl _ _⟩

/-- Some lists of hits. -/
def Hss (w : World) (a : Option Addr) (len : Nat) (ls : List (List HitP)) : Prop :=
  ∃ vs : List (Option Addr × Nat × Nat), Sl1 (fun v => Value.slice v.1 v.2.1 v.2.2) w a len vs ∧ vs.length = ls.length ∧ ∀ (i : Nat) (v : Option Addr × Nat × Nat) (l : List HitP), vs[i]? = some v → ls[i]? = some l → Hts w v.1 v.2.1 l
theorem Hss.below {w w' : World} {a : Option Addr} {len : Nat} {ls : List (List HitP)} (h : Hss w a len ls) (hb : Below w.heap.size w w') : Hss w' a len ls := by
  obtain ⟨vs, h1, h2, h3⟩ := h
  exact ⟨vs, h1.below hb, h2, fun i v l hv hl => (h3 i v l hv hl).below hb⟩
theorem Hss.len {w : World} {a : Option Addr} {len : Nat} {ls : List (List HitP)} (h : Hss w a len ls) : ls.length = len := by
  obtain ⟨vs, h1, h2, h3⟩ := h
  rw [← h2, h1.1]
theorem Hss.at_ {w : World} {a : Option Addr} {len : Nat} {ls : List (List HitP)} (h : Hss w a len ls) {k : Nat} (hk : k < len) :
    ∃ b off a' l c x, a = some ⟨b, off, none⟩ ∧ b < w.heap.size ∧ w.cell? ⟨b, off + k, none⟩ = some (.slice a' l c) ∧ ls[k]? = some x ∧ Hts w a' l x := by
  have hl := h.len
  obtain ⟨vs, ⟨h0, h1⟩, h2, h3⟩ := h
  obtain ⟨b, off, rfl, hlt, hc⟩ := h1.resolve_left (by omega)
  obtain ⟨v, hv⟩ : ∃ v, vs[k]? = some v := ⟨vs[k]'(by omega), by simp⟩
  obtain ⟨x, hx⟩ : ∃ v, ls[k]? = some v := ⟨ls[k]'(by omega), by simp⟩
  exact ⟨b, off, v.1, v.2.1, v.2.2, x, rfl, hlt, hc k v hv, hx, h3 k v x hv hx⟩
theorem flatten_take {α : Type} {ls : List (List α)} {k : Nat} {x : List α} (h : ls[k]? = some x) : (ls.take (k + 1)).flatten = (ls.take k).flatten ++ x := by
  rw [take_step h]; simp
theorem flatten_le {α : Type} {ls : List (List α)} (k : Nat) : (ls.take k).flatten.length ≤ ls.flatten.length := by
  have h := congrArg List.length (congrArg List.flatten (List.take_append_drop k ls))
  rw [List.flatten_append, List.length_append] at h
  omega

set_option maxRecDepth 100000 in
set_option maxHeartbeats 2000000 in
theorem join_h (a : Option Addr) (la ca : Nat) (ls : List (List HitP)) (w : World) (hA : Hss w a la ls) (hla : la ≤ 1000000) (hT : ls.flatten.length ≤ 1000000000000) :
    Calls Try.prog 39 #[.slice a la ca] w fun e w' => ∃ v, e = .returned v ∧ OwnH w' w.heap.size v ls.flatten ∧ Below w.heap.size w w' := by
  obtain ⟨i0, hi, hz0, hz1, hz2⟩ := info_parts hit_info
  have HLN := Lib.hid hA.len
  go_enter Try.func39, Try.ntmps39
  go_wp2
  go_loopw [3, 8] (fun v i wr => ∃ k : Nat, k ≤ la ∧ i = .int .i64 k ∧ Below w.heap.size w wr ∧ OwnH wr w.heap.size v (ls.take k).flatten) (fun _ i _ => la - (intOf i).toNat)
  case atStart => exact ⟨0, Nat.zero_le _, rfl, Below.refl _ _, by simpa [OwnH, hcells] using World.ownsRow_nil w w.heap.size 43 2⟩
  case round =>
    obtain ⟨k, hk, rfl, hBe, hown⟩ := hrel
    by_cases hlt : k < la
    · obtain ⟨b, off, a', l', c', x, rfl, hbl, c0, hx, hX⟩ := (hA.below hBe).at_ hlt
      have HS := Lib.hid (flatten_take hx)
      have hle : (ls.take k).flatten.length + l' ≤ 1000000000000 := by
        have h1 := flatten_le (ls := ls) (k + 1)
        rw [flatten_take hx, List.length_append, hX.len] at h1
        omega
      have HXL := Lib.hid hX.len
      clear hx
      obtain ⟨m, hm⟩ : ∃ m, (ls.take k).flatten.length = m := ⟨_, rfl⟩
      unfold OwnH at hown
      rw [hm] at hown hle
      have HM := Lib.hid hm
      clear hm
      go_wp2_with (at_builtin; refine wpList_append_slK rfl _ _ 41 rfl w.heap.size 43 i0 (.agg #[.int .i64 0, .int .i64 0]) 2 16 Try.underlying41 hi hz0 hz1 hz2 rfl (by decide) _ _ _ rfl hown a' l' c' (hcells x) rfl hX.1 (hcells_one x) (by unfold maxLen; omega) (by omega) hBe.size ?_; intro v' w5 hown' hgrow hat)
      have hB5 : Below w.heap.size w w5 := hBe.grown hgrow hBe.size (fun j hj => (hown.lt j hj).1)
      go_roundw
      case rel =>
        refine ⟨k + 1, by omega, by go_num, hB5, ?_⟩
        unfold OwnH
        rw [HS.out, List.length_append, HM.out, HXL.out, hcells_append]
        exact hown'
      case measure => simp [intOf]; omega
    · obtain rfl : k = la := by omega
      have HF : Hid (ls.take k = ls) := List.take_of_length_le (by rw [HLN.out]; exact Nat.le_refl _)
      rw [HF.out] at hown
      go_wp2
      go_ret
      exact ⟨_, rfl, hown, hBe⟩

end Go.Proofs.Ytmpmjkbjnklgfaa

/- Hits sorted in place by insertion, by a method that compares: walked. -/


namespace Go.Proofs.Ytmpmjkbjnklgfaa
open Go.RowKit Go.Sort
set_option linter.unusedVariables false

abbrev nth (c : List HitP) (i : Nat) : HitP := c.getD i (0, 0)
/-- A block that holds hits from its head on. -/
def RowAt (W : World) (g cap : Nat) (l : List HitP) : Prop :=
  ∃ cur : Array Value, W.heap[g]? = some (.cells cur 43 (0, 0)) ∧ cur.size = cap * 2 ∧ l.length ≤ cap ∧ ∀ k, k < l.length → cur[k * 2]? = some (.int .i64 (nth l k).1) ∧ cur[k * 2 + 1]? = some (.int .i64 (nth l k).2)
theorem RowAt.lt {W : World} {g cap : Nat} {l : List HitP} (h : RowAt W g cap l) : g < W.heap.size := by
  obtain ⟨cur, h1, _⟩ := h
  exact (Array.getElem?_eq_some_iff.1 h1).1
theorem RowAt.cell {W : World} {g cap : Nat} {l : List HitP} (h : RowAt W g cap l) {k : Nat} (hk : k < l.length) :
    W.cell? ⟨g, k * 2, none⟩ = some (.int .i64 (nth l k).1) ∧ W.cell? ⟨g, k * 2 + 1, none⟩ = some (.int .i64 (nth l k).2) ∧ W.frozen? ⟨g, k * 2, none⟩ = false ∧ W.frozen? ⟨g, k * 2 + 1, none⟩ = false := by
  obtain ⟨cur, h1, h2, h3, h4⟩ := h
  obtain ⟨c0, c1⟩ := h4 k hk
  simp [World.cell?, World.frozen?, h1, c0, c1]
theorem RowAt.below {W W' : World} {g cap : Nat} {l : List HitP} (h : RowAt W g cap l) (hb : Below W.heap.size W W') : RowAt W' g cap l := by
  have hlt := h.lt
  obtain ⟨cur, h1, h2⟩ := h
  exact ⟨cur, (hb.block g hlt).trans h1, h2⟩
theorem nth_set {l : List HitP} {k i : Nat} {h : HitP} (hk : k < l.length) : nth (l.set k h) i = if i = k then h else nth l i := by
  unfold nth
  rw [List.getD_eq_getElem?_getD, List.getElem?_set, List.getD_eq_getElem?_getD]
  by_cases e : k = i
  · subst e; simp [hk]
  · rw [if_neg e, if_neg (fun h => e h.symm)]
theorem RowAt.set {W : World} {g cap : Nat} {l : List HitP} (h : RowAt W g cap l) {k : Nat} (hk : k < l.length) (x : HitP) :
    RowAt ((W.setCell ⟨g, k * 2, none⟩ (.int .i64 x.1)).setCell ⟨g, k * 2 + 1, none⟩ (.int .i64 x.2)) g cap (l.set k x) := by
  obtain ⟨cur, h1, h2, h3, h4⟩ := h
  have e1 := set_at (i := k * 2) h1 (.int .i64 x.1)
  have e2 := set_at (i := k * 2 + 1) e1 (.int .i64 x.2)
  refine ⟨_, e2, by simp [h2], by simpa using h3, fun j hj => ?_⟩
  rw [List.length_set] at hj
  obtain ⟨c0, c1⟩ := h4 j hj
  rw [nth_set hk]
  by_cases e : j = k
  · subst e
    rw [if_pos rfl]
    simp [Array.getElem?_setIfInBounds, h2]
    omega
  · rw [if_neg e]
    rw [Array.getElem?_setIfInBounds_ne (by omega), Array.getElem?_setIfInBounds_ne (by omega), Array.getElem?_setIfInBounds_ne (by omega), Array.getElem?_setIfInBounds_ne (by omega)]
    exact ⟨c0, c1⟩
/-- Two neighbours exchanged. -/
def swapN (l : List HitP) (j : Nat) : List HitP := (l.set (j + 1) (nth l j)).set j (nth l (j + 1))
theorem swapN_length (l : List HitP) (j : Nat) : (swapN l j).length = l.length := by simp [swapN]
theorem nth_swapN {l : List HitP} {j i : Nat} (hj : j + 1 < l.length) : nth (swapN l j) i = if i = j then nth l (j + 1) else if i = j + 1 then nth l j else nth l i := by
  unfold swapN
  rw [nth_set (by simp; omega), nth_set hj]
theorem swapN_perm {l : List HitP} {j : Nat} (hj : j + 1 < l.length) : (swapN l j).Perm l := by
  have hl : l = l.take j ++ nth l j :: nth l (j + 1) :: l.drop (j + 2) := by
    conv => lhs; rw [← List.take_append_drop j l, List.drop_eq_getElem_cons (by omega), List.drop_eq_getElem_cons hj]
    simp [nth, List.getD_eq_getElem?_getD]
    rw [List.getElem?_eq_getElem (by omega), List.getElem?_eq_getElem hj]
    simp
  have hs : swapN l j = l.take j ++ nth l (j + 1) :: nth l j :: l.drop (j + 2) := by
    apply List.ext_getElem?
    intro i
    have hlen : (l.take j).length = j := by simp; omega
    by_cases hi : i < l.length
    · have e1 : (swapN l j)[i]? = some (nth (swapN l j) i) := by
        unfold nth
        rw [List.getD_eq_getElem?_getD, List.getElem?_eq_getElem (by rw [swapN_length]; exact hi), Option.getD_some]
      have e2 : ∀ i, i < l.length → l[i]? = some (nth l i) := by
        intro i hi
        unfold nth
        rw [List.getD_eq_getElem?_getD, List.getElem?_eq_getElem hi, Option.getD_some]
      rw [e1, nth_swapN hj]
      by_cases h1 : i = j
      · subst h1
        rw [List.getElem?_append_right (by omega), hlen]
        simp
      · by_cases h2 : i = j + 1
        · subst h2
          rw [List.getElem?_append_right (by omega), hlen]
          simp
        · rw [if_neg h1, if_neg h2]
          by_cases h3 : i < j
          · rw [List.getElem?_append_left (by omega), List.getElem?_take, if_pos h3, e2 i hi]
          · rw [List.getElem?_append_right (by omega), hlen, show i - j = (i - j - 2) + 1 + 1 by omega, List.getElem?_cons_succ, List.getElem?_cons_succ, List.getElem?_drop, show j + 2 + (i - j - 2) = i by omega, e2 i hi]
    · rw [List.getElem?_eq_none (by rw [swapN_length]; omega), List.getElem?_eq_none (by simp; omega)]
  rw [hs]
  conv => rhs; rw [hl]
  exact (List.Perm.swap _ _ _).append_left _

/-! ### plain: insertion -/
def InvI (lt : HitP → HitP → Prop) (c : List HitP) (i j : Nat) : Prop := ∀ p q, p < q → q ≤ i → q ≠ j → ¬ lt (nth c q) (nth c p)
def SrtTo (lt : HitP → HitP → Prop) (c : List HitP) (n : Nat) : Prop := ∀ p q, p < q → q < n → ¬ lt (nth c q) (nth c p)
theorem InvI.start {lt : HitP → HitP → Prop} {c : List HitP} {i : Nat} (h : SrtTo lt c i) : InvI lt c i i := fun p q h1 h2 h3 => h p q h1 (by omega)
theorem InvI.stop {lt : HitP → HitP → Prop} {c : List HitP} {i j : Nat} (hn : ∀ a b d, ¬ lt a b → ¬ lt b d → ¬ lt a d) (h : InvI lt c i j) (hj : j ≤ i) (h0 : j = 0 ∨ ¬ lt (nth c j) (nth c (j - 1))) : SrtTo lt c (i + 1) := by
  intro p q h1 h2
  by_cases hq : q = j
  · subst hq
    rcases h0 with h0 | h0
    · omega
    · by_cases hp : p = q - 1
      · rw [hp]; exact h0
      · exact hn _ _ _ h0 (h p (q - 1) (by omega) (by omega) (by omega))
  · exact h p q h1 (by omega) hq
theorem InvI.step {lt : HitP → HitP → Prop} {c : List HitP} {i j : Nat} (ha : ∀ a b, lt a b → ¬ lt b a) (h : InvI lt c i (j + 1)) (hj : j + 1 ≤ i) (hi : i < c.length) (hlt : lt (nth c (j + 1)) (nth c j)) : InvI lt (swapN c j) i j := by
  intro p q h1 h2 h3
  rw [nth_swapN (by omega), nth_swapN (by omega), if_neg h3]
  by_cases hq : q = j + 1
  · subst hq
    rw [if_pos rfl]
    by_cases hp : p = j
    · rw [if_pos hp]; exact ha _ _ hlt
    · rw [if_neg hp, if_neg (by omega)]
      exact h p j (by omega) (by omega) (by omega)
  · rw [if_neg hq]
    by_cases hp : p = j
    · rw [if_pos hp]
      exact h (j + 1) q (by omega) h2 hq
    · rw [if_neg hp]
      by_cases hp1 : p = j + 1
      · rw [if_pos hp1]
        exact h j q (by omega) h2 hq
      · rw [if_neg hp1]
        exact h p q h1 h2 hq

/-- What a function that compares owes the sort. -/
structure CmpB (cf : FuncId) (rv : Value) (ord : HitP → HitP → Int) (S : HitP → Prop) (C : World → Prop) (g : Nat) : Prop where
  enters : ∀ (args : Array Value) (w : World), Sem.run Try.prog (callFunc cf args) w = .ok (.enter cf args) w
  below : ∀ W W', C W → Below W.heap.size W W' → C W'
  store : ∀ W i v, C W → C (W.setCell ⟨g, i, none⟩ v)
  calls : ∀ x y W, S x → S y → C W → Calls Try.prog cf #[rv, .agg #[.int .i64 x.1, .int .i64 x.2], .agg #[.int .i64 y.1, .int .i64 y.2]] W fun e w' => e = .returned (.int .i64 (ord x y)) ∧ Below W.heap.size W w'

end Go.Proofs.Ytmpmjkbjnklgfaa

/- The insertion sort of hits, walked. -/

namespace Go.Proofs.Ytmpmjkbjnklgfaa
open Go.RowKit Go.Sort
set_option linter.unusedVariables false

theorem gb_of_below {W W' : World} (h : Below W.heap.size W W') (g : Nat) : W.grownBy W' (some g) := ⟨h.os, h.tape, h.output, h.size, fun k hk _ => h.block k hk⟩
theorem gb_drew (W : World) (n g : Nat) : W.grownBy (W.drewN n) (some g) := ⟨rfl, rfl, rfl, Nat.le_refl _, fun _ _ _ => rfl⟩
theorem nth_mem {l : List HitP} {i : Nat} (h : i < l.length) : nth l i ∈ l := by
  unfold nth
  rw [List.getD_eq_getElem?_getD, List.getElem?_eq_getElem h, Option.getD_some]
  exact List.getElem_mem h

theorem below_drew (W : World) : Below W.heap.size W W.drew := ⟨rfl, rfl, rfl, Nat.le_refl _, fun _ _ => rfl⟩
theorem swap_world {cf : FuncId} {rv : Value} {ord : HitP → HitP → Int} {S : HitP → Prop} {C : World → Prop} {g cap j : Nat} {c : List HitP} {x y : HitP} {w W : World} (hB : CmpB cf rv ord S C g) (hj : j + 1 < c.length) (hx : nth c (j + 1) = x) (hy : nth c j = y) (hR : RowAt W g cap c) (hC : C W) (hg : w.grownBy W (some g)) :
    RowAt ((((W.setCell ⟨g, (j + 1) * 2, none⟩ (.int .i64 y.1)).setCell ⟨g, (j + 1) * 2 + 1, none⟩ (.int .i64 y.2)).setCell ⟨g, j * 2, none⟩ (.int .i64 x.1)).setCell ⟨g, j * 2 + 1, none⟩ (.int .i64 x.2)).drew g cap (swapN c j) ∧
    C ((((W.setCell ⟨g, (j + 1) * 2, none⟩ (.int .i64 y.1)).setCell ⟨g, (j + 1) * 2 + 1, none⟩ (.int .i64 y.2)).setCell ⟨g, j * 2, none⟩ (.int .i64 x.1)).setCell ⟨g, j * 2 + 1, none⟩ (.int .i64 x.2)).drew ∧
    w.grownBy ((((W.setCell ⟨g, (j + 1) * 2, none⟩ (.int .i64 y.1)).setCell ⟨g, (j + 1) * 2 + 1, none⟩ (.int .i64 y.2)).setCell ⟨g, j * 2, none⟩ (.int .i64 x.1)).setCell ⟨g, j * 2 + 1, none⟩ (.int .i64 x.2)).drew (some g) := by
  subst hx hy
  have r1 := (hR.set (k := j + 1) hj (nth c j)).set (k := j) (by simp; omega) (nth c (j + 1))
  have c1 := hB.store _ (j * 2 + 1) (.int .i64 (nth c (j + 1)).2) (hB.store _ (j * 2) (.int .i64 (nth c (j + 1)).1) (hB.store _ ((j + 1) * 2 + 1) (.int .i64 (nth c j).2) (hB.store _ ((j + 1) * 2) (.int .i64 (nth c j).1) hC)))
  have g1 := (((hg.trans (grown_set2 W g ((j + 1) * 2) (.int .i64 (nth c j).1))).trans (grown_set2 _ g ((j + 1) * 2 + 1) (.int .i64 (nth c j).2))).trans (grown_set2 _ g (j * 2) (.int .i64 (nth c (j + 1)).1))).trans (grown_set2 _ g (j * 2 + 1) (.int .i64 (nth c (j + 1)).2))
  generalize (((W.setCell ⟨g, (j + 1) * 2, none⟩ (.int .i64 (nth c j).1)).setCell ⟨g, (j + 1) * 2 + 1, none⟩ (.int .i64 (nth c j).2)).setCell ⟨g, j * 2, none⟩ (.int .i64 (nth c (j + 1)).1)).setCell ⟨g, j * 2 + 1, none⟩ (.int .i64 (nth c (j + 1)).2) = V at *
  exact ⟨r1.below (below_drew V), hB.below _ _ c1 (below_drew V), g1.trans (gb_of_below (below_drew V) g)⟩

set_option maxRecDepth 100000 in
set_option maxHeartbeats 1500000 in
theorem insSort_any (cf : FuncId) (rv : Value) (ord : HitP → HitP → Int) (S : HitP → Prop) (C : World → Prop) (g n cap cc : Nat) (l : List HitP) (w : World) (hB : CmpB cf rv ord S C g)
    (ha : ∀ a b, ord a b < 0 → 0 ≤ ord b a) (hn : ∀ a b d, 0 ≤ ord a b → 0 ≤ ord b d → 0 ≤ ord a d) (hl : ∀ h ∈ l, S h) (hln : l.length = n) (hn1 : n ≤ 1000000000000) (hC : C w) (hR : RowAt w g cap l) :
    Calls Try.prog 138 #[.slice (some ⟨g, 0, none⟩) n cc, .int .i64 0, .int .i64 n, .func (.func cf) #[rv] #[]] w fun e w' => e = .returned (.tuple #[]) ∧
      ∃ l' : List HitP, l'.Perm l ∧ SrtTo (fun a b => ord a b < 0) l' n ∧ RowAt w' g cap l' ∧ C w' ∧ w.grownBy w' (some g) := by
  have he := hB.enters
  have HLN := Lib.hid hln
  have HA := Lib.hid ha
  have HN := Lib.hid hn
  have HB := Lib.hid hB
  have HL := Lib.hid hl
  clear hln ha hn hB hl
  go_enter Try.func138, Try.ntmps138
  go_wp2
  go_loopw [8, 9] (fun i _ wr => ∃ (k : Nat) (c : List HitP), (k = 1 ∨ k ≤ n) ∧ 1 ≤ k ∧ i = .int .i64 k ∧ Hid (c.Perm l ∧ SrtTo (fun a b => ord a b < 0) c k) ∧ RowAt wr g cap c ∧ C wr ∧ w.grownBy wr (some g)) (fun i _ _ => n + 1 - (intOf i).toNat)
  case atStart => exact ⟨1, l, .inl rfl, Nat.le_refl _, rfl, ⟨List.Perm.refl _, fun p q h1 h2 => by omega⟩, hR, hC, World.grownBy.refl _ _⟩
  case round =>
    obtain ⟨k, c, hk, hk1, rfl, HC, hRr, hCr, hgr⟩ := hrel
    by_cases hlt : k < n
    · have hd : decide ((k : Int) < n) = true := by simp; omega
      go_wp2
      go_loopw [9] (fun j wi => ∃ (m : Nat) (c : List HitP), m ≤ k ∧ j = .int .i64 m ∧ Hid (c.Perm l ∧ InvI (fun a b => ord a b < 0) c k m) ∧ RowAt wi g cap c ∧ C wi ∧ w.grownBy wi (some g)) (fun j _ => (intOf j).toNat)
      case atStart => exact ⟨k, c, Nat.le_refl _, rfl, ⟨HC.out.1, InvI.start HC.out.2⟩, hRr, hCr, hgr⟩
      case round =>
        clear HC hRr hCr hgr
        obtain ⟨m, c, hm, rfl, HC, hRi, hCi, hgi⟩ := hrel
        have hcl : c.length = n := by rw [HC.out.1.length_eq, HLN.out]
        have HCL := Lib.hid hcl
        clear hcl
        by_cases h0 : 0 < m
        · obtain ⟨j, rfl⟩ : ∃ j, m = j + 1 := ⟨m - 1, by omega⟩
          have hgl := hRi.lt
          obtain ⟨x0, x1, fx0, fx1⟩ := hRi.cell (k := j + 1) (by rw [HCL.out]; omega)
          obtain ⟨y0, y1, fy0, fy1⟩ := hRi.cell (k := j) (by rw [HCL.out]; omega)
          have hSx : S (nth c (j + 1)) := HL.out _ (HC.out.1.mem_iff.1 (nth_mem (by rw [HCL.out]; omega)))
          have hSy : S (nth c j) := HL.out _ (HC.out.1.mem_iff.1 (nth_mem (by rw [HCL.out]; omega)))
          obtain ⟨x, hx⟩ : ∃ x, nth c (j + 1) = x := ⟨_, rfl⟩
          obtain ⟨y, hy⟩ : ∃ y, nth c j = y := ⟨_, rfl⟩
          rw [hx] at x0 x1 hSx
          rw [hy] at y0 y1 hSy
          have HX := Lib.hid hx
          have HY := Lib.hid hy
          clear hx hy
          have gx0 : ∀ d os, (grow (redrawn wr d) os).cell? ⟨g, (j + 1) * 2, none⟩ = some (.int .i64 x.1) := fun d os => ((below_regrown wr d os).cell (p := ⟨g, (j + 1) * 2, none⟩) hgl).trans x0
          have gx1 : ∀ d os, (grow (redrawn wr d) os).cell? ⟨g, (j + 1) * 2 + 1, none⟩ = some (.int .i64 x.2) := fun d os => ((below_regrown wr d os).cell (p := ⟨g, (j + 1) * 2 + 1, none⟩) hgl).trans x1
          have gy0 : ∀ d os, (grow (redrawn wr d) os).cell? ⟨g, j * 2, none⟩ = some (.int .i64 y.1) := fun d os => ((below_regrown wr d os).cell (p := ⟨g, j * 2, none⟩) hgl).trans y0
          have gy1 : ∀ d os, (grow (redrawn wr d) os).cell? ⟨g, j * 2 + 1, none⟩ = some (.int .i64 y.2) := fun d os => ((below_regrown wr d os).cell (p := ⟨g, j * 2 + 1, none⟩) hgl).trans y1
          have hd0 : decide (0 < (j : Int) + 1) = true := by simp
          have hcall : ∀ d os, Calls Try.prog cf #[rv, .agg #[.int .i64 x.1, .int .i64 x.2], .agg #[.int .i64 y.1, .int .i64 y.2]] (grow (redrawn wr d) os) fun e w' => e = .returned (.int .i64 (ord x y)) ∧ Below (grow (redrawn wr d) os).heap.size (grow (redrawn wr d) os) w' :=
            fun d os => HB.out.calls x y _ hSx hSy (HB.out.below _ _ hCi (below_regrown wr d os))
          clear x0 x1 fx0 fx1 y0 y1 fy0 fy1
          go_wp2
          refine wp_region_quiet_below mixed (by kernel_rfl) ?_
          repeat (go_big_quiet_step (exact grown_below (hcall _ _)))
          refine wpQuiet_nil ?_
          rintro _ ⟨⟨dq, osq⟩, rfl⟩
          have hBq := below_regrown wr dq osq
          have hR2 := hRi.below hBq
          have hC2 := HB.out.below _ _ hCi hBq
          have hg2 : w.grownBy (grow (redrawn wr dq) osq) (some g) := hgi.trans (gb_of_below hBq g)
          clear gx0 gx1 gy0 gy1 hcall hBq hRi hCi hgi
          dsimp only
          obtain ⟨W2, hW2⟩ : ∃ W2, W2 = grow (redrawn wr dq) osq := ⟨_, rfl⟩
          rw [← hW2] at hR2 hC2 hg2 ⊢
          clear hW2
          by_cases hxy : ord x y < 0
          · have HXY := Lib.hid hxy
            have hdx : decide (ord x y < 0) = true := by simp [hxy]
            rw [hdx]
            obtain ⟨x0, x1, fx0, fx1⟩ := hR2.cell (k := j + 1) (by rw [HCL.out]; omega)
            obtain ⟨y0, y1, fy0, fy1⟩ := hR2.cell (k := j) (by rw [HCL.out]; omega)
            rw [HX.out] at x0 x1
            rw [HY.out] at y0 y1
            clear hxy hdx
            go_wp2
            go_region
            go_wp2
            have hj1 : j + 1 < c.length := by rw [HCL.out]; omega
            have hst := InvI.step (lt := fun a b => ord a b < 0) (fun a b h => Int.not_lt.2 (HA.out a b h)) HC.out.2 (by omega) (by rw [HCL.out]; omega) (by rw [HX.out, HY.out]; exact HXY.out)
            have hall := swap_world HB.out hj1 HX.out HY.out hR2 hC2 hg2
            go_roundw
            case rel => exact ⟨j, swapN c j, by omega, by go_num, ⟨(swapN_perm hj1).trans HC.out.1, hst⟩, hall.1, hall.2.1, hall.2.2⟩
            case measure => simp [intOf]; try omega
          · have hdx : decide (ord x y < 0) = false := by simp [hxy]
            rw [hdx]
            have hs := InvI.stop (lt := fun a b => ord a b < 0) (fun a b d h1 h2 => Int.not_lt.2 (HN.out a b d (Int.not_lt.1 h1) (Int.not_lt.1 h2))) HC.out.2 (by omega) (.inr (by rw [Nat.add_sub_cancel, HX.out, HY.out]; exact hxy))
            have HS : Hid (c.Perm l ∧ SrtTo (fun a b => ord a b < 0) c (k + 1)) := ⟨HC.out.1, hs⟩
            clear hs hxy hdx
            go_wp2
            go_roundw
            case rel => exact ⟨k + 1, c, .inr (by omega), by omega, by go_num, HS, hR2, hC2, hg2⟩
            case measure => simp [intOf]; omega
        · obtain rfl : m = 0 := by omega
          have hs := InvI.stop (lt := fun a b => ord a b < 0) (fun a b d h1 h2 => Int.not_lt.2 (HN.out a b d (Int.not_lt.1 h1) (Int.not_lt.1 h2))) HC.out.2 (Nat.zero_le _) (.inl rfl)
          have HS : Hid (c.Perm l ∧ SrtTo (fun a b => ord a b < 0) c (k + 1)) := ⟨HC.out.1, hs⟩
          clear hs
          have hd0 : decide ((0 : Int) < (0 : Int)) = false := rfl
          go_wp2
          go_quiet (fail)
          go_wp2
          go_roundw
          case rel => exact ⟨k + 1, c, .inr (by omega), by omega, by go_num, HS, hRi.below ⟨rfl, rfl, rfl, Nat.le_refl _, fun _ _ => rfl⟩, HB.out.below _ _ hCi ⟨rfl, rfl, rfl, Nat.le_refl _, fun _ _ => rfl⟩, hgi.trans (gb_drew wr nq g)⟩
          case measure => simp [intOf]; omega
    · have HF : Hid (c.Perm l ∧ SrtTo (fun a b => ord a b < 0) c n) := ⟨HC.out.1, fun p q h1 h2 => HC.out.2 p q h1 (by omega)⟩
      go_wp2
      go_end0
      exact ⟨rfl, c, HF.out.1, HF.out.2, hRr, hCr, hgr⟩

end Go.Proofs.Ytmpmjkbjnklgfaa

/- The sort of hits by a function, laid at this program: numbers, and the bodies held against those of the library. -/



namespace Go.Proofs.Ytmpmjkbjnklgfaa
open Go.Shelf
def sortHit_ren : Go.Shelf.Ren := ⟨fun | 6 => 72 | 15 => 108 | 14 => 107 | 28 => 146 | 29 => 147 | 20 => 138 | 21 => 139 | 22 => 140 | 23 => 141 | 24 => 142 | 25 => 143 | 26 => 144 | 27 => 145 | 46 => 162 | 47 => 163 | 48 => 164 | 49 => 165 | 50 => 166 | 57 => 183 | n => n, fun | 22 => 41 | 24 => 43 | 25 => 97 | 3 => 3 | 39 => 144 | 0 => 0 | 53 => 176 | 55 => 178 | 4 => 4 | 46 => 170 | 45 => 169 | 50 => 68 | 5 => 5 | 9 => 9 | 66 => 186 | 70 => 190 | 76 => 213 | 77 => 214 | n => n, fun | n => n⟩
theorem sortHit : Go.Proofs.SlLaysF0.n6 Try.prog sortHit_ren := {
  mixed := by kernel_rfl
  f6 := ⟨Try.f72.name, by decide, Try.func72.trans (congrArg some (by kernel_rfl))⟩
  f14 := ⟨Try.f107.name, by decide, Try.func107.trans (congrArg some (by kernel_rfl))⟩
  f15 := Try.func108.trans (congrArg some (by kernel_rfl))
  f20 := ⟨Try.f138.name, by decide, Try.func138.trans (congrArg some (by kernel_rfl))⟩
  f21 := ⟨Try.f139.name, by decide, Try.func139.trans (congrArg some (by kernel_rfl))⟩
  f22 := ⟨Try.f140.name, by decide, Try.func140.trans (congrArg some (by kernel_rfl))⟩
  f23 := ⟨Try.f141.name, by decide, Try.func141.trans (congrArg some (by kernel_rfl))⟩
  f24 := ⟨Try.f142.name, by decide, Try.func142.trans (congrArg some (by kernel_rfl))⟩
  f25 := ⟨Try.f143.name, by decide, Try.func143.trans (congrArg some (by kernel_rfl))⟩
  f26 := ⟨Try.f144.name, by decide, Try.func144.trans (congrArg some (by kernel_rfl))⟩
  f27 := ⟨Try.f145.name, by decide, Try.func145.trans (congrArg some (by kernel_rfl))⟩
  f28 := Try.func146.trans (congrArg some (by kernel_rfl))
  f29 := Try.func147.trans (congrArg some (by kernel_rfl))
  f46 := ⟨Try.f162.name, by decide, Try.func162.trans (congrArg some (by kernel_rfl))⟩
  f47 := Try.func163.trans (congrArg some (by kernel_rfl))
  f48 := Try.func164.trans (congrArg some (by kernel_rfl))
  f49 := ⟨Try.f165.name, by decide, Try.func165.trans (congrArg some (by kernel_rfl))⟩
  f50 := ⟨Try.f166.name, by decide, Try.func166.trans (congrArg some (by kernel_rfl))⟩
  f57 := ⟨Try.f183.name, by decide, Try.func183.trans (congrArg some (by kernel_rfl))⟩
  t0 := Try.underlying0
  a0 := Try.isAgg0
  z0 := Try.sizeOf0
  v0 := Try.zeroValue0
  t3 := Try.underlying3
  a3 := Try.isAgg3
  z3 := Try.sizeOf3
  v3 := Try.zeroValue3
  t4 := Try.underlying4
  a4 := Try.isAgg4
  z4 := Try.sizeOf4
  v4 := Try.zeroValue4
  t5 := Try.underlying5
  a5 := Try.isAgg5
  z5 := Try.sizeOf5
  v5 := Try.zeroValue5
  t9 := Try.underlying9
  a9 := Try.isAgg9
  z9 := Try.sizeOf9
  v9 := Try.zeroValue9
  t22 := Try.underlying41
  a22 := Try.isAgg41
  z22 := Try.sizeOf41
  v22 := Try.zeroValue41
  t25 := Try.underlying97
  a25 := Try.isAgg97
  z25 := Try.sizeOf97
  v25 := Try.zeroValue97
  t39 := Try.underlying144
  a39 := Try.isAgg144
  z39 := Try.sizeOf144
  v39 := Try.zeroValue144
  t45 := Try.underlying169
  a45 := Try.isAgg169
  z45 := Try.sizeOf169
  v45 := Try.zeroValue169
  t46 := Try.underlying170
  a46 := Try.isAgg170
  z46 := Try.sizeOf170
  v46 := Try.zeroValue170
  t50 := Try.underlying68
  a50 := Try.isAgg68
  z50 := Try.sizeOf68
  v50 := Try.zeroValue68
  t53 := Try.underlying176
  a53 := Try.isAgg176
  z53 := Try.sizeOf176
  v53 := Try.zeroValue176
  t55 := Try.underlying178
  a55 := Try.isAgg178
  z55 := Try.sizeOf178
  v55 := Try.zeroValue178
  t66 := Try.underlying186
  a66 := Try.isAgg186
  z66 := Try.sizeOf186
  v66 := Try.zeroValue186
  t70 := Try.underlying190
  a70 := Try.isAgg190
  z70 := Try.sizeOf190
  v70 := Try.zeroValue190
  t76 := Try.underlying213
  a76 := Try.isAgg213
  z76 := Try.sizeOf213
  v76 := Try.zeroValue213
  t77 := Try.underlying214
  a77 := Try.isAgg214
  z77 := Try.sizeOf214
  v77 := Try.zeroValue214 }
end Go.Proofs.Ytmpmjkbjnklgfaa

/- The sort of at most 12 hits by a method that compares: walked. -/



namespace Go.Proofs.Ytmpmjkbjnklgfaa
open Go.RowKit Go.Sort Go.Shelf
set_option linter.unusedVariables false

theorem bitsLen_any (n : Nat) (W : World) (h : n ≤ 1000000000000) : Calls Try.prog 108 #[.int .u64 n] W fun e w' => e = .returned (.int .i64 (Lib.bitLen n)) ∧ W = w' := by
  have h := Any.bits_Len (SlLaysF0.n15.bits (P := Try.prog) (ρ := sortHit_ren) { sortHit with }) (n : Int) W (by omega) (by omega)
  rw [Int.toNat_natCast] at h
  exact h.mono fun e w' ⟨h1, h2⟩ => ⟨h1, h2.symm⟩

set_option maxHeartbeats 1000000 in
theorem insNone_any (f : Value) (cc : Nat) (a : Option Addr) (w : World) :
    Calls Try.prog 138 #[.slice a 0 cc, .int .i64 0, .int .i64 0, f] w fun e w' => e = .returned (.tuple #[]) ∧ w = w' := by
  go_enter Try.func138, Try.ntmps138
  go_wp2
  refine wp_loop_rounds 1 ?_
  rw [rounds_succ]
  go_wp2
  go_end0
  exact ⟨rfl, rfl⟩

set_option maxHeartbeats 1000000 in
theorem pdqSmall_any {R : World → Prop} (f : Value) (n cc : Nat) (a : Option Addr) (L : Int) (w : World) (hn : n ≤ 12)
    (h : Calls Try.prog 138 #[.slice a n cc, .int .i64 0, .int .i64 n, f] w fun e w' => e = .returned (.tuple #[]) ∧ R w') :
    Calls Try.prog 107 #[.slice a n cc, .int .i64 0, .int .i64 n, .int .i64 L, f] w fun e w' => e = .returned (.tuple #[]) ∧ R w' := by
  have H := Lib.hid h
  clear h
  go_enter Try.func107, Try.ntmps107
  go_wp2
  refine wp_loop_rounds 1 ?_
  rw [rounds_succ]
  go_wp2_with fail
  refine H.out.mono ?_
  rintro e w1 ⟨rfl, hr⟩
  have HR := Lib.hid hr
  clear hr
  go_wp2
  exact bodyPost_ret (results_none rfl _ _ _) rfl ⟨rfl, HR.out⟩

set_option maxHeartbeats 1000000 in
theorem sortSmall_any {R : World → Prop} (f : Value) (n cc : Nat) (a : Option Addr) (w : World) (hn : n ≤ 12)
    (h : Calls Try.prog 138 #[.slice a n cc, .int .i64 0, .int .i64 n, f] w fun e w' => e = .returned (.tuple #[]) ∧ R w') :
    Calls Try.prog 72 #[.slice a n cc, f] w fun e w' => e = .returned (.tuple #[]) ∧ R w' := by
  have H := Lib.hid h
  clear h
  have wr : IntKind.u64.wrap (n : Int) = n := by simp [IntKind.wrap, IntKind.bits, IntKind.signed]; omega
  go_enter Try.func72, Try.ntmps72
  go_wp2_with fail
  refine (bitsLen_any n w (by omega)).mono ?_
  rintro e w1 ⟨rfl, rfl⟩
  go_wp2_with fail
  refine (pdqSmall_any f n cc a _ w hn H.out).mono ?_
  rintro e w1 ⟨rfl, hr⟩
  have HR := Lib.hid hr
  clear hr
  go_wp2
  go_end0
  exact ⟨rfl, HR.out⟩

end Go.Proofs.Ytmpmjkbjnklgfaa

/- Plain words of sorting in place: exchanges within a segment, sorted segments, insertion, partition. -/

namespace Go.Proofs.Ytmpmjkbjnklgfaa
set_option linter.unusedVariables false

def swp (c : List HitP) (i j : Nat) : List HitP := (c.set i (nth c j)).set j (nth c i)
theorem swp_length (c : List HitP) (i j : Nat) : (swp c i j).length = c.length := by simp [swp]
theorem nth_swp {c : List HitP} {i j k : Nat} (hi : i < c.length) (hj : j < c.length) : nth (swp c i j) k = if k = j then nth c i else if k = i then nth c j else nth c k := by
  unfold swp
  rw [nth_set (by simpa using hj), nth_set hi]
theorem nth_get {c : List HitP} {i : Nat} (h : i < c.length) : nth c i = c[i] := by
  unfold nth; rw [List.getD_eq_getElem?_getD, List.getElem?_eq_getElem h, Option.getD_some]
theorem swp_perm {c : List HitP} {i j : Nat} (hi : i < c.length) (hj : j < c.length) : (swp c i j).Perm c := by
  unfold swp
  rw [nth_get hi, nth_get hj]
  exact List.set_set_perm hi hj

/-- Exchanges, all within [a, b). -/
def Seg (a b : Nat) (c c' : List HitP) : Prop := ∃ ss : List (Nat × Nat), (∀ s ∈ ss, (a ≤ s.1 ∧ s.1 < b) ∧ a ≤ s.2 ∧ s.2 < b) ∧ c' = ss.foldl (fun c s => swp c s.1 s.2) c
theorem Seg.refl (a b : Nat) (c : List HitP) : Seg a b c c := ⟨[], by simp, rfl⟩
theorem Seg.trans {a b : Nat} {c d e : List HitP} (h : Seg a b c d) (k : Seg a b d e) : Seg a b c e := by
  obtain ⟨s, h1, rfl⟩ := h
  obtain ⟨t, k1, rfl⟩ := k
  refine ⟨s ++ t, fun x hx => ?_, by rw [List.foldl_append]⟩
  rcases List.mem_append.1 hx with hx | hx
  · exact h1 x hx
  · exact k1 x hx
theorem Seg.swap {a b i j : Nat} (c : List HitP) (hi : a ≤ i ∧ i < b) (hj : a ≤ j ∧ j < b) : Seg a b c (swp c i j) := ⟨[(i, j)], by simpa using ⟨hi, hj⟩, rfl⟩
theorem Seg.mono {a b a' b' : Nat} {c d : List HitP} (h : Seg a b c d) (ha : a' ≤ a) (hb : b ≤ b') : Seg a' b' c d := by
  obtain ⟨s, h1, rfl⟩ := h
  exact ⟨s, fun x hx => by have := h1 x hx; omega, rfl⟩
theorem Seg.length {a b : Nat} {c d : List HitP} (h : Seg a b c d) : d.length = c.length := by
  obtain ⟨s, h1, rfl⟩ := h
  clear h1
  induction s generalizing c with
  | nil => rfl
  | cons x s ih => rw [List.foldl_cons, ih, swp_length]
theorem Seg.keep {a b : Nat} {c d : List HitP} (h : Seg a b c d) (hb : b ≤ c.length) :
    d.Perm c ∧ (∀ i, i < a ∨ b ≤ i → nth d i = nth c i) ∧ ∀ P : HitP → Prop, (∀ i, a ≤ i → i < b → P (nth c i)) → ∀ i, a ≤ i → i < b → P (nth d i) := by
  obtain ⟨s, h1, rfl⟩ := h
  induction s generalizing c with
  | nil => exact ⟨List.Perm.refl _, fun _ _ => rfl, fun _ h => h⟩
  | cons x s ih =>
    have hx := h1 x (by simp)
    obtain ⟨i1, i2, i3⟩ := ih (c := swp c x.1 x.2) (by rw [swp_length]; exact hb) (fun y hy => h1 y (by simp [hy]))
    rw [List.foldl_cons]
    refine ⟨i1.trans (swp_perm (by omega) (by omega)), fun i hi => ?_, fun P hP => i3 P fun i hi1 hi2 => ?_⟩
    · rw [i2 i hi, nth_swp (by omega) (by omega), if_neg (by omega), if_neg (by omega)]
    · rw [nth_swp (by omega) (by omega)]
      split
      · exact hP _ (by omega) (by omega)
      · split
        · exact hP _ (by omega) (by omega)
        · exact hP _ hi1 hi2
theorem Seg.perm {a b : Nat} {c d : List HitP} (h : Seg a b c d) (hb : b ≤ c.length) : d.Perm c := (h.keep hb).1
theorem Seg.out {a b : Nat} {c d : List HitP} (h : Seg a b c d) (hb : b ≤ c.length) {i : Nat} (hi : i < a ∨ b ≤ i) : nth d i = nth c i := (h.keep hb).2.1 i hi
theorem Seg.all {a b : Nat} {c d : List HitP} (h : Seg a b c d) (hb : b ≤ c.length) {P : HitP → Prop} (hP : ∀ i, a ≤ i → i < b → P (nth c i)) : ∀ i, a ≤ i → i < b → P (nth d i) := (h.keep hb).2.2 P hP

/-- Sorted from a to b. -/
def Srt (lt : HitP → HitP → Prop) (c : List HitP) (a b : Nat) : Prop := ∀ p q, a ≤ p → p < q → q < b → ¬ lt (nth c q) (nth c p)
structure Ord (lt : HitP → HitP → Prop) : Prop where
  asym : ∀ a b, lt a b → ¬ lt b a
  ntrans : ∀ a b d, ¬ lt a b → ¬ lt b d → ¬ lt a d
theorem Ord.irrefl {lt : HitP → HitP → Prop} (h : Ord lt) (a : HitP) : ¬ lt a a := fun e => h.asym a a e e
theorem Ord.trans {lt : HitP → HitP → Prop} (h : Ord lt) {a b d : HitP} (h1 : lt a b) (h2 : lt b d) : lt a d := Classical.byContradiction fun e => h.ntrans a d b e (h.asym _ _ h2) h1
theorem Ord.lt_of {lt : HitP → HitP → Prop} (h : Ord lt) {a b d : HitP} (h1 : lt a b) (h2 : ¬ lt d b) : lt a d := Classical.byContradiction fun e => h.ntrans a d b e h2 h1
theorem Ord.lt_of' {lt : HitP → HitP → Prop} (h : Ord lt) {a b d : HitP} (h1 : ¬ lt b a) (h2 : lt b d) : lt a d := Classical.byContradiction fun e => h.ntrans b a d h1 e h2
theorem Srt.small (lt : HitP → HitP → Prop) (c : List HitP) {a b : Nat} (h : b ≤ a + 1) : Srt lt c a b := fun p q h1 h2 h3 => by omega

/-! ### insertion -/
def Ins (lt : HitP → HitP → Prop) (c : List HitP) (a i j : Nat) : Prop := ∀ p q, a ≤ p → p < q → q ≤ i → q ≠ j → ¬ lt (nth c q) (nth c p)
theorem Ins.start {lt : HitP → HitP → Prop} {c : List HitP} {a i : Nat} (h : Srt lt c a i) : Ins lt c a i i := fun p q h0 h1 h2 h3 => h p q h0 h1 (by omega)
theorem Ins.stop {lt : HitP → HitP → Prop} (hO : Ord lt) {c : List HitP} {a i j : Nat} (h : Ins lt c a i j) (hj : j ≤ i) (h0 : j ≤ a ∨ ¬ lt (nth c j) (nth c (j - 1))) : Srt lt c a (i + 1) := by
  intro p q hp h1 h2
  by_cases hq : q = j
  · subst hq
    rcases h0 with h0 | h0
    · omega
    · by_cases hpq : p = q - 1
      · rw [hpq]; exact h0
      · exact hO.ntrans _ _ _ h0 (h p (q - 1) hp (by omega) (by omega) (by omega))
  · exact h p q hp h1 (by omega) hq
theorem Ins.step {lt : HitP → HitP → Prop} (hO : Ord lt) {c : List HitP} {a i j : Nat} (h : Ins lt c a i (j + 1)) (ha : a ≤ j) (hj : j + 1 ≤ i) (hi : i < c.length) (hlt : lt (nth c (j + 1)) (nth c j)) : Ins lt (swp c (j + 1) j) a i j := by
  intro p q hp h1 h2 h3
  rw [nth_swp (by omega) (by omega), nth_swp (by omega) (by omega), if_neg h3]
  by_cases hq : q = j + 1
  · subst hq
    rw [if_pos rfl]
    by_cases hpj : p = j
    · rw [if_pos hpj]; exact hO.asym _ _ hlt
    · rw [if_neg hpj, if_neg (by omega)]
      exact h p j hp (by omega) (by omega) (by omega)
  · rw [if_neg hq]
    by_cases hpj : p = j
    · rw [if_pos hpj]
      exact h (j + 1) q (by omega) (by omega) h2 hq
    · rw [if_neg hpj]
      by_cases hp1 : p = j + 1
      · rw [if_pos hp1]
        exact h j q ha (by omega) h2 hq
      · rw [if_neg hp1]
        exact h p q hp h1 h2 hq

/-! ### heaps -/
/-- Node k of the heap that lies from f on, up to hi, is not less than its kids, all nodes from lo on but one. -/
def Heap (lt : HitP → HitP → Prop) (c : List HitP) (f hi lo ex : Nat) : Prop := ∀ k j, lo ≤ k → k ≠ ex → (j = 2 * k + 1 ∨ j = 2 * k + 2) → j < hi → ¬ lt (nth c (f + k)) (nth c (f + j))
/-- .. and what stands above the hole is not less than what stands below it. -/
def Above (lt : HitP → HitP → Prop) (c : List HitP) (f hi lo ex : Nat) : Prop := ∀ k j, lo ≤ k → (ex = 2 * k + 1 ∨ ex = 2 * k + 2) → (j = 2 * ex + 1 ∨ j = 2 * ex + 2) → j < hi → ¬ lt (nth c (f + k)) (nth c (f + j))

end Go.Proofs.Ytmpmjkbjnklgfaa
