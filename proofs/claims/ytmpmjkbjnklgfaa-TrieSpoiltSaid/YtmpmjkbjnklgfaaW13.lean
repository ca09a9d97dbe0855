/- Parts of the proof, one behind the other: R3, T1, T2, T3, U3. No condition but what each theorem states. -/
import Derived.IntWalk
import Derived.Deep.CutBlock
import Derived.Test.YtmpmjkbjnklgfaaW6
import Derived.Test.YtmpmjkbjnklgfaaW10
import Derived.Test.YtmpmjkbjnklgfaaW12

/- Which hits stand, whether they rise, those between two places, as the document has them (layer 6): walked. -/

namespace Go.Proofs.Ytmpmjkbjnklgfaa
open Go.RowKit Go.Sort
set_option linter.unusedVariables false
set_option linter.unusedSimpArgs false

set_option maxHeartbeats 2000000 in
theorem rrise6_any (fold : Bool) (a b : Option Addr) (la ca lb cb : Nat) (l : List HitP) (wss : List (List Int)) (w : World) (hA : Wds w a la wss) (hL : Hts w b lb l) (hla : la ≤ 1000000) (hlb : lb ≤ 4611686018427387904) :
    Calls Try.prog 36 #[.agg (setV fold a la ca), .slice b lb cb] w fun e w' => e = .returned (.bool (riseH wss l)) ∧ Below w.heap.size w w' := by
  have hB0 : Below w.heap.size w (w.alloc (.cells (setV fold a la ca) 39)) := (Below.refl _ _).alloc (Nat.le_refl _) _
  have hnew := World.alloc_heap_new w (.cells (setV fold a la ca) 39)
  have HLN := Lib.hid hL.len
  go_enter Try.func36, Try.ntmps36
  go_wp2
  go_loopw [5] (fun i wr => ∃ k : Nat, (k = 0 ∨ k < lb) ∧ i = .int .i64 ((k : Int) + 1) ∧ Hid (riseH wss (l.take (k + 1)) = true) ∧ Below w.heap.size w wr ∧ wr.heap[w.heap.size]? = some (.cells (setV fold a la ca) 39 (0, 0))) (fun i _ => lb - (intOf i).toNat)
  case atStart =>
    refine ⟨0, .inl rfl, rfl, ?_, hB0, hnew⟩
    cases l <;> simp [Hid, riseH]
  case round =>
    obtain ⟨k, hk, rfl, HK, hBe, hsr⟩ := hrel
    by_cases hlt : k + 1 < lb
    · have hLr := hL.below hBe
      obtain ⟨bb, off, x, rfl, hbl, cx0, cx1, hx, _, _⟩ := hLr.at_ (show k < lb by omega)
      obtain ⟨_, _, y, e, _, cy0, cy1, hy, _, _⟩ := hLr.at_ hlt
      injection e with e
      injection e with e1 e2
      subst e1 e2
      clear hk
      have HS : Hid (riseH wss (l.take (k + 1 + 1)) = lessH wss x y) := by
        have := riseH_take (wss := wss) hx hy
        rw [HK.out, Bool.true_and] at this
        exact this
      have hAr := hA.below hBe
      clear hx hy hLr
      have hszr : w.heap.size < wr.heap.size := (Array.getElem?_eq_some_iff.1 hsr).1
      have s0 : ∀ d os, (grow (redrawn wr d) os).cell? ⟨w.heap.size, 0, none⟩ = some (.bool fold) := fun d os => ((below_regrown wr d os).cell (p := ⟨w.heap.size, 0, none⟩) hszr).trans (by simp [World.cell?, hsr])
      have s1 : ∀ d os, (grow (redrawn wr d) os).cell? ⟨w.heap.size, 1, none⟩ = some (.slice a la ca) := fun d os => ((below_regrown wr d os).cell (p := ⟨w.heap.size, 1, none⟩) hszr).trans (by simp [World.cell?, hsr])
      have x0 : ∀ d os, (grow (redrawn wr d) os).cell? ⟨bb, off + k * 2, none⟩ = some (.int .i64 x.1) := fun d os => ((below_regrown wr d os).cell (p := ⟨bb, off + k * 2, none⟩) hbl).trans cx0
      have x1 : ∀ d os, (grow (redrawn wr d) os).cell? ⟨bb, off + k * 2 + 1, none⟩ = some (.int .i64 x.2) := fun d os => ((below_regrown wr d os).cell (p := ⟨bb, off + k * 2 + 1, none⟩) hbl).trans cx1
      have y0 : ∀ d os, (grow (redrawn wr d) os).cell? ⟨bb, off + (k + 1) * 2, none⟩ = some (.int .i64 y.1) := fun d os => ((below_regrown wr d os).cell (p := ⟨bb, off + (k + 1) * 2, none⟩) hbl).trans cy0
      have y1 : ∀ d os, (grow (redrawn wr d) os).cell? ⟨bb, off + (k + 1) * 2 + 1, none⟩ = some (.int .i64 y.2) := fun d os => ((below_regrown wr d os).cell (p := ⟨bb, off + (k + 1) * 2 + 1, none⟩) hbl).trans cy1
      have hA2 : ∀ d os, Wds (grow (redrawn wr d) os) a la wss := fun d os => hAr.below (below_regrown wr d os)
      clear cx0 cx1 cy0 cy1
      have hd : decide ((k : Int) + 1 < lb) = true := by simp; omega
      go_wp2
      refine wp_region_quiet_below mixed (by kernel_rfl) ?_
      repeat (go_big_quiet_step (exact grown_below (rless6_any fold a la ca x y wss _ (hA2 _ _) hla)))
      refine wpQuiet_nil ?_
      rintro _ ⟨⟨dq, osq⟩, rfl⟩
      have hBq := below_regrown wr dq osq
      have hB1 : Below w.heap.size w (grow (redrawn wr dq) osq) := hBe.trans (hBq.mono hBe.size)
      have hs1 : (grow (redrawn wr dq) osq).heap[w.heap.size]? = _ := (hBq.block _ hszr).trans hsr
      clear s0 s1 x0 x1 y0 y1 hA2
      cases e : lessH wss x y with
      | true =>
        rw [e] at HS
        go_wp2
        go_roundw
        case rel => exact ⟨k + 1, by omega, by go_num, HS, hB1, hs1⟩
        case measure => simp [intOf]; omega
      | false =>
        rw [e] at HS
        have HN := Lib.hid (riseH_no HS.out)
        go_wp2
        go_ret
        exact ⟨by rw [HN.out]; rfl, hB1⟩
    · have HN : Hid (riseH wss l = true) := by
        have h := HK.out
        rwa [List.take_of_length_le (by rw [HLN.out]; omega)] at h
      go_wp2
      go_ret
      exact ⟨by rw [HN.out]; rfl, hBe⟩

set_option maxRecDepth 100000 in
set_option maxHeartbeats 2000000 in
theorem rbetween6_h (low high : Int) (a : Option Addr) (la ca : Nat) (l : List HitP) (w : World) (hL : Hts w a la l) (hla : la ≤ 1000000000000) :
    Calls Try.prog 38 #[.int .i64 low, .int .i64 high, .slice a la ca] w fun e w' => ∃ v, e = .returned v ∧ OwnH w' w.heap.size v (betwH low high l) ∧ Below w.heap.size w w' := by
  obtain ⟨i0, hi, hz0, hz1, hz2⟩ := info_parts hit_info
  have HLN := Lib.hid hL.len
  go_enter Try.func38, Try.ntmps38
  go_wp2
  go_loopw [7, 8] (fun v i wr => ∃ k : Nat, k ≤ la ∧ i = .int .i64 k ∧ Below w.heap.size w wr ∧ OwnH wr w.heap.size v (betwH low high (l.take k))) (fun _ i _ => la - (intOf i).toNat)
  case atStart => exact ⟨0, Nat.zero_le _, rfl, Below.refl _ _, by simpa [OwnH, betwH, hcells] using World.ownsRow_nil w w.heap.size 43 2⟩
  case round =>
    obtain ⟨k, hk, rfl, hBe, hown⟩ := hrel
    by_cases hlt : k < la
    · obtain ⟨b, off, x, rfl, hbl, c0, c1, hx, hxb⟩ := (hL.below hBe).at_ hlt
      have HX := Lib.hid hx
      clear hx
      have hlen : (betwH low high (l.take k)).length ≤ k := by
        have h1 := List.length_filter_le (fun h : HitP => decide (low < h.1) && decide (h.1 ≤ high)) (l.take k)
        have h2 := List.length_take_le k l
        unfold betwH
        omega
      have HSN := Lib.hid (betwH_snoc low high (l.take k) x)
      have HTK := Lib.hid (take_step HX.out)
      by_cases h1 : low < x.1
      · by_cases h2 : x.1 ≤ high
        · obtain ⟨m, hm⟩ : ∃ m, (betwH low high (l.take k)).length = m := ⟨_, rfl⟩
          unfold OwnH at hown
          rw [hm] at hown hlen
          have HM := Lib.hid hm
          clear hm
          go_wp2_with (at_builtin; refine wpList_append_own _ rfl _ _ 41 rfl w.heap.size 43 i0 (.agg #[.int .i64 0, .int .i64 0]) 2 16 Try.underlying41 hi hz0 hz1 hz2 rfl (by decide) _ _ _ rfl (hown.alloc _) ⟨wr.heap.size, 0, none⟩ 1 1 [.int .i64 x.1, .int .i64 x.2] rfl rfl (cells_new _ _ (by simp)) (by simp [Value.oneCell']) (by unfold maxLen; omega) (by omega) (by have := hBe.size; simp; omega) ?_; intro v' w5 hown' hgrow hnil)
          have hB5 : Below w.heap.size w w5 := (hBe.alloc hBe.size _).grown hgrow (by have := hBe.size; simp; omega) (fun j hj => (hown.lt j hj).1)
          go_roundw
          case rel =>
            refine ⟨k + 1, by omega, by go_num, hB5, ?_⟩
            unfold OwnH
            rw [HTK.out, HSN.out, if_pos ⟨h1, h2⟩, List.length_append, HM.out, hcells_snoc]
            exact hown'
          case measure => simp [intOf]; omega
        · go_wp2
          go_roundw
          case rel =>
            refine ⟨k + 1, by omega, by go_num, hBe, ?_⟩
            rw [HTK.out, HSN.out, if_neg (by omega)]
            exact hown
          case measure => simp [intOf]; omega
      · go_wp2
        go_roundw
        case rel =>
          refine ⟨k + 1, by omega, by go_num, hBe, ?_⟩
          rw [HTK.out, HSN.out, if_neg (by omega)]
          exact hown
        case measure => simp [intOf]; omega
    · obtain rfl : k = la := by omega
      have HF : Hid (l.take k = l) := List.take_of_length_le (by rw [HLN.out]; exact Nat.le_refl _)
      rw [HF.out] at hown
      go_wp2
      go_ret
      exact ⟨_, rfl, hown, hBe⟩

theorem right_pos {fold : Bool} {wss : List (List Int)} (h : rightP fold wss = true) : ∀ x ∈ wss, x.length ≠ 0 := by
  unfold rightP at h
  rw [Bool.and_eq_true] at h
  have h1 : checkP fold wss = 0 := of_decide_eq_true h.1
  unfold checkP at h1
  rw [firstAsk_eq] at h1
  intro x hx e
  have hne : wss ≠ [] := by intro e; subst e; cases hx
  have h2 := ((cnt_spec wss).2.2.2.2 hne).2 ⟨x, hx, e⟩
  have h3 : askB (cnt wss).1 (cnt wss).2.1 (cnt wss).2.2.1 (cnt wss).2.2.2 (nrun (begL fold wss)).many 2 = true := by simp [askB, h2]
  rw [h3] at h1
  split at h1
  · cases h1
  · split at h1
    · cases h1
    · simp at h1
theorem lenW_pos {wss : List (List Int)} (h : ∀ x ∈ wss, x.length ≠ 0) {k : Int} (h0 : 0 ≤ k) (h1 : k < wss.length) : 0 < lenW wss k := by
  unfold lenW
  rw [if_pos ⟨h0, h1⟩]
  obtain ⟨x, hx⟩ : ∃ x, wss[k.toNat]? = some x := ⟨wss[k.toNat]'(by omega), by simp⟩
  rw [hx, Option.getD_some]
  have := h x (List.mem_of_getElem? hx)
  omega

/-- The boxes of a set and of a hit. -/
theorem box_sh {w : World} {fold : Bool} {a : Option Addr} {la ca : Nat} {x y : Int} {W : World} (hb : Below (w.heap.size + 2) ((w.alloc (.cells (setV fold a la ca) 39)).alloc (.cells #[.int .i64 x, .int .i64 y] 43)) W) :
    Below w.heap.size w W ∧ W.heap[w.heap.size]? = some (.cells (setV fold a la ca) 39 (0, 0)) ∧ W.heap[w.heap.size + 1]? = some (.cells #[.int .i64 x, .int .i64 y] 43 (0, 0)) := by
  refine ⟨(((Below.refl _ _).alloc (Nat.le_refl _) _).alloc (by simp) _).trans (hb.mono (by omega)), ?_, ?_⟩
  · exact (hb.block _ (by omega)).trans ((Below.heap_alloc _ _ _ (by simp)).trans (World.alloc_heap_new _ _))
  · exact (hb.block _ (by omega)).trans (alloc_at (by simp) _)

set_option maxHeartbeats 4000000 in
theorem rstands6_any (fold : Bool) (a b : Option Addr) (la ca lb cb : Nat) (frm : Int) (text : List Int) (h : HitP) (wss : List (List Int)) (w : World) (hA : Wds w a la wss) (hL : Bys w b lb text) (hla : la ≤ 1000000) (hlb : lb ≤ 1000000) (hcb : lb ≤ cb) (hM : ∀ x ∈ wss, x.length ≤ 1000000) (hh : I64 h.1 ∧ I64 h.2) :
    Calls Try.prog 32 #[.agg (setV fold a la ca), .int .i64 frm, .slice b lb cb, .agg #[.int .i64 h.1, .int .i64 h.2]] w fun e w' => e = .returned (.bool (mayP fold wss frm && standsH fold wss frm text h)) ∧ Below w.heap.size w w' := by
  obtain ⟨hE, hW⟩ := h
  obtain ⟨⟨hh1, hh2⟩, hh3, hh4⟩ := hh
  dsimp only at hh1 hh2 hh3 hh4 ⊢
  have HL := Lib.hid hA.len
  have HT := Lib.hid hL.len
  have hB2 : Below w.heap.size w ((w.alloc (.cells (setV fold a la ca) 39)).alloc (.cells #[.int .i64 hE, .int .i64 hW] 43)) := ((Below.refl _ _).alloc (Nat.le_refl _) _).alloc (by simp) _
  have HC := Lib.hid (rright_any fold a la ca wss _ (hA.below hB2) hla hM)
  have after : ∀ w1 : World, Below ((w.alloc (.cells (setV fold a la ca) 39)).alloc (.cells #[.int .i64 hE, .int .i64 hW] 43)).heap.size ((w.alloc (.cells (setV fold a la ca) 39)).alloc (.cells #[.int .i64 hE, .int .i64 hW] 43)) w1 →
      Below w.heap.size w w1 ∧ w1.heap[w.heap.size]? = some (.cells (setV fold a la ca) 39 (0, 0)) ∧ w1.heap[w.heap.size + 1]? = some (.cells #[.int .i64 hE, .int .i64 hW] 43 (0, 0)) := fun w1 hb => box_sh (hb.mono (by simp))
  clear hB2
  cases hm : mayP fold wss frm with
  | false =>
    have HE : Hid ((false && standsH fold wss frm text (hE, hW)) = false) := Bool.false_and _
    unfold mayP at hm
    rw [right_eq] at hm
    by_cases h0 : 0 ≤ frm ∧ frm ≤ 4611686018427387904
    · rw [decide_eq_true h0, Bool.true_and] at hm
      have HM := Lib.hid hm
      clear hm
      rw [HE.out]
      go_enter Try.func32, Try.ntmps32
      go_wp2_with fail
      refine HC.out.mono ?_
      rintro e w1 ⟨rfl, hb⟩
      obtain ⟨hB1, n0, n1⟩ := after w1 hb
      rw [HM.out]
      clear hb n0 n1
      go_wp2
      go_ret
      exact ⟨rfl, hB1⟩
    · clear hm
      rw [HE.out]
      by_cases h1 : 0 ≤ frm
      · have h2 : 4611686018427387904 < frm := by omega
        clear h0
        go_enter Try.func32, Try.ntmps32
        go_wp2_with fail
        refine HC.out.mono ?_
        rintro e w1 ⟨rfl, hb⟩
        obtain ⟨hB1, n0, n1⟩ := after w1 hb
        clear hb n0 n1
        cases rightR fold wss
        all_goals
          go_wp2
          go_ret
          exact ⟨rfl, hB1⟩
      · clear h0
        go_enter Try.func32, Try.ntmps32
        go_wp2_with fail
        refine HC.out.mono ?_
        rintro e w1 ⟨rfl, hb⟩
        obtain ⟨hB1, n0, n1⟩ := after w1 hb
        clear hb n0 n1
        cases rightR fold wss
        all_goals
          go_wp2
          go_ret
          exact ⟨rfl, hB1⟩
  | true =>
    obtain ⟨hf0, hf1⟩ := mayP_frm hm
    have hpos : rightP fold wss = true := by
      unfold mayP at hm
      rw [Bool.and_eq_true] at hm
      exact hm.2
    have HM : Hid (rightR fold wss = true) := by rw [Hid, ← right_eq]; exact hpos
    have HPOS := Lib.hid (right_pos hpos)
    clear hm hpos
    rw [Bool.true_and]
    by_cases g1 : 0 ≤ hW ∧ hW < la
    · obtain ⟨k, rfl⟩ : ∃ k : Nat, hW = k := ⟨hW.toNat, by omega⟩
      obtain ⟨x, hx⟩ : ∃ x, wss[k]? = some x := ⟨wss[k]'(by rw [HL.out]; omega), by simp⟩
      have hlen := lenW_pos HPOS.out g1.1 (by rw [HL.out]; omega)
      have hl0 : (lenW wss (k : Int) == 0) = false := by simp; omega
      have hkl : k < la := by omega
      by_cases g3 : frm ≤ hE
      · by_cases g4 : hE ≤ frm + lb
        · obtain ⟨p, hp⟩ : ∃ p : Nat, hE - frm = p := ⟨(hE - frm).toNat, by omega⟩
          have HP := Lib.hid hp
          have HE : Hid (standsH fold wss frm text (hE, (k : Int)) = atL fold text (hE - frm) x) := by
            unfold Hid standsH
            dsimp only
            rw [decide_eq_true ⟨g1.1, by rw [HL.out]; exact g1.2, g3, by rw [HT.out]; omega⟩, Bool.true_and, HP.out, Int.toNat_natCast, Int.toNat_natCast, stands_is hx]
          have HX := Lib.hid hx
          clear hx hp g1
          go_enter Try.func32, Try.ntmps32
          go_wp2_with fail
          refine HC.out.mono ?_
          rintro e w1 ⟨rfl, hb⟩
          obtain ⟨hB1, n0, n1⟩ := after w1 hb
          rw [HM.out]
          have z1 : w.heap.size + 1 < w1.heap.size := (Array.getElem?_eq_some_iff.1 n1).1
          have c0 : w1.cell? ⟨w.heap.size, 0, none⟩ = some (.bool fold) := by simp [World.cell?, n0]
          have c1 : w1.cell? ⟨w.heap.size, 1, none⟩ = some (.slice a la ca) := by simp [World.cell?, n0]
          have c2 : w1.cell? ⟨w.heap.size + 1, 0, none⟩ = some (.int .i64 hE) := by simp [World.cell?, n1]
          have c3 : w1.cell? ⟨w.heap.size + 1, 1, none⟩ = some (.int .i64 k) := by simp [World.cell?, n1]
          clear hb
          go_wp2_with fail
          refine (rlen6_any fold a la ca (k : Int) wss w1 (hA.below hB1) hla).mono ?_
          rintro e w2 ⟨rfl, hb⟩
          have hB2 : Below w.heap.size w w2 := hB1.trans (hb.mono hB1.size)
          have m0 : w2.heap[w.heap.size]? = _ := (hb.block _ (by omega)).trans n0
          have m1 : w2.heap[w.heap.size + 1]? = _ := (hb.block _ z1).trans n1
          clear c0 c1 c2 c3 hb n0 n1 z1
          have z1 : w.heap.size + 1 < w2.heap.size := (Array.getElem?_eq_some_iff.1 m1).1
          have hcell : ∀ (n i : Nat) (cs : Array Value) (t : TypeId) (v : Value), n < w2.heap.size → w2.heap[n]? = some (.cells cs t (0, 0)) → cs[i]? = some v → w2.cell? ⟨n, i, none⟩ = some v ∧ ∀ d os, (grow (redrawn w2 d) os).cell? ⟨n, i, none⟩ = some v := fun n i cs t v hn hb hv => by
            have e : w2.cell? ⟨n, i, none⟩ = some v := by simp [World.cell?, hb, hv]
            exact ⟨e, fun d os => ((below_regrown w2 d os).cell (p := ⟨n, i, none⟩) hn).trans e⟩
          obtain ⟨c0, d0⟩ := hcell w.heap.size 0 _ _ (.bool fold) (by omega) m0 rfl
          obtain ⟨c1, d1⟩ := hcell w.heap.size 1 _ _ (.slice a la ca) (by omega) m0 rfl
          obtain ⟨c2, d2⟩ := hcell (w.heap.size + 1) 0 _ _ (.int .i64 hE) (by omega) m1 rfl
          obtain ⟨c3, d3⟩ := hcell (w.heap.size + 1) 1 _ _ (.int .i64 k) (by omega) m1 rfl
          obtain ⟨bb, off, aw, lw, cw, x', rfl, hbl, hcl, hx', hX, hlc⟩ := (hA.below hB2).at_ hkl
          obtain rfl : x = x' := by have := HX.out; rw [hx'] at this; exact (Option.some.inj this).symm
          have hlw : lw ≤ 1000000 := by have := mem_bd hM HX.out; rw [hX.len] at this; exact this
          have hcl2 : ∀ d os, (grow (redrawn w2 d) os).cell? ⟨bb, off + k, none⟩ = some (.slice aw lw cw) := fun d os => ((below_regrown w2 d os).cell (p := ⟨bb, off + k, none⟩) hbl).trans hcl
          have hX2 : ∀ d os, Bys (grow (redrawn w2 d) os) aw lw x := fun d os => hX.below (below_regrown w2 d os)
          have hL2 : ∀ d os, Bys (grow (redrawn w2 d) os) b lb text := fun d os => (hL.below hB2).below (below_regrown w2 d os)
          clear hcell m0 m1 hX hx' hcl
          go_wp2
          refine wp_region_quiet_below mixed (by kernel_rfl) ?_
          repeat (go_big_quiet_step (exact grown_below (rat_any fold b aw lb cb lw cw (hE - frm) text x _ (hL2 _ _) (hX2 _ _) hcb hlb hlw (by omega))))
          refine wpQuiet_nil ?_
          rintro _ ⟨⟨dq, osq⟩, rfl⟩
          go_wp2
          go_ret
          exact ⟨by rw [HE.out]; rfl, hB2.trans ((below_regrown w2 dq osq).mono hB2.size)⟩
        · have HE : Hid (standsH fold wss frm text (hE, (k : Int)) = false) := standsH_no (by dsimp only; rw [HT.out]; omega)
          go_enter Try.func32, Try.ntmps32
          go_wp2_with fail
          refine HC.out.mono ?_
          rintro e w1 ⟨rfl, hb⟩
          obtain ⟨hB1, n0, n1⟩ := after w1 hb
          rw [HM.out]
          have z1 : w.heap.size + 1 < w1.heap.size := (Array.getElem?_eq_some_iff.1 n1).1
          have c0 : w1.cell? ⟨w.heap.size, 0, none⟩ = some (.bool fold) := by simp [World.cell?, n0]
          have c1 : w1.cell? ⟨w.heap.size, 1, none⟩ = some (.slice a la ca) := by simp [World.cell?, n0]
          have c2 : w1.cell? ⟨w.heap.size + 1, 0, none⟩ = some (.int .i64 hE) := by simp [World.cell?, n1]
          have c3 : w1.cell? ⟨w.heap.size + 1, 1, none⟩ = some (.int .i64 k) := by simp [World.cell?, n1]
          clear hb
          go_wp2_with fail
          refine (rlen6_any fold a la ca (k : Int) wss w1 (hA.below hB1) hla).mono ?_
          rintro e w2 ⟨rfl, hb⟩
          have hB2 : Below w.heap.size w w2 := hB1.trans (hb.mono hB1.size)
          have m1 : w2.heap[w.heap.size + 1]? = _ := (hb.block _ z1).trans n1
          have d2 : w2.cell? ⟨w.heap.size + 1, 0, none⟩ = some (.int .i64 hE) := by simp [World.cell?, m1]
          clear c0 c1 c2 c3 hb n0 n1 z1 m1
          go_wp2
          go_ret
          exact ⟨by rw [HE.out]; rfl, hB2⟩
      · have HE : Hid (standsH fold wss frm text (hE, (k : Int)) = false) := standsH_no (by dsimp only; omega)
        go_enter Try.func32, Try.ntmps32
        go_wp2_with fail
        refine HC.out.mono ?_
        rintro e w1 ⟨rfl, hb⟩
        obtain ⟨hB1, n0, n1⟩ := after w1 hb
        rw [HM.out]
        have z1 : w.heap.size + 1 < w1.heap.size := (Array.getElem?_eq_some_iff.1 n1).1
        have c0 : w1.cell? ⟨w.heap.size, 0, none⟩ = some (.bool fold) := by simp [World.cell?, n0]
        have c1 : w1.cell? ⟨w.heap.size, 1, none⟩ = some (.slice a la ca) := by simp [World.cell?, n0]
        have c2 : w1.cell? ⟨w.heap.size + 1, 0, none⟩ = some (.int .i64 hE) := by simp [World.cell?, n1]
        have c3 : w1.cell? ⟨w.heap.size + 1, 1, none⟩ = some (.int .i64 k) := by simp [World.cell?, n1]
        clear hb
        go_wp2_with fail
        refine (rlen6_any fold a la ca (k : Int) wss w1 (hA.below hB1) hla).mono ?_
        rintro e w2 ⟨rfl, hb⟩
        have hB2 : Below w.heap.size w w2 := hB1.trans (hb.mono hB1.size)
        have m1 : w2.heap[w.heap.size + 1]? = _ := (hb.block _ z1).trans n1
        have d2 : w2.cell? ⟨w.heap.size + 1, 0, none⟩ = some (.int .i64 hE) := by simp [World.cell?, m1]
        clear c0 c1 c2 c3 hb n0 n1 z1 m1
        go_wp2
        go_ret
        exact ⟨by rw [HE.out]; rfl, hB2⟩
    · have HE : Hid (standsH fold wss frm text (hE, hW) = false) := standsH_no (by dsimp only; rw [HL.out]; omega)
      have hl0 : lenW wss hW = 0 := by unfold lenW; rw [if_neg (by rw [HL.out]; exact g1)]
      have HL0 := Lib.hid hl0
      clear hl0
      go_enter Try.func32, Try.ntmps32
      go_wp2_with fail
      refine HC.out.mono ?_
      rintro e w1 ⟨rfl, hb⟩
      obtain ⟨hB1, n0, n1⟩ := after w1 hb
      rw [HM.out]
      have z1 : w.heap.size + 1 < w1.heap.size := (Array.getElem?_eq_some_iff.1 n1).1
      have c0 : w1.cell? ⟨w.heap.size, 0, none⟩ = some (.bool fold) := by simp [World.cell?, n0]
      have c1 : w1.cell? ⟨w.heap.size, 1, none⟩ = some (.slice a la ca) := by simp [World.cell?, n0]
      have c2 : w1.cell? ⟨w.heap.size + 1, 0, none⟩ = some (.int .i64 hE) := by simp [World.cell?, n1]
      have c3 : w1.cell? ⟨w.heap.size + 1, 1, none⟩ = some (.int .i64 hW) := by simp [World.cell?, n1]
      clear hb
      go_wp2_with fail
      refine (rlen6_any fold a la ca hW wss w1 (hA.below hB1) hla).mono ?_
      rintro e w2 ⟨rfl, hb⟩
      rw [HL0.out]
      have hB2 : Below w.heap.size w w2 := hB1.trans (hb.mono hB1.size)
      have m1 : w2.heap[w.heap.size + 1]? = _ := (hb.block _ z1).trans n1
      have d2 : w2.cell? ⟨w.heap.size + 1, 0, none⟩ = some (.int .i64 hE) := by simp [World.cell?, m1]
      clear c0 c1 c2 c3 hb n0 n1 z1 m1
      go_wp2
      go_ret
      exact ⟨by rw [HE.out]; rfl, hB2⟩

end Go.Proofs.Ytmpmjkbjnklgfaa

/- The law that tells all hits (layer 6), walked. -/


namespace Go.Proofs.Ytmpmjkbjnklgfaa
open Go.RowKit Go.Sort
set_option linter.unusedVariables false
set_option linter.unusedSimpArgs false

/-- Blocks that lie one behind the other. -/
def Bx (n : Nat) (os : List Obj) (W : World) : Prop := ∀ (i : Nat) (o : Obj), os[i]? = some o → W.heap[n + i]? = some o
theorem Bx.below {n : Nat} {os : List Obj} {W W' : World} (h : Bx n os W) (hb : Below W.heap.size W W') : Bx n os W' := fun i o hi =>
  have := h i o hi
  (hb.block _ (Array.getElem?_eq_some_iff.1 this).1).trans this
theorem Bx.nil (n : Nat) (W : World) : Bx n [] W := fun i o hi => by simp at hi
theorem Bx.snoc {n : Nat} {os : List Obj} {W : World} (h : Bx n os W) (o : Obj) (hm : W.heap.size = n + os.length) : Bx n (os ++ [o]) (W.alloc o) := fun i x hi => by
  by_cases hl : i < os.length
  · rw [List.getElem?_append_left hl] at hi
    exact (Below.heap_alloc _ _ _ (by omega)).trans (h i x hi)
  · rw [List.getElem?_append_right (by omega)] at hi
    have : i - os.length = 0 := by
      by_cases e : i - os.length = 0
      · exact e
      · rw [List.getElem?_eq_none (by simp; omega)] at hi; cases hi
    rw [this] at hi
    simp at hi
    subst hi
    exact alloc_at (by omega) _
theorem Bx.cell {n i j : Nat} {os : List Obj} {W : World} (h : Bx n os W) {cs : Array Value} {t : TypeId} {fr : Nat × Nat} (hi : os[i]? = some (.cells cs t fr)) {v : Value} (hj : cs[j]? = some v) : W.cell? ⟨n + i, j, none⟩ = some v := by
  have := h i _ hi
  simp [World.cell?, this, hj]
theorem Bx.cellG {n i j : Nat} {os : List Obj} {W : World} (h : Bx n os W) {cs : Array Value} {t : TypeId} {fr : Nat × Nat} (hi : os[i]? = some (.cells cs t fr)) {v : Value} (hj : cs[j]? = some v) : ∀ d os', (grow (redrawn W d) os').cell? ⟨n + i, j, none⟩ = some v :=
  fun d os' => (h.below (below_regrown W d os')).cell hi hj

def occL (fold : Bool) (wss : List (List Int)) (frm : Int) (text : List Int) : List HitP := if mayP fold wss frm then occD fold wss frm text else []
def occE (fold : Bool) (wss : List (List Int)) (frm : Int) : Int := if mayP fold wss frm then 0 else 2
theorem occD_bd {fold : Bool} {wss : List (List Int)} {frm : Int} {text : List Int} (h0 : 0 ≤ frm) (h1 : frm ≤ 4611686018427387904) (hl : text.length ≤ 1000000) (hw : wss.length ≤ 1000000) : ∀ h ∈ occD fold wss frm text, I64 h.1 ∧ I64 h.2 := by
  intro h hm
  obtain ⟨_, h2, h3, h4, h5⟩ := occD_mem hm
  unfold I64
  omega
theorem occL_bd {fold : Bool} {wss : List (List Int)} {frm : Int} {text : List Int} (hl : text.length ≤ 1000000) (hw : wss.length ≤ 1000000) : ∀ h ∈ occL fold wss frm text, I64 h.1 ∧ I64 h.2 := by
  unfold occL
  cases e : mayP fold wss frm with
  | false => simp
  | true =>
    obtain ⟨h0, h1⟩ := mayP_frm e
    simp only [if_true]
    exact occD_bd h0 h1 hl hw
theorem occL_le (fold : Bool) (wss : List (List Int)) (frm : Int) (text : List Int) : (occL fold wss frm text).length ≤ (text.length + 1) * wss.length := by
  unfold occL
  split
  · exact occTo_le _ _ _ _ _
  · simp

theorem occ_c (fold : Bool) (a b : Option Addr) (la ca lb cb : Nat) (frm : Int) (text : List Int) (wss : List (List Int)) (w : World) (hA : Wds w a la wss) (hL : Bys w b lb text) (hla : la ≤ 1000) (hlb : lb ≤ 1000000) (hcb : lb ≤ cb) (hM : ∀ x ∈ wss, x.length ≤ 1000000) (hT : (begL fold wss).length ≤ 1000000) :
    Calls Try.prog 28 #[.agg (setV fold a la ca), .int .i64 frm, .slice b lb cb] w fun e w' => ∃ (a1 : Option Addr) (c1 : Nat), e = .returned (.tuple #[.slice a1 (occL fold wss frm text).length c1, .int .i64 (occE fold wss frm)]) ∧ (occL fold wss frm text).length ≤ c1 ∧ Hts w' a1 (occL fold wss frm text).length (occL fold wss frm text) ∧ Below w.heap.size w w' := by
  have hbd := occL_bd (fold := fold) (wss := wss) (frm := frm) (text := text) (by rw [hL.len]; exact hlb) (by rw [hA.len]; omega)
  cases e : mayP fold wss frm with
  | false =>
    refine (occ_no fold a b la ca lb cb frm text wss w hA (by omega) hM hT e).mono fun e' w' ⟨h1, h2⟩ => ?_
    have e1 : occL fold wss frm text = [] := by simp [occL, e]
    have e2 : occE fold wss frm = 2 := by simp [occE, e]
    rw [e1, e2]
    exact ⟨none, 0, h1, Nat.le_refl _, ⟨⟨rfl, .inl rfl⟩, by simp⟩, h2⟩
  | true =>
    have hn : (rawTo fold wss text (lb + 1)).length ≤ 1000000000000 := by
      have h1 := rawTo_length fold wss text (lb + 1)
      have h2 : (lb + 1) * wss.length ≤ 1000001 * 1000 := Nat.mul_le_mul (by omega) (by rw [hA.len]; exact hla)
      omega
    refine (occ_yes fold a b la ca lb cb frm text wss w hA hL hla hlb hcb hM hT e (sortOK _ hn)).mono fun e' w' ⟨v, h1, h2, h3⟩ => ?_
    have e1 : occL fold wss frm text = occD fold wss frm text := by simp [occL, e]
    have e2 : occE fold wss frm = 0 := by simp [occE, e]
    rw [e1] at hbd ⊢
    rw [e2]
    obtain ⟨a1, c1, rfl, h4, h5⟩ := h2.hts hbd
    exact ⟨a1, c1, h1, h4, h5, h3⟩
theorem rocc_c (fold : Bool) (a b : Option Addr) (la ca lb cb : Nat) (frm : Int) (text : List Int) (wss : List (List Int)) (w : World) (hA : Wds w a la wss) (hL : Bys w b lb text) (hla : la ≤ 1000) (hlb : lb ≤ 1000000) (hcb : lb ≤ cb) (hM : ∀ x ∈ wss, x.length ≤ 1000000) :
    Calls Try.prog 29 #[.agg (setV fold a la ca), .int .i64 frm, .slice b lb cb] w fun e w' => ∃ (a1 : Option Addr) (c1 : Nat), e = .returned (.tuple #[.slice a1 (occL fold wss frm text).length c1, .int .i64 (occE fold wss frm)]) ∧ (occL fold wss frm text).length ≤ c1 ∧ Hts w' a1 (occL fold wss frm text).length (occL fold wss frm text) ∧ Below w.heap.size w w' := by
  have hbd := occL_bd (fold := fold) (wss := wss) (frm := frm) (text := text) (by rw [hL.len]; exact hlb) (by rw [hA.len]; omega)
  cases e : mayP fold wss frm with
  | false =>
    refine (rocc_no fold a b la ca lb cb frm wss w hA (by omega) hM e).mono fun e' w' ⟨h1, h2⟩ => ?_
    have e1 : occL fold wss frm text = [] := by simp [occL, e]
    have e2 : occE fold wss frm = 2 := by simp [occE, e]
    rw [e1, e2]
    exact ⟨none, 0, h1, Nat.le_refl _, ⟨⟨rfl, .inl rfl⟩, by simp⟩, h2⟩
  | true =>
    refine (rocc_yes fold a b la ca lb cb frm text wss w hA hL hla hlb hcb hM e).mono fun e' w' ⟨v, h1, h2, h3⟩ => ?_
    have e1 : occL fold wss frm text = occD fold wss frm text := by simp [occL, e]
    have e2 : occE fold wss frm = 0 := by simp [occE, e]
    rw [e1] at hbd ⊢
    rw [e2]
    obtain ⟨a1, c1, rfl, h4, h5⟩ := h2.hts hbd
    exact ⟨a1, c1, h1, h4, h5, h3⟩

theorem ownH_made (w : World) (base : Nat) (h : base ≤ w.heap.size) : OwnH (w.alloc (.cells #[] 43)) base (.slice (some ⟨w.heap.size, 0, none⟩) 0 0) [] :=
  ⟨rfl, .inr ⟨w.heap.size, 0, #[], rfl, h, World.alloc_heap_new _ _, Nat.le_refl _, by unfold maxLen; omega, rfl, rfl⟩⟩

end Go.Proofs.Ytmpmjkbjnklgfaa

/- The law that tells all hits (layer 6), walked. -/

namespace Go.Proofs.Ytmpmjkbjnklgfaa
open Go.RowKit Go.Sort
set_option linter.unusedVariables false
set_option linter.unusedSimpArgs false

theorem betwH_bd {low high : Int} {l : List HitP} (h : ∀ x ∈ l, I64 x.1 ∧ I64 x.2) : ∀ x ∈ betwH low high l, I64 x.1 ∧ I64 x.2 := fun x hx => h x (List.mem_filter.1 hx).1
/-- What lies there behind the lists that are made. -/
structure TS (w : World) (a2 a3 : Option Addr) (L A : List HitP) (V : World) : Prop where
  b : Below w.heap.size w V
  h2 : Hts V a2 L.length L
  h3 : Hts V a3 A.length A
theorem TS.below {w V V' : World} {a2 a3 : Option Addr} {L A : List HitP} (h : TS w a2 a3 L A V) (hb : Below V.heap.size V V') : TS w a2 a3 L A V' := ⟨h.b.trans (hb.mono h.b.size), h.h2.below hb, h.h3.below hb⟩

set_option maxRecDepth 100000 in
set_option maxHeartbeats 8000000 in
theorem occTells_walk (fold : Bool) (a b c : Option Addr) (la ca lb cb lc cc : Nat) (frm low high : Int) (text : List Int) (l : List HitP) (x y : HitP) (wss : List (List Int)) (w : World) (hA : Wds w a la wss) (hT : Bys w b lb text) (hL : Hts w c lc l) (hcb : lb ≤ cb) (hcc : lc ≤ cc) (hx : I64 x.1 ∧ I64 x.2) (hy : I64 y.1 ∧ I64 y.2) :
    Calls Try.prog 5 #[.agg (setV fold a la ca), .int .i64 frm, .slice b lb cb, .slice c lc cc, hitV x, hitV y, .int .i64 low, .int .i64 high] w fun e w' => e = .returned (.bool true) ∧ Below w.heap.size w w' := by
  obtain ⟨i0, hi, hz0, hz1, hz2⟩ := info_parts hit_info
  obtain ⟨W3, hW3⟩ : ∃ W3, W3 = ((w.alloc (.cells (setV fold a la ca) 39)).alloc (.cells #[.int .i64 x.1, .int .i64 x.2] 43)).alloc (.cells #[.int .i64 y.1, .int .i64 y.2] 43) := ⟨_, rfl⟩
  have hB3 : Below w.heap.size w W3 := by
    rw [hW3]
    exact (((Below.refl _ _).alloc (Nat.le_refl _) _).alloc (by simp) _).alloc (by simp; omega) _
  have hO3 : Bx w.heap.size [.cells (setV fold a la ca) 39, .cells #[.int .i64 x.1, .int .i64 x.2] 43, .cells #[.int .i64 y.1, .int .i64 y.2] 43] W3 := by
    rw [hW3]
    exact (((Bx.nil _ w).snoc _ rfl).snoc _ (by simp)).snoc _ (by simp)
  have HGC := Lib.hid (great5_any fold a la ca wss W3 (hA.below hB3))
  have c0 : W3.cell? ⟨w.heap.size, 0, none⟩ = some (.bool fold) := hO3.cell (i := 0) rfl rfl
  have c1 : W3.cell? ⟨w.heap.size, 1, none⟩ = some (.slice a la ca) := hO3.cell (i := 0) rfl rfl
  cases hg : greatP wss with
  | true =>
    have HG := Lib.hid hg
    clear hg
    go_enter Try.func5, Try.ntmps5
    go_wp2_with fail
    rw [← hW3]
    refine HGC.out.mono ?_
    rintro e w5 ⟨rfl, hb5⟩
    rw [HG.out]
    have hB5 : RowKit.Below w.heap.size w w5 := hB3.trans (hb5.mono hB3.size)
    clear c0 c1
    go_wp2_with fail
    refine (wakes6 w5).mono ?_
    rintro e w6 ⟨rfl, hb6⟩
    go_wp2
    go_ret
    exact ⟨rfl, hB5.trans (hb6.mono hB5.size)⟩
  | false =>
    obtain ⟨g1, g2, g3⟩ := great_bd hg fold
    have HG := Lib.hid hg
    clear hg
    by_cases hsz : lb ≤ 300 ∧ lc ≤ 60
    · obtain ⟨h300, h60⟩ := hsz
      have hla : la ≤ 1000 := by rw [← hA.len]; omega
      have hM : ∀ x ∈ wss, x.length ≤ 1000000 := fun z hz => by have := g2 z hz; omega
      have hBL : (begL fold wss).length ≤ 1000000 := by omega
      obtain ⟨L, hLd⟩ : ∃ L, occL fold wss frm text = L := ⟨_, rfl⟩
      obtain ⟨E, hE⟩ : ∃ E, occE fold wss frm = E := ⟨_, rfl⟩
      have hLb := occL_bd (fold := fold) (wss := wss) (frm := frm) (text := text) (by rw [hT.len]; omega) (by omega)
      have hLl : L.length ≤ 301 * 80 := by
        have h1 := occL_le fold wss frm text
        rw [hLd, hT.len] at h1
        have h2 : (lb + 1) * wss.length ≤ 301 * 80 := Nat.mul_le_mul (by omega) (by omega)
        omega
      have k1 := fun (W : World) (hB : Below w.heap.size w W) => occ_c fold a b la ca lb cb frm text wss W (hA.below hB) (hT.below hB) hla (by omega) hcb hM hBL
      have k2 := fun (W : World) (hB : Below w.heap.size w W) => rocc_c fold a b la ca lb cb frm text wss W (hA.below hB) (hT.below hB) hla (by omega) hcb hM
      rw [hLd] at k1 k2 hLb
      rw [hE] at k1 k2
      have K1 := Lib.hid k1
      have K2 := Lib.hid k2
      have HLB := Lib.hid hLb
      have HM := Lib.hid hM
      have HLN := Lib.hid hL.len
      clear hLd hE k1 k2 hLb hM g2
      go_enter Try.func5, Try.ntmps5
      go_wp2_with fail
      rw [← hW3]
      refine HGC.out.mono ?_
      rintro e w4 ⟨rfl, hb4⟩
      rw [HG.out]
      have hB4 : RowKit.Below w.heap.size w w4 := hB3.trans (hb4.mono hB3.size)
      have hO4 := hO3.below hb4
      clear c0 c1 hb4 hO3 hB3 hW3 HGC
      have c0 : w4.cell? ⟨w.heap.size, 0, none⟩ = some (.bool fold) := hO4.cell (i := 0) rfl rfl
      have c1 : w4.cell? ⟨w.heap.size, 1, none⟩ = some (.slice a la ca) := hO4.cell (i := 0) rfl rfl
      go_wp2_with fail
      refine (K1.out _ hB4).mono ?_
      rintro e w5 ⟨a1, c1', rfl, hc1, hX1, hb5⟩
      have hB5 : RowKit.Below w.heap.size w w5 := hB4.trans (hb5.mono hB4.size)
      have hO5 := hO4.below hb5
      clear c0 c1 hb5 hO4 hB4
      have c0 : w5.cell? ⟨w.heap.size, 0, none⟩ = some (.bool fold) := hO5.cell (i := 0) rfl rfl
      have c1 : w5.cell? ⟨w.heap.size, 1, none⟩ = some (.slice a la ca) := hO5.cell (i := 0) rfl rfl
      go_wp2_with fail
      refine (K2.out _ hB5).mono ?_
      rintro e w6 ⟨a2, c2', rfl, hc2, hX2, hb6⟩
      have hB6 : RowKit.Below w.heap.size w w6 := hB5.trans (hb6.mono hB5.size)
      have hO6 := hO5.below hb6
      have hX1 := hX1.below hb6
      clear c0 c1 hb6 hO5 hB5
      have f0 : ∀ d os, (grow (redrawn w6 d) os).cell? ⟨w.heap.size, 0, none⟩ = some (.bool fold) := hO6.cellG (i := 0) rfl rfl
      have f1 : ∀ d os, (grow (redrawn w6 d) os).cell? ⟨w.heap.size, 1, none⟩ = some (.slice a la ca) := hO6.cellG (i := 0) rfl rfl
      have f2 : ∀ d os, (grow (redrawn w6 d) os).cell? ⟨w.heap.size + 1, 0, none⟩ = some (.int .i64 x.1) := hO6.cellG (i := 1) rfl rfl
      have f3 : ∀ d os, (grow (redrawn w6 d) os).cell? ⟨w.heap.size + 1, 1, none⟩ = some (.int .i64 x.2) := hO6.cellG (i := 1) rfl rfl
      have f4 : ∀ d os, (grow (redrawn w6 d) os).cell? ⟨w.heap.size + 1 + 1, 0, none⟩ = some (.int .i64 y.1) := hO6.cellG (i := 2) rfl rfl
      have f5 : ∀ d os, (grow (redrawn w6 d) os).cell? ⟨w.heap.size + 1 + 1, 1, none⟩ = some (.int .i64 y.2) := hO6.cellG (i := 2) rfl rfl
      have kb : ∀ d os, RowKit.Below w.heap.size w (grow (redrawn w6 d) os) := fun d os => hB6.trans ((below_regrown w6 d os).mono hB6.size)
      obtain ⟨B1, hB1⟩ : ∃ B, (mayP fold wss frm && standsH fold wss frm text x) = B := ⟨_, rfl⟩
      obtain ⟨B2, hB2⟩ : ∃ B, lessH wss x y = B := ⟨_, rfl⟩
      obtain ⟨B3, hB3⟩ : ∃ B, riseH wss l = B := ⟨_, rfl⟩
      have s30 := fun d os => rsame6_any a1 a2 L.length c1' L.length c2' L L (grow (redrawn w6 d) os) (hX1.below (below_regrown w6 d os)) (hX2.below (below_regrown w6 d os)) (by omega)
      have s31 := fun d os => stands_any fold a b la ca lb cb frm text x wss (grow (redrawn w6 d) os) (hA.below (kb d os)) (hT.below (kb d os)) (by omega) (by omega) hcb HM.out hBL hx
      have s32 := fun d os => rstands6_any fold a b la ca lb cb frm text x wss (grow (redrawn w6 d) os) (hA.below (kb d os)) (hT.below (kb d os)) (by omega) (by omega) hcb HM.out hx
      have s33 := fun d os => less_any fold a la ca x y wss (grow (redrawn w6 d) os) (hA.below (kb d os)) (by omega)
      have s34 := fun d os => rless6_any fold a la ca x y wss (grow (redrawn w6 d) os) (hA.below (kb d os)) (by omega)
      have s35 := fun d os => orise_any fold a c la ca lc cc l wss (grow (redrawn w6 d) os) (hA.below (kb d os)) (hL.below (kb d os)) (by omega) (by omega)
      have s36 := fun d os => rrise6_any fold a c la ca lc cc l wss (grow (redrawn w6 d) os) (hA.below (kb d os)) (hL.below (kb d os)) (by omega) (by omega)
      rw [decide_eq_true (rfl : L = L)] at s30
      rw [hB1] at s31 s32
      rw [hB2] at s33 s34
      rw [hB3] at s35 s36
      clear hB1 hB2 hB3 kb
      go_upto_region 5 with fail
      refine wp_region_quiet_below mixed (by kernel_rfl) ?_
      repeat (go_big_quiet_step (first | (go_at_call 30; exact grown_below (s30 _ _)) | (go_at_call 31; exact grown_below (s31 _ _)) | (go_at_call 32; exact grown_below (s32 _ _)) | (go_at_call 33; exact grown_below (s33 _ _)) | (go_at_call 34; exact grown_below (s34 _ _)) | (go_at_call 35; exact grown_below (s35 _ _)) | (go_at_call 36; exact grown_below (s36 _ _))))
      refine wpQuiet_nil ?_
      rintro _ ⟨⟨dq, osq⟩, rfl⟩
      have hBq := below_regrown w6 dq osq
      have hB7 : RowKit.Below w.heap.size w (grow (redrawn w6 dq) osq) := hB6.trans (hBq.mono hB6.size)
      have hX1 := hX1.below hBq
      have hX2 := hX2.below hBq
      clear f0 f1 f2 f3 f4 f5 s30 s31 s32 s33 s34 s35 s36 hO6 hB6 hBq
      obtain ⟨W7, hW7⟩ : ∃ W7, W7 = grow (redrawn w6 dq) osq := ⟨_, rfl⟩
      rw [← hW7] at hB7 hX1 hX2 ⊢
      clear hW7
      have hownE : (W7.alloc (.cells #[] 43)).ownsRow W7.heap.size 43 2 (.slice (some ⟨W7.heap.size, 0, none⟩) 0 0) 0 [] := ownH_made W7 W7.heap.size (Nat.le_refl _)
      have hB8 : RowKit.Below W7.heap.size W7 (W7.alloc (.cells #[] 43)) := below_alloc _ _
      have hL8 := (hL.below hB7).below hB8
      go_upto_region 8 with (first | (at_builtin; refine wpList_append_slK rfl _ _ 41 rfl W7.heap.size 43 i0 (.agg #[.int .i64 0, .int .i64 0]) 2 16 Try.underlying41 hi hz0 hz1 hz2 rfl (by decide) _ _ _ rfl hownE c lc cc (hcells l) rfl hL8.1 (hcells_one l) (by unfold maxLen; omega) (by omega) hB8.size ?_; intro v1 w8 hown1 hgrow1 hat1; have hB9 : RowKit.Below W7.heap.size W7 w8 := hB8.grown hgrow1 hB8.size (fun j hj => (hownE.lt j hj).1); have hX2'' := hX2.below hB9) | (at_builtin; refine wpList_append_slK rfl _ _ 41 rfl W7.heap.size 43 i0 (.agg #[.int .i64 0, .int .i64 0]) 2 16 Try.underlying41 hi hz0 hz1 hz2 rfl (by decide) _ _ _ rfl hown1 a2 L.length c2' (hcells L) rfl hX2''.1 (hcells_one L) (by unfold maxLen; omega) (by omega) hB9.size ?_; intro v2 w9 hown2 hgrow2 hat2))
      have hB10 : RowKit.Below W7.heap.size W7 w9 := hB9.grown hgrow2 hB9.size (fun j hj => (hown1.lt j hj).1)
      have hbb : ∀ z ∈ l ++ L, I64 z.1 ∧ I64 z.2 := fun z hz => (List.mem_append.1 hz).elim (hL.2 z) (HLB.out z)
      have hown : OwnH w9 W7.heap.size v2 (l ++ L) := by
        unfold OwnH
        rw [List.length_append, HLN.out, hcells_append]
        simpa using hown2
      obtain ⟨a3, c3, rfl, hc3, hX3⟩ := hown.hts hbb
      obtain ⟨A, hAd⟩ : ∃ A, A = l ++ L := ⟨_, rfl⟩
      have HAD := Lib.hid hAd
      rw [← hAd] at hX3 hbb hown hc3 ⊢
      have hS : TS w a2 a3 L A w9 := ⟨hB7.trans (hB10.mono hB7.size), hX2.below hB10, hX3⟩
      have hAl : A.length ≤ 60 + 301 * 80 := by rw [hAd, List.length_append, HLN.out]; omega
      have HBB := Lib.hid hbb
      clear hown hown2 hown1 hgrow1 hgrow2 hat1 hat2 hX2'' hL8 hB8 hownE hB9 hB10 hX2 hX3 hB7 hAd hbb hX1
      have hLb := hL.2
      have HLB2 := Lib.hid hLb
      clear hLb
      go_wp2_with fail
      refine (between_h low high c lc cc l _ (hL.below hS.b) (by omega)).mono ?_
      rintro e w10 ⟨v, rfl, ho, hb⟩
      obtain ⟨a4, c4, rfl, _, h4⟩ := ho.hts (betwH_bd HLB2.out)
      have hS := hS.below hb
      clear ho hb
      go_wp2_with fail
      refine (rbetween6_h low high c lc cc l _ (hL.below hS.b) (by omega)).mono ?_
      rintro e w11 ⟨v, rfl, ho, hb⟩
      obtain ⟨a5, c5, rfl, _, h5⟩ := ho.hts (betwH_bd HLB2.out)
      have hS := hS.below hb
      have h4 := h4.below hb
      clear ho hb
      have hbl : (betwH low high l).length ≤ 60 := by have := List.length_filter_le (fun h : HitP => decide (low < h.1) && decide (h.1 ≤ high)) l; have := HLN.out; unfold betwH; omega
      go_wp2_with fail
      refine (rsame6_any a4 a5 _ c4 _ c5 (betwH low high l) (betwH low high l) _ h4 h5 (by omega)).mono ?_
      rintro e w12 ⟨rfl, hb⟩
      rw [decide_eq_true (rfl : betwH low high l = betwH low high l)]
      have hS := hS.below hb
      clear hb h4 h5 hbl
      go_wp2_with fail
      refine (join_h _ 2 2 [l, L] _ (hss2 _ (hL.below hS.b) hS.h2) (by decide) (by simp; have := HLN.out; omega)).mono ?_
      rintro e w13 ⟨v, rfl, ho, hb⟩
      have e1 : [l, L].flatten = A := by rw [HAD.out]; simp
      rw [e1] at ho
      obtain ⟨a6, c6, rfl, _, h6⟩ := ho.hts HBB.out
      have hS := (hS.below (below_alloc _ _)).below hb
      clear ho hb e1
      go_wp2_with fail
      refine (rsame6_any a6 a3 _ c6 _ c3 A A _ h6 hS.h3 (by omega)).mono ?_
      rintro e w14 ⟨rfl, hb⟩
      rw [decide_eq_true (rfl : A = A)]
      have hS := hS.below hb
      clear hb h6
      go_wp2_with fail
      refine (osame_any c a2 lc cc _ c2' l L _ (hL.below hS.b) hS.h2 (by omega)).mono ?_
      rintro e w15 ⟨rfl, hb⟩
      have hS := hS.below hb
      clear hb
      obtain ⟨B4, hB4⟩ : ∃ B, decide (l = L) = B := ⟨_, rfl⟩
      rw [hB4]
      have HB4 := Lib.hid hB4
      clear hB4
      go_wp2_with fail
      refine (rsame6_any c a2 lc cc _ c2' l L _ (hL.below hS.b) hS.h2 (by omega)).mono ?_
      rintro e w16 ⟨rfl, hb⟩
      have hS := hS.below hb
      rw [HB4.out]
      clear hb
      go_wp2_with fail
      refine (join_h _ 2 2 [l, L] _ (hss2 _ (hL.below hS.b) hS.h2) (by decide) (by simp; have := HLN.out; omega)).mono ?_
      rintro e w17 ⟨v, rfl, ho, hb⟩
      have e1 : [l, L].flatten = A := by rw [HAD.out]; simp
      rw [e1] at ho
      obtain ⟨a7, c7, rfl, _, h7⟩ := ho.hts HBB.out
      have hS := (hS.below (below_alloc _ _)).below hb
      clear ho hb e1
      go_wp2_with fail
      refine (osame_any a3 a7 _ c3 _ c7 A A _ hS.h3 h7 (by omega)).mono ?_
      rintro e w18 ⟨rfl, hb⟩
      rw [decide_eq_true (rfl : A = A)]
      have hS := hS.below hb
      clear hb h7
      go_wp2_with fail
      refine (wakes6 _).mono ?_
      rintro e w19 ⟨rfl, hb⟩
      have hS := hS.below hb
      clear hb
      go_wp2
      go_ret
      exact ⟨rfl, hS.b⟩
    · by_cases h300 : lb ≤ 300
      · have h60 : 60 < lc := by omega
        clear hsz
        go_enter Try.func5, Try.ntmps5
        go_wp2_with fail
        rw [← hW3]
        refine HGC.out.mono ?_
        rintro e w5 ⟨rfl, hb5⟩
        rw [HG.out]
        have hB5 : RowKit.Below w.heap.size w w5 := hB3.trans (hb5.mono hB3.size)
        clear c0 c1
        go_wp2_with fail
        refine (wakes6 w5).mono ?_
        rintro e w6 ⟨rfl, hb6⟩
        go_wp2
        go_ret
        exact ⟨rfl, hB5.trans (hb6.mono hB5.size)⟩
      · clear hsz
        go_enter Try.func5, Try.ntmps5
        go_wp2_with fail
        rw [← hW3]
        refine HGC.out.mono ?_
        rintro e w5 ⟨rfl, hb5⟩
        rw [HG.out]
        have hB5 : RowKit.Below w.heap.size w w5 := hB3.trans (hb5.mono hB3.size)
        clear c0 c1
        go_wp2_with fail
        refine (wakes6 w5).mono ?_
        rintro e w6 ⟨rfl, hb6⟩
        go_wp2
        go_ret
        exact ⟨rfl, hB5.trans (hb6.mono hB5.size)⟩

end Go.Proofs.Ytmpmjkbjnklgfaa

/- The law that parts all hits (layer 6), walked. -/



namespace Go.Proofs.Ytmpmjkbjnklgfaa
open Go.RowKit Go.Sort
set_option linter.unusedVariables false
set_option linter.unusedSimpArgs false

theorem Bys.take {w : World} {a : Option Addr} {n : Nat} {l : List Int} (h : Bys w a n l) {m : Nat} (hm : m ≤ n) : Bys w a m (l.take m) := by
  refine ⟨⟨by rw [List.length_take, h.len]; omega, ?_⟩, fun x hx => h.2 x (List.mem_of_mem_take hx)⟩
  by_cases h0 : m = 0
  · exact .inl h0
  · right
    obtain ⟨b, off, rfl, hlt, hcell⟩ := h.1.2.resolve_left (by omega)
    refine ⟨b, off, rfl, hlt, fun i u hu => hcell i u ?_⟩
    rw [List.getElem?_take] at hu
    split at hu
    · exact hu
    · cases hu
theorem Bys.drop {w : World} {a : Option Addr} {n : Nat} {l : List Int} (h : Bys w a n l) {m : Nat} (hm : m ≤ n) : Bys w (a.map (·.add m)) (n - m) (l.drop m) := by
  have hc := h.cut (lo := m) (m := n - m) (by omega)
  rwa [List.take_of_length_le (by rw [List.length_drop, h.len]; exact Nat.le_refl _)] at hc
theorem Bys.rest {V : World} {b : Option Addr} {lb cb n : Nat} {l : List Int} (h : Bys V b lb l) (hn : n ≤ lb) (hcb : lb ≤ cb) : Bys V (if cb = n then b else Option.map (fun x => x.add n) b) (lb - n) (l.drop n) := by
  split
  · have e : l.drop n = [] := List.drop_eq_nil_of_le (by rw [h.len]; omega)
    rw [e, show lb - n = 0 by omega]
    exact Bys.nil _ _
  · exact h.drop hn
theorem occ_t (fold : Bool) (a b : Option Addr) (la ca lb cb : Nat) (frm : Int) (text : List Int) (wss : List (List Int)) (w : World) (hA : Wds w a la wss) (hL : Bys w b lb text) (hla : la ≤ 1000) (hlb : lb ≤ 1000000) (hcb : lb ≤ cb) (hM : ∀ x ∈ wss, x.length ≤ 1000000) (hT : (begL fold wss).length ≤ 1000000) (hm : mayP fold wss frm = true) :
    Calls Try.prog 28 #[.agg (setV fold a la ca), .int .i64 frm, .slice b lb cb] w fun e w' => ∃ (a1 : Option Addr) (c1 : Nat), e = .returned (.tuple #[.slice a1 (occD fold wss frm text).length c1, .int .i64 0]) ∧ (occD fold wss frm text).length ≤ c1 ∧ Hts w' a1 (occD fold wss frm text).length (occD fold wss frm text) ∧ Below w.heap.size w w' := by
  have h := occ_c fold a b la ca lb cb frm text wss w hA hL hla hlb hcb hM hT
  have e1 : occL fold wss frm text = occD fold wss frm text := by simp [occL, hm]
  have e2 : occE fold wss frm = 0 := by simp [occE, hm]
  rwa [e1, e2] at h
theorem bel_drewN (W : World) (n : Nat) : Below W.heap.size W (W.drewN n) := ⟨rfl, rfl, rfl, Nat.le_refl _, fun _ _ => rfl⟩
theorem longL_le {wss : List (List Int)} {M : Nat} : (∀ x ∈ wss, x.length ≤ M) → longL wss ≤ M := by
  refine snoc_ind (P := fun wss => (∀ x ∈ wss, x.length ≤ M) → longL wss ≤ M) (fun _ => by simp [longL]) (fun l x ih h => ?_) wss
  rw [longL_snoc]
  have h1 := ih (fun y hy => h y (by simp [hy]))
  have h2 := h x (by simp)
  omega
theorem mayP_of {fold : Bool} {wss : List (List Int)} {frm : Int} (h : rightR fold wss = true) (h0 : 0 ≤ frm) (h1 : frm ≤ 4611686018427387904) : mayP fold wss frm = true := by
  unfold mayP; rw [right_eq, h, decide_eq_true ⟨h0, h1⟩]; rfl
theorem occD_le (fold : Bool) (wss : List (List Int)) (frm : Int) (text : List Int) : (occD fold wss frm text).length ≤ (text.length + 1) * wss.length := occTo_le _ _ _ _ _
theorem occD_small {fold : Bool} {wss : List (List Int)} {frm : Int} {text : List Int} (h1 : text.length ≤ 300) (h2 : wss.length ≤ 80) : (occD fold wss frm text).length ≤ 301 * 80 := by
  have h3 := occD_le fold wss frm text
  have h4 : (text.length + 1) * wss.length ≤ 301 * 80 := Nat.mul_le_mul (by omega) h2
  omega

set_option maxRecDepth 100000 in
set_option maxHeartbeats 8000000 in
theorem occParts_walk (fold : Bool) (a b : Option Addr) (la ca lb cb : Nat) (frm at_ : Int) (text : List Int) (wss : List (List Int)) (w : World) (hA : Wds w a la wss) (hT : Bys w b lb text) (hcb : lb ≤ cb) (hcb2 : cb ≤ 9223372036854775807) (ha : -9223372036854775808 ≤ at_ ∧ at_ ≤ 9223372036854775807) :
    Calls Try.prog 7 #[.agg (setV fold a la ca), .int .i64 frm, .slice b lb cb, .int .i64 at_] w fun e w' => e = .returned (.bool true) ∧ Below w.heap.size w w' := by
  obtain ⟨W1, hW1⟩ : ∃ W1, W1 = w.alloc (.cells (setV fold a la ca) 39) := ⟨_, rfl⟩
  have hB1 : Below w.heap.size w W1 := by rw [hW1]; exact below_alloc _ _
  have hO1 : Bx w.heap.size [.cells (setV fold a la ca) 39] W1 := by rw [hW1]; exact (Bx.nil _ w).snoc _ rfl
  have HGC := Lib.hid (great5_any fold a la ca wss W1 (hA.below hB1))
  have c0 : W1.cell? ⟨w.heap.size, 0, none⟩ = some (.bool fold) := hO1.cell (i := 0) rfl rfl
  have c1 : W1.cell? ⟨w.heap.size, 1, none⟩ = some (.slice a la ca) := hO1.cell (i := 0) rfl rfl
  have HTL := Lib.hid hT.len
  cases hg : greatP wss with
  | true =>
    have HG := Lib.hid hg
    clear hg
    go_enter Try.func7, Try.ntmps7
    go_wp2_with fail
    rw [← hW1]
    refine HGC.out.mono ?_
    rintro e w2 ⟨rfl, hb⟩
    rw [HG.out]
    have hB2 : RowKit.Below w.heap.size w w2 := hB1.trans (hb.mono hB1.size)
    have hO2 := hO1.below hb
    clear c0 c1 hb
    go_wp2_with fail
    refine (wakes6 w2).mono ?_
    rintro e w9 ⟨rfl, hb9⟩
    go_wp2
    go_ret
    exact ⟨rfl, hB2.trans (hb9.mono hB2.size)⟩
  | false =>
    obtain ⟨g1, g2, g3⟩ := great_bd hg fold
    have HG := Lib.hid hg
    have hla : la ≤ 1000 := by rw [← hA.len]; omega
    have HM := Lib.hid (show ∀ x ∈ wss, x.length ≤ 1000000 from fun z hz => by have := g2 z hz; omega)
    have hBL : (begL fold wss).length ≤ 1000000 := by omega
    clear hg g2
    cases hr : rightR fold wss with
    | false =>
      have HR := Lib.hid hr
      clear hr
      go_enter Try.func7, Try.ntmps7
      go_wp2_with fail
      rw [← hW1]
      refine HGC.out.mono ?_
      rintro e w2 ⟨rfl, hb⟩
      rw [HG.out]
      have hB2 : RowKit.Below w.heap.size w w2 := hB1.trans (hb.mono hB1.size)
      have hO2 := hO1.below hb
      clear c0 c1 hb
      have c0 : w2.cell? ⟨w.heap.size, 0, none⟩ = some (.bool fold) := hO2.cell (i := 0) rfl rfl
      have c1 : w2.cell? ⟨w.heap.size, 1, none⟩ = some (.slice a la ca) := hO2.cell (i := 0) rfl rfl
      go_wp2_with fail
      refine (rright_any fold a la ca wss w2 (hA.below hB2) (by omega) HM.out).mono ?_
      rintro e w3 ⟨rfl, hb⟩
      rw [HR.out]
      have hB3 : RowKit.Below w.heap.size w w3 := hB2.trans (hb.mono hB2.size)
      have hO3 := hO2.below hb
      clear c0 c1 hb hO2
      go_wp2_with fail
      refine (wakes6 w3).mono ?_
      rintro e w9 ⟨rfl, hb9⟩
      go_wp2
      go_ret
      exact ⟨rfl, hB3.trans (hb9.mono hB3.size)⟩
    | true =>
      have HR := Lib.hid hr
      clear hr
      by_cases hf0 : 0 ≤ frm
      · by_cases hf1 : frm ≤ 4611686018427387604
        · by_cases h300 : lb ≤ 300
          · have HA := Lib.hid hA.len
            obtain ⟨n, hn, hnl⟩ : ∃ n : Nat, min (max at_ 0) (lb : Int) = n ∧ n ≤ lb := ⟨(min (max at_ 0) (lb : Int)).toNat, by omega, by omega⟩
            have HN := Lib.hid hn
            have hlg := (longL_mem wss).1
            have hlg2 : longL wss ≤ 1000000 := longL_le HM.out
            obtain ⟨q, hq⟩ : ∃ q : Nat, min (max (longL wss - 1) 0) (n : Int) = q := ⟨(min (max (longL wss - 1) 0) (n : Int)).toNat, by omega⟩
            have hqn : q ≤ n := by omega
            have hwq : q = n ∨ longL wss - 1 ≤ q ∧ q ≤ n := by omega
            have HQ := Lib.hid hq
            have HPA := Lib.hid (occ_parts fold wss frm text n q (by rw [HTL.out]; exact hnl) hwq)
            have HPB := Lib.hid (betw_first fold wss frm text n (by rw [HTL.out]; exact hnl))
            obtain ⟨L, hL⟩ : ∃ L, L = longL wss := ⟨_, rfl⟩
            rw [← hL] at hq hlg hlg2
            have HQL := Lib.hid hq
            have HLL := Lib.hid hL
            obtain ⟨d, hd⟩ : ∃ d, d = n - q := ⟨_, rfl⟩
            obtain ⟨G, hG⟩ : ∃ G, G = frm + (n : Int) - (q : Int) := ⟨_, rfl⟩
            have hG0 : 0 ≤ G := by omega
            have hG1 : G ≤ 4611686018427387904 := by omega
            have hdl : d ≤ lb := by omega
            obtain ⟨D, hD⟩ : ∃ D, occD fold wss frm text = D := ⟨_, rfl⟩
            obtain ⟨D1, hD1⟩ : ∃ D, occD fold wss frm (text.take n) = D := ⟨_, rfl⟩
            obtain ⟨D2, hD2⟩ : ∃ D, occD fold wss G (text.drop d) = D := ⟨_, rfl⟩
            have hDl : D.length ≤ 301 * 80 := by rw [← hD]; exact occD_small (by rw [HTL.out]; exact h300) g1
            have hD1l : D1.length ≤ 301 * 80 := by rw [← hD1]; exact occD_small (by rw [List.length_take, HTL.out]; omega) g1
            have hD2l : D2.length ≤ 301 * 80 := by rw [← hD2]; exact occD_small (by rw [List.length_drop, HTL.out]; omega) g1
            have HDB := Lib.hid (occD_bd (fold := fold) (wss := wss) (frm := frm) (text := text) hf0 (by omega) (by rw [HTL.out]; omega) (by omega))
            have HD1B := Lib.hid (occD_bd (fold := fold) (wss := wss) (frm := frm) (text := text.take n) hf0 (by omega) (by rw [List.length_take, HTL.out]; omega) (by omega))
            have HD2B := Lib.hid (occD_bd (fold := fold) (wss := wss) (frm := G) (text := text.drop d) hG0 hG1 (by rw [List.length_drop, HTL.out]; omega) (by omega))
            have HPA2 : Hid (D1 ++ betwH (frm + n) (frm + lb) D2 = D) := by rw [Hid, ← hD, HPA.out, HTL.out, hD1, ← hG, ← hd, hD2]
            have HPB2 : Hid (betwH (frm - 1) (frm + n) D = D1) := by rw [Hid, ← hD1, HPB.out, hD]
            have k0 := fun (W : World) (hB : Below w.heap.size w W) => occ_t fold a b la ca lb cb frm text wss W (hA.below hB) (hT.below hB) hla (by omega) hcb HM.out hBL (mayP_of HR.out hf0 (by omega))
            have k1 := fun (W : World) (hB : Below w.heap.size w W) => occ_t fold a b la ca n cb frm (text.take n) wss W (hA.below hB) ((hT.below hB).take hnl) hla (by omega) (by omega) HM.out hBL (mayP_of HR.out hf0 (by omega))
            have k2 := fun (W : World) (hB : Below w.heap.size w W) => occ_t fold a _ la ca (lb - d) (cb - d) G (text.drop d) wss W (hA.below hB) ((hT.below hB).rest hdl hcb) hla (by omega) (by omega) HM.out hBL (mayP_of HR.out hG0 hG1)
            rw [hD] at k0 HDB
            rw [hD1] at k1 HD1B
            rw [hD2] at k2 HD2B
            have K0 := Lib.hid k0
            have K1 := Lib.hid k1
            have K2 := Lib.hid k2
            have EG := Lib.hid hG
            have ED := Lib.hid hd
            clear hn hq hL hwq hD hD1 hD2 k0 k1 k2 hG hd HPA HPB
            go_enter Try.func7, Try.ntmps7
            go_wp2_with fail
            rw [← hW1]
            refine HGC.out.mono ?_
            rintro e w2 ⟨rfl, hb⟩
            rw [HG.out]
            have hB2 : RowKit.Below w.heap.size w w2 := hB1.trans (hb.mono hB1.size)
            have hO2 := hO1.below hb
            clear c0 c1 hb
            have c0 : w2.cell? ⟨w.heap.size, 0, none⟩ = some (.bool fold) := hO2.cell (i := 0) rfl rfl
            have c1 : w2.cell? ⟨w.heap.size, 1, none⟩ = some (.slice a la ca) := hO2.cell (i := 0) rfl rfl
            go_wp2_with fail
            refine (rright_any fold a la ca wss w2 (hA.below hB2) (by omega) HM.out).mono ?_
            rintro e w3 ⟨rfl, hb⟩
            rw [HR.out]
            have hB3 : RowKit.Below w.heap.size w w3 := hB2.trans (hb.mono hB2.size)
            have hO3 := hO2.below hb
            clear c0 c1 hb hO2
            have c0 : w3.cell? ⟨w.heap.size, 0, none⟩ = some (.bool fold) := hO3.cell (i := 0) rfl rfl
            have c1 : w3.cell? ⟨w.heap.size, 1, none⟩ = some (.slice a la ca) := hO3.cell (i := 0) rfl rfl
            go_upto_region 4 with fail
            rw [HN.out]
            go_wp2_with fail
            refine (longest_any fold a la ca wss w3 (hA.below hB3) (by omega)).mono ?_
            rintro e w4 ⟨rfl, hb⟩
            rw [← HLL.out]
            have hB4 : RowKit.Below w.heap.size w w4 := hB3.trans (hb.mono hB3.size)
            have hO4 := hO3.below hb
            clear c0 c1 hb hO3 hB3
            have c0 : w4.cell? ⟨w.heap.size, 0, none⟩ = some (.bool fold) := hO4.cell (i := 0) rfl rfl
            have c1 : w4.cell? ⟨w.heap.size, 1, none⟩ = some (.slice a la ca) := hO4.cell (i := 0) rfl rfl
            go_upto_region 5 with fail
            rw [HQL.out]
            go_wp2_with fail
            refine (K0.out _ hB4).mono ?_
            rintro e w5 ⟨b1, c1', rfl, hc1, hX1, hb⟩
            have hB5 : RowKit.Below w.heap.size w w5 := hB4.trans (hb.mono hB4.size)
            have hO5 := hO4.below hb
            clear c0 c1 hb hO4 hB4
            have c0 : w5.cell? ⟨w.heap.size, 0, none⟩ = some (.bool fold) := hO5.cell (i := 0) rfl rfl
            have c1 : w5.cell? ⟨w.heap.size, 1, none⟩ = some (.slice a la ca) := hO5.cell (i := 0) rfl rfl
            have hncb : (n : Int) ≤ cb := by omega
            have hncb2 : n ≤ cb := by omega
            go_upto_region 6 with fail
            have hbd5 : RowKit.Below w.heap.size w w5.drew := hB5.trans ((below_drew w5).mono hB5.size)
            have HK1 := Lib.hid (K1.out w5.drew hbd5)
            go_cut [12, 13] (fun s12 s13 wx => ∃ (b2 : Option Addr) (c2' : Nat), s12 = .slice b2 D1.length c2' ∧ s13 = .int .i64 0 ∧ D1.length ≤ c2' ∧ Hts wx b1 D.length D ∧ Hts wx b2 D1.length D1 ∧ RowKit.Below w.heap.size w wx ∧ Bx w.heap.size [.cells (setV fold a la ca) 39] wx)
            case first =>
              go_region_with (go_at_call 28; refine HK1.out.mono ?_; rintro e w6 ⟨b2, c2', rfl, hc2, hX2, hb⟩)
              all_goals
                have hX1 := (hX1.below (below_drew w5)).below hb
                have hB6 : RowKit.Below w.heap.size w w6 := hbd5.trans (hb.mono hbd5.size)
                have hO6 := (hO5.below (below_drew w5)).below hb
                clear c0 c1 hb hO5 hB5 hbd5
                go_wp2_with fail
                go_meet
                exact ⟨_, _, rfl, rfl, hc2, hX1, hX2, hB6, hO6⟩
            case rest =>
            clear hX1 c0 c1 hO5 hB5 hbd5 HK1
            obtain ⟨b2, c2', rfl, rfl, hc2, hX1, hX2, hB6, hO6⟩ := hcut
            obtain ⟨w6, rfl⟩ : ∃ w6 : World, w6 = wc := ⟨_, rfl⟩
            have c0 : w6.cell? ⟨w.heap.size, 0, none⟩ = some (.bool fold) := hO6.cell (i := 0) rfl rfl
            have c1 : w6.cell? ⟨w.heap.size, 1, none⟩ = some (.slice a la ca) := hO6.cell (i := 0) rfl rfl
            have hdcb : (d : Int) ≤ cb := by omega
            have hdlb : (d : Int) ≤ lb := by omega
            have hdcb2 : d ≤ cb := by omega
            have hbd6 : RowKit.Below w.heap.size w w6.drew := hB6.trans ((below_drew w6).mono hB6.size)
            have hk2 := K2.out w6.drew hbd6
            have e1 : IntKind.i64.wrap (frm + (n : Int)) = frm + n := IntWalk.i64_in _ (by omega)
            have e2 : IntKind.i64.wrap (frm + (n : Int) - q) = G := by rw [IntWalk.i64_in _ (by omega)]; exact EG.out.symm
            have e3 : IntKind.i64.wrap ((n : Int) - q) = d := by rw [IntWalk.i64_in _ (by omega)]; have := ED.out; omega
            go_upto_region 7 with fail
            go_cut [14, 15] (fun s14 s15 wx => ∃ (b3 : Option Addr) (c3' : Nat), s14 = .slice b3 D2.length c3' ∧ s15 = .int .i64 0 ∧ D2.length ≤ c3' ∧ Hts wx b1 D.length D ∧ Hts wx b2 D1.length D1 ∧ Hts wx b3 D2.length D2 ∧ RowKit.Below w.heap.size w wx)
            case first =>
              by_cases hcd : cb = d
              · obtain rfl : d = cb := hcd.symm
                obtain rfl : lb = _ := Nat.le_antisymm hcb hdl
                rw [if_pos rfl, Nat.sub_self] at hk2
                have HK2 := Lib.hid hk2
                clear hk2
                go_region_with (go_at_call 28; refine HK2.out.mono ?_; rintro e w7 ⟨b3, c3', rfl, hc3, hX3, hb⟩)
                all_goals
                  have hX1 := (hX1.below (below_drew w6)).below hb
                  have hX2 := (hX2.below (below_drew w6)).below hb
                  have hB7 : RowKit.Below w.heap.size w w7 := hbd6.trans (hb.mono hbd6.size)
                  clear c0 c1 hb hO6 hB6 hbd6 e1 e2 e3
                  go_wp2_with fail
                  go_meet
                  exact ⟨_, _, rfl, rfl, hc3, hX1, hX2, hX3, hB7⟩
              · rw [if_neg hcd] at hk2
                have HK2 := Lib.hid hk2
                clear hk2
                go_region_with (go_at_call 28; refine HK2.out.mono ?_; rintro e w7 ⟨b3, c3', rfl, hc3, hX3, hb⟩)
                all_goals
                  have hX1 := (hX1.below (below_drew w6)).below hb
                  have hX2 := (hX2.below (below_drew w6)).below hb
                  have hB7 : RowKit.Below w.heap.size w w7 := hbd6.trans (hb.mono hbd6.size)
                  clear c0 c1 hb hO6 hB6 hbd6 e1 e2 e3
                  go_wp2_with fail
                  go_meet
                  exact ⟨_, _, rfl, rfl, hc3, hX1, hX2, hX3, hB7⟩
            case rest =>
            clear hX1 hX2 c0 c1 hO6 hB6 hbd6 hk2 e1 e2 e3
            obtain ⟨b3, c3', rfl, rfl, hc3, hX1, hX2, hX3, hB7⟩ := hcut
            go_upto_region 8 with fail
            go_wp2_with fail
            refine (between_h (frm + n) (frm + lb) b3 D2.length c3' D2 _ hX3 (by omega)).mono ?_
            rintro e w8 ⟨v, rfl, ho, hb⟩
            obtain ⟨b4, c4', rfl, _, hX4⟩ := ho.hts (betwH_bd HD2B.out)
            have hB8 : RowKit.Below w.heap.size w w8 := hB7.trans (hb.mono hB7.size)
            have hX1 := hX1.below hb
            have hX2 := hX2.below hb
            clear hb ho hX3 hB7
            have hbl : (betwH (frm + n) (frm + lb) D2).length ≤ 301 * 80 := by have := List.length_filter_le (fun h : HitP => decide (frm + n < h.1) && decide (h.1 ≤ frm + lb)) D2; unfold betwH; omega
            go_wp2_with fail
            refine (join_h _ 2 2 [D1, betwH (frm + n) (frm + lb) D2] _ (hss2 _ hX2 hX4) (by decide) (by simp; omega)).mono ?_
            rintro e w9 ⟨v, rfl, ho, hb⟩
            have e1 : [D1, betwH (frm + n) (frm + lb) D2].flatten = D := by rw [← HPA2.out]; simp
            rw [e1] at ho
            obtain ⟨b5, c5', rfl, _, hX5⟩ := ho.hts HDB.out
            have hB9 : RowKit.Below w.heap.size w w9 := (hB8.alloc hB8.size _).trans (hb.mono (hB8.alloc hB8.size _).size)
            have hX1 := (hX1.below (below_alloc _ _)).below hb
            have hX2 := (hX2.below (below_alloc _ _)).below hb
            clear hb ho hX4 hB8 e1
            go_wp2_with fail
            refine (rsame6_any b1 b5 _ c1' _ c5' D D _ hX1 hX5 (by omega)).mono ?_
            rintro e w10 ⟨rfl, hb⟩
            rw [decide_eq_true (rfl : D = D)]
            have hB10 : RowKit.Below w.heap.size w w10 := hB9.trans (hb.mono hB9.size)
            have hX1 := hX1.below hb
            have hX2 := hX2.below hb
            clear hb hX5 hB9
            go_wp2_with fail
            refine (between_h (frm - 1) (frm + n) b1 D.length c1' D _ hX1 (by omega)).mono ?_
            rintro e w11 ⟨v, rfl, ho, hb⟩
            rw [HPB2.out] at ho
            obtain ⟨b6, c6', rfl, _, hX6⟩ := ho.hts HD1B.out
            have hB11 : RowKit.Below w.heap.size w w11 := hB10.trans (hb.mono hB10.size)
            have hX2 := hX2.below hb
            clear hb ho hX1 hB10
            go_wp2_with fail
            refine (rsame6_any b2 b6 _ c2' _ c6' D1 D1 _ hX2 hX6 (by omega)).mono ?_
            rintro e w12 ⟨rfl, hb⟩
            rw [decide_eq_true (rfl : D1 = D1)]
            have hB12 : RowKit.Below w.heap.size w w12 := hB11.trans (hb.mono hB11.size)
            clear hb hX2 hX6 hB11
            go_wp2_with fail
            refine (wakes6 _).mono ?_
            rintro e w13 ⟨rfl, hb⟩
            go_wp2
            go_ret
            exact ⟨rfl, hB12.trans (hb.mono hB12.size)⟩
          · have h300' : ¬ lb ≤ 300 := h300
            go_enter Try.func7, Try.ntmps7
            go_wp2_with fail
            rw [← hW1]
            refine HGC.out.mono ?_
            rintro e w2 ⟨rfl, hb⟩
            rw [HG.out]
            have hB2 : RowKit.Below w.heap.size w w2 := hB1.trans (hb.mono hB1.size)
            have hO2 := hO1.below hb
            clear c0 c1 hb
            have c0 : w2.cell? ⟨w.heap.size, 0, none⟩ = some (.bool fold) := hO2.cell (i := 0) rfl rfl
            have c1 : w2.cell? ⟨w.heap.size, 1, none⟩ = some (.slice a la ca) := hO2.cell (i := 0) rfl rfl
            go_wp2_with fail
            refine (rright_any fold a la ca wss w2 (hA.below hB2) (by omega) HM.out).mono ?_
            rintro e w3 ⟨rfl, hb⟩
            rw [HR.out]
            have hB3 : RowKit.Below w.heap.size w w3 := hB2.trans (hb.mono hB2.size)
            have hO3 := hO2.below hb
            clear c0 c1 hb hO2
            go_wp2_with fail
            refine (wakes6 w3).mono ?_
            rintro e w9 ⟨rfl, hb9⟩
            go_wp2
            go_ret
            exact ⟨rfl, hB3.trans (hb9.mono hB3.size)⟩
        · have hf1' : 4611686018427387604 < frm := by omega
          go_enter Try.func7, Try.ntmps7
          go_wp2_with fail
          rw [← hW1]
          refine HGC.out.mono ?_
          rintro e w2 ⟨rfl, hb⟩
          rw [HG.out]
          have hB2 : RowKit.Below w.heap.size w w2 := hB1.trans (hb.mono hB1.size)
          have hO2 := hO1.below hb
          clear c0 c1 hb
          have c0 : w2.cell? ⟨w.heap.size, 0, none⟩ = some (.bool fold) := hO2.cell (i := 0) rfl rfl
          have c1 : w2.cell? ⟨w.heap.size, 1, none⟩ = some (.slice a la ca) := hO2.cell (i := 0) rfl rfl
          go_wp2_with fail
          refine (rright_any fold a la ca wss w2 (hA.below hB2) (by omega) HM.out).mono ?_
          rintro e w3 ⟨rfl, hb⟩
          rw [HR.out]
          have hB3 : RowKit.Below w.heap.size w w3 := hB2.trans (hb.mono hB2.size)
          have hO3 := hO2.below hb
          clear c0 c1 hb hO2
          go_wp2_with fail
          refine (wakes6 w3).mono ?_
          rintro e w9 ⟨rfl, hb9⟩
          go_wp2
          go_ret
          exact ⟨rfl, hB3.trans (hb9.mono hB3.size)⟩
      · have hf0' : frm < 0 := by omega
        go_enter Try.func7, Try.ntmps7
        go_wp2_with fail
        rw [← hW1]
        refine HGC.out.mono ?_
        rintro e w2 ⟨rfl, hb⟩
        rw [HG.out]
        have hB2 : RowKit.Below w.heap.size w w2 := hB1.trans (hb.mono hB1.size)
        have hO2 := hO1.below hb
        clear c0 c1 hb
        have c0 : w2.cell? ⟨w.heap.size, 0, none⟩ = some (.bool fold) := hO2.cell (i := 0) rfl rfl
        have c1 : w2.cell? ⟨w.heap.size, 1, none⟩ = some (.slice a la ca) := hO2.cell (i := 0) rfl rfl
        go_wp2_with fail
        refine (rright_any fold a la ca wss w2 (hA.below hB2) (by omega) HM.out).mono ?_
        rintro e w3 ⟨rfl, hb⟩
        rw [HR.out]
        have hB3 : RowKit.Below w.heap.size w w3 := hB2.trans (hb.mono hB2.size)
        have hO3 := hO2.below hb
        clear c0 c1 hb hO2
        go_wp2_with fail
        refine (wakes6 w3).mono ?_
        rintro e w9 ⟨rfl, hb9⟩
        go_wp2
        go_ret
        exact ⟨rfl, hB3.trans (hb9.mono hB3.size)⟩

end Go.Proofs.Ytmpmjkbjnklgfaa

/- The beginnings of words, sorted (layer 7): walked. -/



namespace Go.Proofs.Ytmpmjkbjnklgfaa
open Go.RowKit Go.Sort
set_option linter.unusedVariables false
set_option linter.unusedSimpArgs false

/-! ### plain -/
def accB (l : List Byt) (b : Byt) : List Byt := if b ∈ l then l else l ++ [b]
def begWd (l : List Byt) (x : Byt) (k : Nat) : List Byt := (List.range k).foldl (fun l j => accB l (x.take (j + 1))) l
def begAll (ws : List Byt) : List Byt := ws.foldl (fun l x => begWd l x x.length) [[]]
theorem begWd_succ (l : List Byt) (x : Byt) (k : Nat) : begWd l x (k + 1) = accB (begWd l x k) (x.take (k + 1)) := by simp [begWd, List.range_succ, List.foldl_append]
theorem begAll_snoc (ws : List Byt) (x : Byt) : begAll (ws ++ [x]) = begWd (begAll ws) x x.length := by simp [begAll, List.foldl_append]
theorem mem_accB {l : List Byt} {b x : Byt} : x ∈ accB l b ↔ x ∈ l ∨ x = b := by
  unfold accB
  split
  · constructor
    · exact .inl
    · rintro (h | rfl) <;> assumption
  · simp
theorem accB_nodup {l : List Byt} {b : Byt} (h : l.Nodup) : (accB l b).Nodup := by
  unfold accB
  split
  · exact h
  · rename_i hb
    rw [List.nodup_append]
    refine ⟨h, by simp, fun a ha c hc e => ?_⟩
    simp at hc
    subst hc
    subst e
    exact hb ha
theorem accB_len (l : List Byt) (b : Byt) : l.length ≤ (accB l b).length ∧ (accB l b).length ≤ l.length + 1 := by
  unfold accB
  split <;> simp
theorem begWd_len (l : List Byt) (x : Byt) : ∀ k, l.length ≤ (begWd l x k).length ∧ (begWd l x k).length ≤ l.length + k
  | 0 => by simp [begWd]
  | k + 1 => by
    have h1 := begWd_len l x k
    have h2 := accB_len (begWd l x k) (x.take (k + 1))
    rw [begWd_succ]; omega
theorem begWd_spec {l : List Byt} (x : Byt) (h : l.Nodup) : ∀ k, (begWd l x k).Nodup ∧ ∀ y, y ∈ begWd l x k ↔ y ∈ l ∨ ∃ j, 1 ≤ j ∧ j ≤ k ∧ y = x.take j
  | 0 => by
    refine ⟨by simpa [begWd] using h, fun y => ?_⟩
    constructor
    · intro hy; exact .inl (by simpa [begWd] using hy)
    · rintro (hy | ⟨j, h1, h2, _⟩)
      · simpa [begWd] using hy
      · omega
  | k + 1 => by
    obtain ⟨h1, h2⟩ := begWd_spec x h k
    rw [begWd_succ]
    refine ⟨accB_nodup h1, fun y => ?_⟩
    rw [mem_accB, h2]
    constructor
    · rintro ((hy | ⟨j, a1, a2, a3⟩) | hy)
      · exact .inl hy
      · exact .inr ⟨j, a1, by omega, a3⟩
      · exact .inr ⟨k + 1, by omega, by omega, hy⟩
    · rintro (hy | ⟨j, a1, a2, a3⟩)
      · exact .inl (.inl hy)
      · by_cases e : j = k + 1
        · subst e; exact .inr a3
        · exact .inl (.inr ⟨j, a1, by omega, a3⟩)
theorem begAll_spec (ws : List Byt) : (begAll ws).Nodup ∧ ∀ y, y ∈ begAll ws ↔ y = [] ∨ ∃ x ∈ ws, ∃ k, 1 ≤ k ∧ k ≤ x.length ∧ y = x.take k := by
  refine snoc_ind (P := fun ws => (begAll ws).Nodup ∧ ∀ y, y ∈ begAll ws ↔ y = [] ∨ ∃ x ∈ ws, ∃ k, 1 ≤ k ∧ k ≤ x.length ∧ y = x.take k) (by simp [begAll]) (fun ws x ⟨h1, h2⟩ => ?_) ws
  rw [begAll_snoc]
  obtain ⟨g1, g2⟩ := begWd_spec x h1 x.length
  refine ⟨g1, fun y => ?_⟩
  rw [g2, h2]
  constructor
  · rintro ((h | ⟨z, hz, r⟩) | ⟨j, a1, a2, a3⟩)
    · exact .inl h
    · exact .inr ⟨z, by simp [hz], r⟩
    · exact .inr ⟨x, by simp, j, a1, a2, a3⟩
  · rintro (h | ⟨z, hz, k, a1, a2, a3⟩)
    · exact .inl (.inl h)
    · rcases List.mem_append.1 hz with hz | hz
      · exact .inl (.inr ⟨z, hz, k, a1, a2, a3⟩)
      · simp at hz; subst hz; exact .inr ⟨k, a1, a2, a3⟩
def byteSum (ws : List Byt) : Nat := (ws.map List.length).sum
theorem begAll_len (ws : List Byt) : (begAll ws).length ≤ 1 + byteSum ws := by
  refine snoc_ind (P := fun ws => (begAll ws).length ≤ 1 + byteSum ws) (by simp [begAll, byteSum]) (fun ws x h => ?_) ws
  rw [begAll_snoc]
  have := (begWd_len (begAll ws) x x.length).2
  have e : byteSum (ws ++ [x]) = byteSum ws + x.length := by simp [byteSum]
  omega
theorem toI_take (x : Byt) (k : Nat) : toI (x.take k) = (toI x).take k := by simp [toI, List.map_take]
/-- Sorted, they are the nodes. -/
theorem sorted_nodes {wss : List (List Int)} (hb : ∀ w ∈ wss, ∀ x ∈ w, 0 ≤ x ∧ x ≤ 255) {l : List Byt} (h1 : l.Perm (begAll (wss.map ofI))) (h2 : SrtS (l.map toI)) : l.map toI = nodesL wss := by
  refine nodesL_unique h2 fun x => ?_
  rw [List.mem_map]
  constructor
  · rintro ⟨y, hy, rfl⟩
    rw [h1.mem_iff, (begAll_spec _).2] at hy
    rcases hy with rfl | ⟨z, hz, k, a1, a2, rfl⟩
    · exact .inl rfl
    · obtain ⟨w, hw, rfl⟩ := List.mem_map.1 hz
      refine .inr ⟨w, hw, k, a1, by simpa [ofI] using a2, ?_⟩
      rw [toI_take, toI_ofI (hb w hw)]
  · rintro (rfl | ⟨w, hw, k, a1, a2, rfl⟩)
    · exact ⟨[], by rw [h1.mem_iff, (begAll_spec _).2]; exact .inl rfl, rfl⟩
    · refine ⟨(ofI w).take k, ?_, by rw [toI_take, toI_ofI (hb w hw)]⟩
      rw [h1.mem_iff, (begAll_spec _).2]
      exact .inr ⟨ofI w, List.mem_map.2 ⟨w, hw, rfl⟩, k, a1, by simpa [ofI] using a2, rfl⟩

end Go.Proofs.Ytmpmjkbjnklgfaa
