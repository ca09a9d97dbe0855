/- Which hits stand, those between two places, lists joined, the same (layer 6): walked. -/
import Derived.Test.YtmpmjkbjnklgfaaO4
import Derived.Laws.StructEq
namespace Go.Proofs.Ytmpmjkbjnklgfaa
open Go.RowKit Go.Sort
set_option linter.unusedVariables false

theorem standsH_no {fold : Bool} {wss : List (List Int)} {frm : Int} {text : List Int} {h : HitP} (hn : ¬ (0 ≤ h.2 ∧ h.2 < wss.length ∧ frm ≤ h.1 ∧ h.1 - frm ≤ text.length)) : standsH fold wss frm text h = false := by
  unfold standsH
  rw [decide_eq_false hn, Bool.false_and]
theorem mayP_frm {fold : Bool} {wss : List (List Int)} {frm : Int} (h : mayP fold wss frm = true) : 0 ≤ frm ∧ frm ≤ 4611686018427387904 := by
  unfold mayP at h
  rw [Bool.and_eq_true] at h
  exact of_decide_eq_true h.1

set_option maxHeartbeats 2000000 in
theorem stands_any (fold : Bool) (a b : Option Addr) (la ca lb cb : Nat) (frm : Int) (text : List Int) (h : HitP) (wss : List (List Int)) (w : World) (hA : Wds w a la wss) (hL : Bys w b lb text) (hla : la ≤ 1000000) (hlb : lb ≤ 1000000) (hcb : lb ≤ cb) (hM : ∀ x ∈ wss, x.length ≤ 1000000) (hT : (begL fold wss).length ≤ 1000000) (hh : I64 h.1 ∧ I64 h.2) :
    Calls Try.prog 31 #[.agg (setV fold a la ca), .int .i64 frm, .slice b lb cb, .agg #[.int .i64 h.1, .int .i64 h.2]] w fun e w' => e = .returned (.bool (mayP fold wss frm && standsH fold wss frm text h)) ∧ Below w.heap.size w w' := by
  obtain ⟨hE, hW⟩ := h
  obtain ⟨⟨hh1, hh2⟩, hh3, hh4⟩ := hh
  dsimp only at hh1 hh2 hh3 hh4 ⊢
  have HL := Lib.hid hA.len
  have HT := Lib.hid hL.len
  have hB2 : Below w.heap.size w ((w.alloc (.cells (setV fold a la ca) 39)).alloc (.cells #[.int .i64 hE, .int .i64 hW] 43)) := ((Below.refl _ _).alloc (Nat.le_refl _) _).alloc (by simp) _
  have n0 : ((w.alloc (.cells (setV fold a la ca) 39)).alloc (.cells #[.int .i64 hE, .int .i64 hW] 43)).heap[w.heap.size]? = some (.cells (setV fold a la ca) 39 (0, 0)) :=
    (Below.heap_alloc _ _ _ (by simp)).trans (World.alloc_heap_new _ _)
  have n1 : ((w.alloc (.cells (setV fold a la ca) 39)).alloc (.cells #[.int .i64 hE, .int .i64 hW] 43)).heap[w.heap.size + 1]? = some (.cells #[.int .i64 hE, .int .i64 hW] 43 (0, 0)) := by
    have := World.alloc_heap_new (w.alloc (.cells (setV fold a la ca) 39)) (.cells #[.int .i64 hE, .int .i64 hW] 43)
    rwa [World.size_alloc] at this
  have hcall := may_any fold a la ca frm wss _ (hA.below hB2) hla hM hT
  have hz2 : ((w.alloc (.cells (setV fold a la ca) 39)).alloc (.cells #[.int .i64 hE, .int .i64 hW] 43)).heap.size = w.heap.size + 2 := by simp
  have HC := Lib.hid hcall
  have HN0 := Lib.hid n0
  have HN1 := Lib.hid n1
  have HZ2 := Lib.hid hz2
  clear hcall n0 n1 hz2
  have after : ∀ w1 : World, Below ((w.alloc (.cells (setV fold a la ca) 39)).alloc (.cells #[.int .i64 hE, .int .i64 hW] 43)).heap.size ((w.alloc (.cells (setV fold a la ca) 39)).alloc (.cells #[.int .i64 hE, .int .i64 hW] 43)) w1 →
      Below w.heap.size w w1 ∧ w1.cell? ⟨w.heap.size, 0, none⟩ = some (.bool fold) ∧ w1.cell? ⟨w.heap.size, 1, none⟩ = some (.slice a la ca) ∧ w1.cell? ⟨w.heap.size + 1, 0, none⟩ = some (.int .i64 hE) ∧ w1.cell? ⟨w.heap.size + 1, 1, none⟩ = some (.int .i64 hW) := by
    intro w1 hb
    have e0 : w1.heap[w.heap.size]? = _ := (hb.block _ (by rw [HZ2.out]; omega)).trans HN0.out
    have e1 : w1.heap[w.heap.size + 1]? = _ := (hb.block _ (by rw [HZ2.out]; omega)).trans HN1.out
    exact ⟨hB2.trans (hb.mono (by rw [HZ2.out]; omega)), by simp [World.cell?, e0], by simp [World.cell?, e0], by simp [World.cell?, e1], by simp [World.cell?, e1]⟩
  cases hm : mayP fold wss frm with
  | false =>
    have HM := Lib.hid hm
    clear hm
    have HE : Hid ((mayP fold wss frm && standsH fold wss frm text (hE, hW)) = false) := by rw [Hid, HM.out, Bool.false_and]
    rw [Bool.false_and]
    go_enter Try.func31, Try.ntmps31
    go_wp2_with fail
    refine HC.out.mono ?_
    rintro e w1 ⟨rfl, hb⟩
    obtain ⟨hB1, c0, c1, c2, c3⟩ := after w1 hb
    rw [HM.out]
    go_wp2
    go_ret
    exact ⟨rfl, hB1⟩
  | true =>
    have HM := Lib.hid hm
    obtain ⟨hf0, hf1⟩ := mayP_frm hm
    clear hm
    rw [Bool.true_and]
    by_cases g1 : 0 ≤ hW
    · by_cases g2 : hW < la
      · by_cases g3 : frm ≤ hE
        · by_cases g4 : hE - frm ≤ lb
          · obtain ⟨k, rfl⟩ : ∃ k : Nat, hW = k := ⟨hW.toNat, by omega⟩
            obtain ⟨p, hp⟩ : ∃ p : Nat, hE - frm = p := ⟨(hE - frm).toNat, by omega⟩
            obtain ⟨x, hx⟩ : ∃ x, wss[k]? = some x := ⟨wss[k]'(by rw [HL.out]; omega), by simp⟩
            have HP := Lib.hid hp
            clear hp
            have HE : Hid (standsH fold wss frm text (hE, (k : Int)) = atL fold text (hE - frm) x) := by
              unfold Hid standsH
              dsimp only
              rw [decide_eq_true ⟨g1, by rw [HL.out]; exact g2, g3, by rw [HT.out]; exact g4⟩, Bool.true_and, HP.out, Int.toNat_natCast, Int.toNat_natCast, stands_is hx]
            have HX := Lib.hid hx
            clear hx
            go_enter Try.func31, Try.ntmps31
            go_wp2_with fail
            refine HC.out.mono ?_
            rintro e w1 ⟨rfl, hb⟩
            obtain ⟨hB1, c0, c1, c2, c3⟩ := after w1 hb
            rw [HM.out]
            have hs1 := hb.size
            rw [HZ2.out] at hs1
            have hn1 : w.heap.size < w1.heap.size := by omega
            have hn2 : w.heap.size + 1 < w1.heap.size := by omega
            have hB5 : Below w.heap.size w (w1.alloc (.cells (gathV fold a la ca 0 (.slice none 0 0)) 94)) := hB1.alloc hB1.size _
            go_wp2_with fail
            refine (gat_any _ fold a b la ca lb cb (hE - frm) k wss x text _ (by simp) (cell_new rfl rfl) (cell_new rfl rfl) (hA.below hB5) (hL.below hB5) hla hlb hcb (by omega) HX.out (by omega)).mono ?_
            rintro e w2 ⟨rfl, hb2⟩
            go_wp2
            go_ret
            exact ⟨by rw [HE.out]; rfl, hB5.trans (hb2.mono hB5.size)⟩
          · have HE : Hid (standsH fold wss frm text (hE, hW) = false) := standsH_no (by dsimp only; rw [HT.out]; omega)
            go_enter Try.func31, Try.ntmps31
            go_wp2_with fail
            refine HC.out.mono ?_
            rintro e w1 ⟨rfl, hb⟩
            obtain ⟨hB1, c0, c1, c2, c3⟩ := after w1 hb
            rw [HM.out]
            go_wp2
            go_ret
            exact ⟨by rw [HE.out]; rfl, hB1⟩
        · have HE : Hid (standsH fold wss frm text (hE, hW) = false) := standsH_no (by dsimp only; omega)
          go_enter Try.func31, Try.ntmps31
          go_wp2_with fail
          refine HC.out.mono ?_
          rintro e w1 ⟨rfl, hb⟩
          obtain ⟨hB1, c0, c1, c2, c3⟩ := after w1 hb
          rw [HM.out]
          go_wp2
          go_ret
          exact ⟨by rw [HE.out]; rfl, hB1⟩
      · have HE : Hid (standsH fold wss frm text (hE, hW) = false) := standsH_no (by dsimp only; rw [HL.out]; omega)
        go_enter Try.func31, Try.ntmps31
        go_wp2_with fail
        refine HC.out.mono ?_
        rintro e w1 ⟨rfl, hb⟩
        obtain ⟨hB1, c0, c1, c2, c3⟩ := after w1 hb
        rw [HM.out]
        go_wp2
        go_ret
        exact ⟨by rw [HE.out]; rfl, hB1⟩
    · have HE : Hid (standsH fold wss frm text (hE, hW) = false) := standsH_no (by dsimp only; omega)
      go_enter Try.func31, Try.ntmps31
      go_wp2_with fail
      refine HC.out.mono ?_
      rintro e w1 ⟨rfl, hb⟩
      obtain ⟨hB1, c0, c1, c2, c3⟩ := after w1 hb
      rw [HM.out]
      go_wp2
      go_ret
      exact ⟨by rw [HE.out]; rfl, hB1⟩

set_option maxRecDepth 100000 in
set_option maxHeartbeats 2000000 in
theorem between_h (low high : Int) (a : Option Addr) (la ca : Nat) (l : List HitP) (w : World) (hL : Hts w a la l) (hla : la ≤ 1000000000000) :
    Calls Try.prog 37 #[.int .i64 low, .int .i64 high, .slice a la ca] w fun e w' => ∃ v, e = .returned v ∧ OwnH w' w.heap.size v (betwH low high l) ∧ Below w.heap.size w w' := by
  obtain ⟨i0, hi, hz0, hz1, hz2⟩ := info_parts hit_info
  have HLN := Lib.hid hL.len
  go_enter Try.func37, Try.ntmps37
  go_wp2
  go_loopw [7, 12] (fun v i wr => ∃ k : Nat, k ≤ la ∧ i = .int .i64 k ∧ Below w.heap.size w wr ∧ OwnH wr w.heap.size v (betwH low high (l.take k))) (fun _ i _ => la - (intOf i).toNat)
  case atStart => exact ⟨0, Nat.zero_le _, rfl, Below.refl _ _, by simpa [OwnH, betwH, hcells] using World.ownsRow_nil w w.heap.size 43 2⟩
  case round =>
    obtain ⟨k, hk, rfl, hBe, hown⟩ := hrel
    by_cases hlt : k < la
    · obtain ⟨b, off, x, rfl, hbl, c0, c1, hx, hxb⟩ := (hL.below hBe).at_ hlt
      have HX := Lib.hid hx
      clear hx
      have hB1 : Below w.heap.size w (wr.alloc (.cells #[.int .i64 x.1, .int .i64 x.2] 43)) := hBe.alloc hBe.size _
      have hlen : (betwH low high (l.take k)).length ≤ k := by
        have h1 := List.length_filter_le (fun h : HitP => decide (low < h.1) && decide (h.1 ≤ high)) (l.take k)
        have h2 := List.length_take_le k l
        unfold betwH
        omega
      have HSN := Lib.hid (betwH_snoc low high (l.take k) x)
      have HTK := Lib.hid (take_step HX.out)
      by_cases h1 : low < x.1
      · by_cases h2 : x.1 ≤ high
        · obtain ⟨m, hm⟩ : ∃ m, (betwH low high (l.take k)).length = m := ⟨_, rfl⟩
          unfold OwnH at hown
          rw [hm] at hown hlen
          have HM := Lib.hid hm
          clear hm
          go_wp2_with (at_builtin; refine wpList_append_own _ rfl _ _ 41 rfl w.heap.size 43 i0 (.agg #[.int .i64 0, .int .i64 0]) 2 16 Try.underlying41 hi hz0 hz1 hz2 rfl (by decide) _ _ _ rfl ((hown.alloc _).alloc _) ⟨wr.heap.size + 1, 0, none⟩ 1 1 [.int .i64 x.1, .int .i64 x.2] rfl rfl (cells_new _ _ (by simp)) (by simp [Value.oneCell']) (by unfold maxLen; omega) (by omega) (by have := hBe.size; simp; omega) ?_; intro v' w5 hown' hgrow hnil)
          have hB5 : Below w.heap.size w w5 := (hB1.alloc (by have := hBe.size; simp; omega) _).grown hgrow (by have := hBe.size; simp; omega) (fun j hj => (hown.lt j hj).1)
          go_roundw
          case rel =>
            refine ⟨k + 1, by omega, by go_num, hB5, ?_⟩
            unfold OwnH
            rw [HTK.out, HSN.out, if_pos ⟨h1, h2⟩, List.length_append, HM.out, hcells_snoc]
            exact hown'
          case measure => simp [intOf]; omega
        · go_wp2
          go_roundw
          case rel =>
            refine ⟨k + 1, by omega, by go_num, hB1, ?_⟩
            rw [HTK.out, HSN.out, if_neg (by omega)]
            exact hown.alloc _
          case measure => simp [intOf]; omega
      · go_wp2
        go_roundw
        case rel =>
          refine ⟨k + 1, by omega, by go_num, hB1, ?_⟩
          rw [HTK.out, HSN.out, if_neg (by omega)]
          exact hown.alloc _
        case measure => simp [intOf]; omega
    · obtain rfl : k = la := by omega
      have HF : Hid (l.take k = l) := List.take_of_length_le (by rw [HLN.out]; exact Nat.le_refl _)
      rw [HF.out] at hown
      go_wp2
      go_ret
      exact ⟨_, rfl, hown, hBe⟩

end Go.Proofs.Ytmpmjkbjnklgfaa
