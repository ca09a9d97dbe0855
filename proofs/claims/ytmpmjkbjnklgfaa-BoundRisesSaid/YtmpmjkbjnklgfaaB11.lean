/- Law BoundRises of layer 28, walked: where the numbers may be. -/
import Derived.Test.YtmpmjkbjnklgfaaB10
namespace Go.Proofs.Ytmpmjkbjnklgfaa
open Go.RowKit Go.Sort
set_option linter.unusedVariables false

theorem rises {wk bl rg qu ou sl fr L y r h : Int} (hok : steB wk bl rg qu ou sl fr L y r h = true) (hy : y ≤ 1000) (hr : r < 2147483647) (hh : h < 2147483647) :
    (steN wk bl rg qu ou sl fr L y (r + 1) h = steN wk bl rg qu ou sl fr L y r h + 1 ∧ steE wk bl rg qu ou sl fr L y (r + 1) h = 0) ∧
    (steN wk bl rg qu ou sl fr L y r (h + 1) = steN wk bl rg qu ou sl fr L y r h + 2 ∧ steE wk bl rg qu ou sl fr L y r (h + 1) = 0) ∧
    (steN wk bl rg qu ou sl fr L y r h ≤ steN wk bl rg qu ou sl fr L (y + 1) r h ∧ steE wk bl rg qu ou sl fr L (y + 1) r h = 0) ∧
    (steE wk bl rg qu ou sl fr L y r h = 0 ∧ 0 ≤ steN wk bl rg qu ou sl fr L y r h ∧ steN wk bl rg qu ou sl fr L y r h ≤ 6442760000 ∧ steN wk bl rg qu ou sl fr L (y + 1) r h ≤ 6443760000) := by
  have hr0 := hok
  simp only [steB, rightB, Bool.and_eq_true, confB_iff, btw, decide_eq_true_eq] at hr0
  obtain ⟨⟨⟨⟨hconf, l1, l2⟩, y1, y2⟩, r1, r2⟩, h1, h2⟩ := hr0
  have hconf' := hconf
  obtain ⟨⟨_, _⟩, ⟨b1, b2⟩, _, _, _, ⟨s1, s2⟩, _⟩ := hconf'
  have hc := confB_iff.2 hconf
  have a1 : steB wk bl rg qu ou sl fr L y (r + 1) h = true := by
    simp [steB, rightB, hc, btw]; omega
  have a2 : steB wk bl rg qu ou sl fr L y r (h + 1) = true := by
    simp [steB, rightB, hc, btw]; omega
  have a3 : steB wk bl rg qu ou sl fr L (y + 1) r h = true := by
    simp [steB, rightB, hc, btw]; omega
  have t1 := totalI_mono (S := sl) l1 b1 s1 y1
  have t2 := overI_mono (B := bl) b1 y1
  have t3 := totalI_bd (S := sl) l1 l2 b1 b2 s1 y1
  have t4 := totalI_bd (S := sl) l1 l2 b1 b2 s1 (show 0 ≤ y + 1 by omega)
  have t5 := overI_bd (n := y) (size := bl)
  have t6 := overI_bd (n := y + 1) (size := bl)
  simp only [steN, steE, a1, a2, a3, hok, if_true]
  refine ⟨⟨?_, trivial⟩, ⟨?_, trivial⟩, ⟨?_, trivial⟩, trivial, ?_, ?_, ?_⟩ <;> omega

set_option maxRecDepth 100000 in
set_option maxHeartbeats 4000000 in
theorem boundRises_ok (wk bl rg qu ou sl fr L y r h : Int) (w : World) (hy : y ≤ 1000) (hr : r < 2147483647) (hh : h < 2147483647) (hok : steB wk bl rg qu ou sl fr L y r h = true) :
    Calls Try.prog 4 #[.agg (confV wk bl rg qu ou sl fr), .int .i64 L, .int .i64 y, .int .i64 r, .int .i64 h] w fun e w' => e = .returned (.bool true) ∧ Below w.heap.size w w' := by
  obtain ⟨⟨nA, eA⟩, ⟨nB, eB⟩, ⟨nD, eD⟩, eN, N1, N2, D2⟩ := rises hok hy hr hh
  have hr0 := hok
  simp only [steB, rightB, Bool.and_eq_true, confB_iff, btw, decide_eq_true_eq] at hr0
  obtain ⟨⟨⟨⟨hconf, l1, l2⟩, y1, y2⟩, r1, r2⟩, h1, h2⟩ := hr0
  have hconf' := hconf
  obtain ⟨⟨_, _⟩, ⟨b1, b2⟩, _, _, _, ⟨s1, s2⟩, _⟩ := hconf'
  obtain ⟨k, hk, ht⟩ := total_one (L := L) b1 y1
  have hkb := overI_bd (n := y) (size := bl)
  have hk1 : (k : Int) ≤ 1000 := by omega
  have hone : rightB wk bl rg qu ou 1 fr L y = true := by
    simp only [rightB, Bool.and_eq_true, confB_iff, btw, decide_eq_true_eq]; omega
  have hS1 : sliN wk bl rg qu ou 1 fr L y = y + wsum L bl k := by rw [sliN, if_pos hone, ht]
  have hS2 : sliE wk bl rg qu ou 1 fr L y = 0 := by rw [sliE, if_pos hone]
  have hb1 : blkS bl [y] = (k : Int) := by simp [blkS, hk]
  have cB : ∀ (W : World) (b : Nat), W.cell? ⟨b, 0, none⟩ = some (.int .i64 y) → b < W.heap.size → Calls Try.prog 23 #[.int .i64 bl, .slice (some ⟨b, 0, none⟩) 1 1] W fun e w' => e = .returned (.int .i64 (k : Int)) ∧ W = w' := by
    intro W b hc hb
    rw [← hb1]
    exact blocksN_any _ _ _ _ _ _ (by omega) (by omega) (by simp; omega) (Sl1.one hc hb)
  clear hb1 hk ht hkb hone hok
  have HW := Lib.hid (fun j => wsum_bd (B := bl) l1 l2 b1 j)
  obtain ⟨N, hN⟩ : ∃ N, steN wk bl rg qu ou sl fr L y r h = N := ⟨_, rfl⟩
  obtain ⟨D, hD⟩ : ∃ D, steN wk bl rg qu ou sl fr L (y + 1) r h = D := ⟨_, rfl⟩
  rw [hN] at nA nB nD N1 N2
  rw [hD] at nD D2
  have HH := Lib.hid (And.intro hN (And.intro hD (And.intro nA (And.intro nB (And.intro eA (And.intro eB (And.intro eD (And.intro eN (And.intro hS1 hS2)))))))))
  clear hN hD nA nB eA eB eD eN hS1 hS2
  have hB0 : Below w.heap.size w (w.alloc (.cells (confV wk bl rg qu ou sl fr) 23)) := (Below.refl _ _).alloc (Nat.le_refl _) _
  have hC0 : (w.alloc (.cells (confV wk bl rg qu ou sl fr) 23)).heap[w.heap.size]? = some (.cells (confV wk bl rg qu ou sl fr) 23 (0, 0)) := World.alloc_heap_new _ _
  go_enter Try.func4, Try.ntmps4
  go_wp2_with fail
  refine (steps_any _ _ _ _ _ _ _ _ _ _ _ _).mono ?_
  rintro e w1 ⟨rfl, hb⟩
  rw [HH.out.1, HH.out.2.2.2.2.2.2.2.1]
  have hB1 : Below w.heap.size w w1 := hB0.trans (hb.mono hB0.size)
  have hC1 := (hb.block w.heap.size (Array.getElem?_eq_some_iff.1 hC0).1).trans hC0
  clear hb hB0 hC0
  obtain ⟨c0, c1, c2, c3, c4, c5, c6⟩ := conf_cells hC1
  go_wp2_with fail
  clear c0 c1 c2 c3 c4 c5 c6
  refine (steps_any _ _ _ _ _ _ _ _ _ _ _ _).mono ?_
  rintro e w2 ⟨rfl, hb⟩
  rw [HH.out.2.2.1, HH.out.2.2.2.2.1]
  have hB2 : Below w.heap.size w w2 := hB1.trans (hb.mono hB1.size)
  have hC2 := (hb.block w.heap.size (Array.getElem?_eq_some_iff.1 hC1).1).trans hC1
  clear hb hB1 hC1
  obtain ⟨c0, c1, c2, c3, c4, c5, c6⟩ := conf_cells hC2
  go_wp2_with fail
  clear c0 c1 c2 c3 c4 c5 c6
  refine (steps_any _ _ _ _ _ _ _ _ _ _ _ _).mono ?_
  rintro e w3 ⟨rfl, hb⟩
  rw [HH.out.2.2.2.1, HH.out.2.2.2.2.2.1]
  have hB3 : Below w.heap.size w w3 := hB2.trans (hb.mono hB2.size)
  have hC3 := (hb.block w.heap.size (Array.getElem?_eq_some_iff.1 hC2).1).trans hC2
  clear hb hB2 hC2
  obtain ⟨c0, c1, c2, c3, c4, c5, c6⟩ := conf_cells hC3
  go_wp2_with fail
  clear c0 c1 c2 c3 c4 c5 c6
  refine (steps_any _ _ _ _ _ _ _ _ _ _ _ _).mono ?_
  rintro e w4 ⟨rfl, hb⟩
  rw [HH.out.2.1, HH.out.2.2.2.2.2.2.1]
  have hB4 : Below w.heap.size w w4 := hB3.trans (hb.mono hB3.size)
  have hC4 := (hb.block w.heap.size (Array.getElem?_eq_some_iff.1 hC3).1).trans hC3
  clear hb hB3 hC3
  obtain ⟨c0, c1, c2, c3, c4, c5, c6⟩ := conf_cells hC4
  go_wp2_with fail
  refine (slices_any _ _ _ _ _ _ _ _ _ _).mono ?_
  rintro e w5 ⟨rfl, hb⟩
  rw [HH.out.2.2.2.2.2.2.2.2.1, HH.out.2.2.2.2.2.2.2.2.2]
  have hB4' := hB4.alloc hB4.size (.cells (confV wk bl rg qu ou 1 fr) 23)
  have hC4' : (w4.alloc (.cells (confV wk bl rg qu ou 1 fr) 23)).heap[w.heap.size]? = _ := (Below.heap_alloc _ _ _ (Array.getElem?_eq_some_iff.1 hC4).1).trans hC4
  have hB5 : Below w.heap.size w w5 := hB4'.trans (hb.mono hB4'.size)
  have hC5 := (hb.block w.heap.size (Array.getElem?_eq_some_iff.1 hC4').1).trans hC4'
  clear hb hB4 hC4 hB4' hC4' c0 c1 c2 c3 c4 c5 c6
  obtain ⟨c0, c1, c2, c3, c4, c5, c6⟩ := conf_cells hC5
  go_wp2_with fail
  refine (cB _ _ ?_ ?_).mono ?_
  · simp
  · simp
  rintro e w6 ⟨rfl, rfl⟩
  clear cB
  have hB6 := hB5.alloc hB5.size (.cells #[.int .i64 y] 3)
  have hlt := (Array.getElem?_eq_some_iff.1 hC5).1
  have d1 : (w5.alloc (.cells #[.int .i64 y] 3)).cell? ⟨w.heap.size, 1, none⟩ = some (.int .i64 bl) := by
    rw [((Below.refl w5.heap.size w5).alloc (Nat.le_refl _) _).cell (p := ⟨w.heap.size, 1, none⟩) hlt]; exact c1
  clear c0 c1 c2 c3 c4 c5 c6 hC5 hlt hconf
  go_wp2
  go_loop [23, 24] (fun s i => ∃ j : Nat, j ≤ k ∧ i = .int .i64 j ∧ s = .int .i64 (y + wsum L bl j)) (fun _ i => k - (intOf i).toNat)
  case atStart => exact ⟨0, Nat.zero_le _, rfl, by simp [wsum]⟩
  case round =>
    obtain ⟨j, hj, rfl, rfl⟩ := hrel
    have hw := HW.out j
    by_cases hlt : j < k
    · have p0 : 0 ≤ (j : Int) * bl := Int.mul_nonneg (by omega) (by omega)
      have p1 : (j : Int) * bl ≤ 1000 * 256 := Int.mul_le_mul (by omega) b2 (by omega) (by omega)
      have HS : Hid (wsum L bl (j + 1) = wsum L bl j + min (L - 1) ((j : Int) * bl)) := rfl
      go_wp2
      go_round
      case rel => exact ⟨j + 1, by omega, by go_num, by rw [HS.out, Int.add_assoc]⟩
      case measure => simp [intOf]; omega
    · obtain rfl : j = k := by omega
      have q1 : decide (N ≤ D) = true := by simpa using nD
      go_wp2_with fail
      refine (wakes28 _).mono ?_
      rintro e w7 ⟨rfl, hb⟩
      go_wp2
      go_ret
      exact ⟨rfl, hB6.trans (hb.mono hB6.size)⟩

theorem boundRises_walk (wk bl rg qu ou sl fr L y r h : Int) (w : World) :
    Calls Try.prog 4 #[.agg (confV wk bl rg qu ou sl fr), .int .i64 L, .int .i64 y, .int .i64 r, .int .i64 h] w fun e w' => e = .returned (.bool true) ∧ Below w.heap.size w w' := by
  by_cases hout : 0 ≤ y ∧ y ≤ 1000 ∧ 0 ≤ r ∧ r < 2147483647 ∧ 0 ≤ h ∧ h < 2147483647
  · obtain ⟨h1, h2, h3, h4, h5, h6⟩ := hout
    cases hok : steB wk bl rg qu ou sl fr L y r h with
    | false => exact boundRises_err _ _ _ _ _ _ _ _ _ _ _ _ ⟨h1, h2⟩ ⟨h3, h4⟩ ⟨h5, h6⟩ hok
    | true => exact boundRises_ok _ _ _ _ _ _ _ _ _ _ _ _ h2 h4 h6 hok
  · exact boundRises_out _ _ _ _ _ _ _ _ _ _ _ _ hout

end Go.Proofs.Ytmpmjkbjnklgfaa
