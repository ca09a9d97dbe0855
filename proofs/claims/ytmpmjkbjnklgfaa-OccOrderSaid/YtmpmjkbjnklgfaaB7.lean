/- The document's functions of layer 28, the loops. -/
import Derived.Test.YtmpmjkbjnklgfaaB6
namespace Go.Proofs.Ytmpmjkbjnklgfaa
open Go.RowKit Go.Sort
set_option linter.unusedVariables false

theorem ret_bool {a b : Bool} (h : a = b) : Ending.returned (.bool a) = .returned (.bool b) := by rw [h]

set_option maxHeartbeats 1000000 in
theorem may28_any (wk bl rg qu ou sl fr L y : Int) (w : World) :
    Calls Try.prog 63 #[.agg (confV wk bl rg qu ou sl fr), .int .i64 L, .int .i64 y] w fun e w' => e = .returned (.bool (rightB wk bl rg qu ou sl fr L y)) ∧ Below w.heap.size w w' := by
  obtain ⟨B, hB⟩ : ∃ B, rightB wk bl rg qu ou sl fr L y = B := ⟨_, rfl⟩
  have HB : Hid (rightB wk bl rg qu ou sl fr L y = B) := hB
  rw [hB]
  clear hB
  have hy : y ≤ 2147483647 ∨ ¬ y ≤ 2147483647 := Decidable.em _
  rcases hy with hy | hy
  all_goals
    go_enter Try.func63, Try.ntmps63
    go_wp2_with fail
    refine (right27_any _ _ _ _ _ _ _ _).mono ?_
    rintro e w' ⟨rfl, hb⟩
    have hBel : Below w.heap.size w w' := ((Below.refl _ _).alloc (Nat.le_refl _) _).trans (hb.mono (by simp))
    go_wp2
    all_goals
      go_ret
      refine ⟨ret_bool ?_, hBel⟩
      rw [← HB.out, Bool.eq_iff_iff]
      simp only [rightB, btw, Bool.and_eq_true, decide_eq_true_eq]
      simp [*]
      try omega

set_option maxHeartbeats 2000000 in
theorem rslices_any (wk bl rg qu ou sl fr L y : Int) (w : World) :
    Calls Try.prog 16 #[.agg (confV wk bl rg qu ou sl fr), .int .i64 L, .int .i64 y] w fun e w' => e = .returned (.tuple #[.int .i64 (sliN wk bl rg qu ou sl fr L y), .int .i64 (sliE wk bl rg qu ou sl fr L y)]) ∧ Below w.heap.size w w' := by
  go_enter Try.func16, Try.ntmps16
  go_wp2_with fail
  refine (may28_any _ _ _ _ _ _ _ _ _ _).mono ?_
  rintro e w1 ⟨rfl, hb⟩
  obtain ⟨hc, hf⟩ := bcell hb
  have hB : Below w.heap.size w w1 := ((Below.refl _ _).alloc (Nat.le_refl _) _).trans (hb.mono (by simp))
  by_cases hr : rightB wk bl rg qu ou sl fr L y = true
  · have hr0 := hr
    simp only [rightB, Bool.and_eq_true, confB_iff, btw, decide_eq_true_eq] at hr0
    obtain ⟨⟨⟨_, ⟨b1, b2⟩, _, _, _, ⟨s1, s2⟩, _⟩, l1, l2⟩, y1, y2⟩ := hr0
    have HN : Hid (sliN wk bl rg qu ou sl fr L y = totalI L bl sl y ∧ sliE wk bl rg qu ou sl fr L y = 0) := by simp [Hid, sliN, sliE, hr]
    have hc1 : w1.cell? ⟨w.heap.size, 1, none⟩ = some (.int .i64 bl) := by rw [hc _ _ (by simp)]; simp
    have hc5 : w1.cell? ⟨w.heap.size, 5, none⟩ = some (.int .i64 sl) := by rw [hc _ _ (by simp)]; simp
    clear hc hf hb
    rw [hr]
    clear hr
    go_wp2
    go_loop [8, 9] (fun s f => ∃ (k : Nat) (q : Int), Hid (q = k * bl) ∧ 0 ≤ q ∧ q ≤ y + 256 ∧ f = .int .i64 q ∧ s = .int .i64 (refV L bl sl y k)) (fun _ f => (y - intOf f).toNat)
    case atStart => exact ⟨0, 0, by simp [Hid], by omega, by omega, rfl, by simp [refV, sumN]⟩
    case round =>
      obtain ⟨k, q, Hq, q0, q1, rfl, rfl⟩ := hrel
      have hv := refV_bd (S := sl) l1 l2 b1 b2 s1 y1 k
      by_cases hlt : q < y
      · have hst := refV_step (S := sl) l1 b1 s1 y1 (k := k) (by rw [← Hq.out]; exact hlt)
        rw [← Hq.out] at hst
        have hv2 := refV_bd (S := sl) l1 l2 b1 b2 s1 y1 (k + 1)
        have HS := Lib.hid hst
        rw [hst] at hv2
        clear hst
        have g1 : 0 ≤ min (L - 1) q := by omega
        have g2 : min (L - 1) q ≤ 31 := by omega
        have g3 : 0 ≤ min bl (y - q) := by omega
        have g4 : min bl (y - q) ≤ 256 := by omega
        go_wp2_with (go_at_call 64; refine (over_any _ _ _ (by omega) (by omega)).mono ?_; rintro e w' ⟨rfl, rfl⟩)
        go_round
        case rel => exact ⟨k + 1, q + bl, by unfold Hid; rw [Hq.out]; simp [Int.add_mul], by omega, by omega, rfl, by rw [HS.out]⟩
        case measure => simp [intOf]; omega
      · have HE := Lib.hid (refV_end (L := L) (S := sl) b1 y1 (k := k) (by rw [← Hq.out]; exact hlt))
        go_wp2
        go_ret2
        exact ⟨by rw [HN.out.1, HN.out.2, ← HE.out]; rfl, hB⟩
  · have hr2 : rightB wk bl rg qu ou sl fr L y = false := by simpa using hr
    have HN : Hid (sliN wk bl rg qu ou sl fr L y = 0 ∧ sliE wk bl rg qu ou sl fr L y = 2) := by simp [Hid, sliN, sliE, hr2]
    rw [hr2]
    go_wp2
    go_ret2
    exact ⟨by rw [HN.out.1, HN.out.2]; rfl, hB⟩

end Go.Proofs.Ytmpmjkbjnklgfaa
