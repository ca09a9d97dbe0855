/- Law BoundRises of layer 28, walked. -/
import Derived.Test.YtmpmjkbjnklgfaaB8
import Derived.Test.YtmpmjkbjnklgfaaBo
namespace Go.Proofs.Ytmpmjkbjnklgfaa
open Go.RowKit Go.Sort
set_option linter.unusedVariables false

set_option maxRecDepth 100000 in
set_option maxHeartbeats 4000000 in
theorem boundRises_out (wk bl rg qu ou sl fr L y r h : Int) (w : World) (hout : ¬ (0 ≤ y ∧ y ≤ 1000 ∧ 0 ≤ r ∧ r < 2147483647 ∧ 0 ≤ h ∧ h < 2147483647)) :
    Calls Try.prog 4 #[.agg (confV wk bl rg qu ou sl fr), .int .i64 L, .int .i64 y, .int .i64 r, .int .i64 h] w fun e w' => e = .returned (.bool true) ∧ Below w.heap.size w w' := by
  have hB0 : Below w.heap.size w (w.alloc (.cells (confV wk bl rg qu ou sl fr) 23)) := (Below.refl _ _).alloc (Nat.le_refl _) _
  have hh : 2147483647 ≤ h ∨ ¬ 2147483647 ≤ h := Decidable.em _
  rcases hh with hh | hh
  all_goals
    go_enter Try.func4, Try.ntmps4
    go_wp2_with (first | (go_at_call 14; refine (wakes28 _).mono ?_; rintro e w' ⟨rfl, hb⟩) | (go_at_call 17; exfalso; omega))
    all_goals
      go_ret
      exact ⟨rfl, hB0.trans (hb.mono hB0.size)⟩

set_option maxRecDepth 100000 in
set_option maxHeartbeats 4000000 in
theorem boundRises_err (wk bl rg qu ou sl fr L y r h : Int) (w : World) (hy : 0 ≤ y ∧ y ≤ 1000) (hr : 0 ≤ r ∧ r < 2147483647) (hh : 0 ≤ h ∧ h < 2147483647) (hno : steB wk bl rg qu ou sl fr L y r h = false) :
    Calls Try.prog 4 #[.agg (confV wk bl rg qu ou sl fr), .int .i64 L, .int .i64 y, .int .i64 r, .int .i64 h] w fun e w' => e = .returned (.bool true) ∧ Below w.heap.size w w' := by
  obtain ⟨hy1, hy2⟩ := hy
  obtain ⟨hr1, hr2⟩ := hr
  obtain ⟨hh1, hh2⟩ := hh
  have hB0 : Below w.heap.size w (w.alloc (.cells (confV wk bl rg qu ou sl fr) 23)) := (Below.refl _ _).alloc (Nat.le_refl _) _
  have hC0 : (w.alloc (.cells (confV wk bl rg qu ou sl fr) 23)).heap[w.heap.size]? = some (.cells (confV wk bl rg qu ou sl fr) 23 (0, 0)) := World.alloc_heap_new _ _
  have hN : steN wk bl rg qu ou sl fr L y r h = 0 := by simp [steN, hno]
  have hE : steE wk bl rg qu ou sl fr L y r h = 2 := by simp [steE, hno]
  have hor : confB wk bl rg qu ou sl fr = false ∨ confB wk bl rg qu ou sl fr = true ∧ ¬ (1 ≤ L ∧ L ≤ 32) := by
    cases hc : confB wk bl rg qu ou sl fr with
    | false => exact .inl rfl
    | true =>
      refine .inr ⟨rfl, fun hL => ?_⟩
      simp [steB, rightB, btw, hc, hL, hy1, hr1, hh1] at hno
      omega
  clear hno
  have hL32 : 32 < L ∨ ¬ 32 < L := Decidable.em _
  rcases hor with hc | ⟨hc, hLL⟩ <;> rcases hL32 with hL3 | hL3
  all_goals
    go_enter Try.func4, Try.ntmps4
    go_wp2_with fail
    refine (steps_any _ _ _ _ _ _ _ _ _ _ _ _).mono ?_
    rintro e w1 ⟨rfl, hb⟩
    rw [hN, hE]
    have hB1 : Below w.heap.size w w1 := hB0.trans (hb.mono hB0.size)
    have hC1 := (hb.block w.heap.size (Array.getElem?_eq_some_iff.1 hC0).1).trans hC0
    clear hb
    obtain ⟨c0, c1, c2, c3, c4, c5, c6⟩ := conf_cells hC1
    go_wp2_with fail
    refine (right27_any _ _ _ _ _ _ _ _).mono ?_
    rintro e w2 ⟨rfl, hb⟩
    rw [hc]
    have hB2 : Below w.heap.size w w2 := hB1.trans (hb.mono hB1.size)
    go_wp2_with (go_at_call 14; refine (wakes28 _).mono ?_; rintro e w' ⟨rfl, hb3⟩)
    all_goals
      first
        | (exfalso; omega)
        | (go_ret
           exact ⟨rfl, hB2.trans (hb3.mono hB2.size)⟩)

end Go.Proofs.Ytmpmjkbjnklgfaa
