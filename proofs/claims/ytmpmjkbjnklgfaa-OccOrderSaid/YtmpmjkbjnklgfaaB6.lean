/- The document's functions of layer 28 (and of configurations). -/
import Derived.Test.YtmpmjkbjnklgfaaB5
import Derived.Lib.MinMax
namespace Go.Proofs.Ytmpmjkbjnklgfaa
open Go.RowKit Go.Sort
set_option linter.unusedVariables false

theorem over_any (l s : Int) (w : World) (hl : l ≤ 4611686018427387904) (hs : s ≤ 9223372036854775807) :
    Calls Try.prog 64 #[.int .i64 l, .int .i64 s] w fun e w' => e = .returned (.int .i64 (overI l s)) ∧ w = w' := by
  by_cases h1 : l < 1
  · go_enter Try.func64, Try.ntmps64
    go_wp2
    go_ret
    exact ⟨ret_int (by unfold overI; rw [if_pos (.inl (by omega))]), rfl⟩
  · by_cases h2 : s < 1
    · go_enter Try.func64, Try.ntmps64
      go_wp2
      go_ret
      exact ⟨ret_int (by unfold overI; rw [if_pos (.inr (by omega))]), rfl⟩
    · have hne : (s == 0) = false := by simp; omega
      have HO : Hid (overI l s = if l / s * s < l then l / s + 1 else l / s) := by
        unfold overI
        rw [if_neg (by omega), over_code (by omega) (by omega)]; rfl
      have hd : 0 ≤ l / s := Int.ediv_nonneg (by omega) (by omega)
      have hd2 : l / s ≤ l := Int.ediv_le_self _ (by omega)
      have hm : l / s * s ≤ l := Int.ediv_mul_le _ (by omega)
      have hm0 : 0 ≤ l / s * s := Int.mul_nonneg hd (by omega)
      by_cases hc : l / s * s < l
      · rw [if_pos hc] at HO
        go_enter Try.func64, Try.ntmps64
        go_wp2
        go_ret
        exact ⟨ret_int HO.out.symm, rfl⟩
      · rw [if_neg hc] at HO
        go_enter Try.func64, Try.ntmps64
        go_wp2
        go_ret
        exact ⟨ret_int HO.out.symm, rfl⟩

def min6 (a b c d e f : Int) : Int := min (min (min (min (min a b) c) d) e) f
theorem run_min6 {P : Program} (w : World) (ts : Array TypeId) (t : TypeId) (a b c d e f : Int) :
    (Builtin.min_ ts t #[.int .i64 a, .int .i64 b, .int .i64 c, .int .i64 d, .int .i64 e, .int .i64 f]).run P w = .ok (.int .i64 (min6 a b c d e f)) w := by
  have m : ∀ x y : Int, (if y < x then y else x) = min x y := by intro x y; rw [Int.min_def]; split <;> split <;> omega
  simp only [← m, min6]
  simp [Builtin.min_, Builtin.min2]
theorem min6_iff {a b c d e f : Int} : 1 ≤ min6 a b c d e f ↔ 1 ≤ a ∧ 1 ≤ b ∧ 1 ≤ c ∧ 1 ≤ d ∧ 1 ≤ e ∧ 1 ≤ f := by unfold min6; omega
attribute [local go_sem high] run_min6

set_option maxHeartbeats 4000000 in
theorem right27_any (wk bl rg qu ou sl fr : Int) (w : World) :
    Calls Try.prog 25 #[.agg (confV wk bl rg qu ou sl fr)] w fun e w' => e = .returned (.bool (confB wk bl rg qu ou sl fr)) ∧ Below w.heap.size w w' := by
  obtain ⟨B, hB⟩ : ∃ B, confB wk bl rg qu ou sl fr = B := ⟨_, rfl⟩
  have HB : Hid (confB wk bl rg qu ou sl fr = B) := hB
  rw [hB]
  clear hB
  have hfr : fr ≤ 4611686018427387904 ∨ ¬ fr ≤ 4611686018427387904 := Decidable.em _
  rcases hfr with hfr | hfr
  all_goals
    go_enter Try.func25, Try.ntmps25
    go_wp2
    all_goals
      go_ret
      refine ⟨?_, (Below.refl _ _).alloc (Nat.le_refl _) _⟩
      first
        | (show Ending.returned (.bool true) = _
           rw [← HB.out, confB_iff.2 (by simp only [min6_iff] at *; omega)])
        | (show Ending.returned (.bool false) = _
           have e : confB wk bl rg qu ou sl fr = false := by
             refine Bool.eq_false_iff.2 fun h => ?_
             have h1 := confB_iff.1 h
             have h2 := min6_iff.2 ⟨h1.1.1, h1.2.1.1, h1.2.2.1.1, h1.2.2.2.1.1, h1.2.2.2.2.1.1, h1.2.2.2.2.2.1.1⟩
             omega
           rw [← HB.out, e])

end Go.Proofs.Ytmpmjkbjnklgfaa
