/- Contracts of the small functions of layer 28 and of configurations. -/
import Derived.Test.YtmpmjkbjnklgfaaProg
import Derived.Test.YtmpmjkbjnklgfaaReg
import Derived.Test.YtmpmjkbjnklgfaaBm
import Derived.WalkKit
import Derived.WalkLawsBesides
import Derived.Deep.QuietTactic
import Derived.BigQuiet
namespace Go.Proofs.Ytmpmjkbjnklgfaa
open Go.RowKit Go.Sort
set_option linter.unusedVariables false

theorem mixed : Try.prog.follows .mixedOrders = true := by kernel_rfl
theorem bcell {W w1 : World} (hb : Below W.heap.size W w1) : (∀ b o, b < W.heap.size → w1.cell? ⟨b, o, none⟩ = W.cell? ⟨b, o, none⟩) ∧ (∀ b o, b < W.heap.size → w1.frozen? ⟨b, o, none⟩ = W.frozen? ⟨b, o, none⟩) :=
  ⟨fun b o h => hb.cell (p := ⟨b, o, none⟩) h, fun b o h => hb.frozen (p := ⟨b, o, none⟩) h⟩
theorem ret_int {k : IntKind} {a b : Int} (h : a = b) : Ending.returned (.int k a) = .returned (.int k b) := by rw [h]

theorem parts_any (size bytes : Int) (w : World) (h1 : 1 ≤ size) (h2 : 0 ≤ bytes) (h3 : size ≤ 9223372036854775807) (h4 : bytes ≤ 4611686018427387904) :
    Calls Try.prog 62 #[.int .i64 size, .int .i64 bytes] w fun e w' => e = .returned (.int .i64 (partsI size bytes)) ∧ w = w' := by
  have hne : (size == 0) = false := by simp; omega
  have hd : 0 ≤ bytes / size := Int.ediv_nonneg h2 (by omega)
  have hd2 : bytes / size ≤ bytes := Int.ediv_le_self _ h2
  by_cases hc : 0 < bytes % size
  all_goals
    go_enter Try.func62, Try.ntmps62
    go_wp2
    go_ret
    exact ⟨ret_int (by unfold partsI; first | rw [if_pos hc] | rw [if_neg (by omega), Int.add_zero]), rfl⟩

theorem long_any (n : Int) (w : World) :
    Calls Try.prog 67 #[.int .i64 n] w fun e w' => e = .returned (.bool (btw n 1 32)) ∧ w = w' := by
  by_cases h1 : 1 ≤ n
  · by_cases h2 : n ≤ 32
    all_goals
      go_enter Try.func67, Try.ntmps67
      go_wp2
      go_ret
      exact ⟨by simp [btw]; try omega, rfl⟩
  · go_enter Try.func67, Try.ntmps67
    go_wp2
    go_ret
    exact ⟨by simp [btw]; try omega, rfl⟩

theorem counted_any (n : Int) (w : World) :
    Calls Try.prog 65 #[.int .i64 n] w fun e w' => e = .returned (.bool (btw n 0 2147483647)) ∧ w = w' := by
  by_cases h1 : 0 ≤ n
  · by_cases h2 : n ≤ 2147483647
    all_goals
      go_enter Try.func65, Try.ntmps65
      go_wp2
      go_ret
      exact ⟨by simp [btw]; try omega, rfl⟩
  · go_enter Try.func65, Try.ntmps65
    go_wp2
    go_ret
    exact ⟨by simp [btw]; try omega, rfl⟩

theorem between_any (n lo hi : Int) (w : World) :
    Calls Try.prog 105 #[.int .i64 n, .int .i64 lo, .int .i64 hi] w fun e w' => e = .returned (.bool (btw n lo hi)) ∧ w = w' := by
  by_cases h1 : lo ≤ n
  · by_cases h2 : n ≤ hi
    all_goals
      go_enter Try.func105, Try.ntmps105
      go_wp2
      go_ret
      exact ⟨by simp [btw]; try omega, rfl⟩
  · go_enter Try.func105, Try.ntmps105
    go_wp2
    go_ret
    exact ⟨by simp [btw]; try omega, rfl⟩

abbrev confV (wk bl rg qu ou sl fr : Int) : Array Value := #[.int .i64 wk, .int .i64 bl, .int .i64 rg, .int .i64 qu, .int .i64 ou, .int .i64 sl, .int .i64 fr]
abbrev reckV (wk bl rg qu ou sl fr L y : Int) : Array Value := #[.int .i64 wk, .int .i64 bl, .int .i64 rg, .int .i64 qu, .int .i64 ou, .int .i64 sl, .int .i64 fr, .int .i64 L, .int .i64 y]

set_option maxHeartbeats 1000000 in
theorem right_any (wk bl rg qu ou sl fr : Int) (w : World) :
    Calls Try.prog 66 #[.agg (confV wk bl rg qu ou sl fr)] w fun e w' => e = .returned (.bool (confB wk bl rg qu ou sl fr)) ∧ Below w.heap.size w w' := by
  go_enter Try.func66, Try.ntmps66
  go_wp2_with (go_at_call 105; refine (between_any _ _ _ _).mono ?_; rintro e w' ⟨rfl, rfl⟩)
  all_goals
    go_ret
    exact ⟨by simp [confB, *], (Below.refl _ _).alloc (Nat.le_refl _) _⟩

set_option maxHeartbeats 1000000 in
theorem rightR_any (wk bl rg qu ou sl fr L y : Int) (w : World) :
    Calls Try.prog 60 #[.agg (reckV wk bl rg qu ou sl fr L y)] w fun e w' => e = .returned (.bool (rightB wk bl rg qu ou sl fr L y)) ∧ Below w.heap.size w w' := by
  go_enter Try.func60, Try.ntmps60
  go_wp2_with fail
  refine (right_any _ _ _ _ _ _ _ _).mono ?_
  rintro e w' ⟨rfl, hb⟩
  obtain ⟨hc, hf⟩ := bcell hb
  have hB := ((Below.refl w.heap.size w).alloc (Nat.le_refl _) (.cells (reckV wk bl rg qu ou sl fr L y) 83)).trans (hb.mono (by simp))
  go_wp2_with (first | (go_at_call 67; refine (long_any _ _).mono ?_; rintro e w' ⟨rfl, rfl⟩) | (go_at_call 65; refine (counted_any _ _).mono ?_; rintro e w' ⟨rfl, rfl⟩))
  all_goals
    go_ret
    exact ⟨by simp [rightB, *], hB⟩

theorem warm_any (wk bl rg qu ou sl fr L y : Int) (k : Nat) (w : World) (h1 : 1 ≤ L) (h2 : L ≤ 32) (h3 : 1 ≤ bl) (h4 : bl ≤ 256) (hk : k ≤ 2147483647) :
    Calls Try.prog 104 #[.agg (reckV wk bl rg qu ou sl fr L y), .int .i64 k] w fun e w' => e = .returned (.int .i64 (wI L bl k)) ∧ Below w.heap.size w w' := by
  have p0 : 0 ≤ (k : Int) * bl := Int.mul_nonneg (by omega) (by omega)
  have p1 : (k : Int) * bl ≤ (k : Int) * 256 := Int.mul_le_mul_of_nonneg_left h4 (by omega)
  go_enter Try.func104, Try.ntmps104
  go_wp2
  all_goals
    go_ret
    exact ⟨ret_int (by unfold wI; omega), (Below.refl _ _).alloc (Nat.le_refl _) _⟩

end Go.Proofs.Ytmpmjkbjnklgfaa
