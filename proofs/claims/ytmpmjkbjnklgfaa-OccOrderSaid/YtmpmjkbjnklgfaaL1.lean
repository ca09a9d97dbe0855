/- Small functions of layer 3, walked: bytes folded, compared. -/
import Derived.Test.YtmpmjkbjnklgfaaProg
import Derived.Test.YtmpmjkbjnklgfaaReg
import Derived.Test.YtmpmjkbjnklgfaaRf
import Derived.Test.YtmpmjkbjnklgfaaLp
import Derived.Test.YtmpmjkbjnklgfaaB1
import Derived.WalkKit
import Derived.WalkLawsBesides
import Derived.Deep.QuietTactic
import Derived.BigQuiet
import Derived.Lib.Hide
import Derived.Lib.QuietBelow
import Derived.Stop.Walk2
namespace Go.Proofs.Ytmpmjkbjnklgfaa
open Go.RowKit Go.Sort
set_option linter.unusedVariables false

theorem cells0 : Try.prog.cellsOf 219 = 0 := by kernel_rfl
theorem run_partAt_zero (w : World) (b : Nat) (cs : Array Value) (t : TypeId) (fr : Nat × Nat) (h : w.heap[b]? = some (.cells cs t fr)) (ht : Try.prog.cellsOf t = 0) :
    Sem.run Try.prog (partAt ⟨b, 0, none⟩ 0 0) w = .ok ⟨b, 0, none⟩ w := by
  simp [partAt, byteOf, noView, viewAt, World.shape?, h, ht, go_sem]
theorem partAt_new (w : World) (t : TypeId) (ht : Try.prog.cellsOf t = 0) :
    Sem.run Try.prog (partAt ⟨w.heap.size, 0, none⟩ 0 0) (w.alloc (.cells #[] t)) = .ok ⟨w.heap.size, 0, none⟩ (w.alloc (.cells #[] t)) :=
  run_partAt_zero _ _ _ _ _ (World.alloc_heap_new _ _) ht
theorem partAt_grown {w : World} {b : Nat} {cs : Array Value} {t : TypeId} {fr : Nat × Nat} (h : w.heap[b]? = some (.cells cs t fr)) (ht : Try.prog.cellsOf t = 0) (d : Nat) (os : Array Obj) :
    Sem.run Try.prog (partAt ⟨b, 0, none⟩ 0 0) (grow (redrawn w d) os) = .ok ⟨b, 0, none⟩ (grow (redrawn w d) os) :=
  run_partAt_zero _ _ _ _ _ (((below_regrown w d os).block b (Array.getElem?_eq_some_iff.1 h).1).trans h) ht

theorem fold_any (x : Int) (w : World) (h0 : 0 ≤ x) (h1 : x ≤ 255) :
    Calls Try.prog 194 #[.int .u8 x] w fun e w' => e = .returned (.int .u8 (foldI x)) ∧ w = w' := by
  by_cases h2 : 65 ≤ x
  · by_cases h3 : x ≤ 90
    all_goals
      go_enter Try.func194, Try.ntmps194
      go_wp2
      go_ret
      exact ⟨ret_int (by unfold foldI; first | rw [if_pos (by omega)] | rw [if_neg (by omega)]), rfl⟩
  · go_enter Try.func194, Try.ntmps194
    go_wp2
    go_ret
    exact ⟨ret_int (by unfold foldI; rw [if_neg (by omega)]), rfl⟩

theorem rfold_any (x : Int) (w : World) (h0 : 0 ≤ x) (h1 : x ≤ 255) :
    Calls Try.prog 150 #[.int .u8 x] w fun e w' => e = .returned (.int .u8 (foldI x)) ∧ w = w' := by
  by_cases h2 : 65 ≤ x
  · by_cases h3 : x ≤ 90
    all_goals
      go_enter Try.func150, Try.ntmps150
      go_wp2
      go_ret
      exact ⟨ret_int (by unfold foldI; first | rw [if_pos (by omega)] | rw [if_neg (by omega)]), rfl⟩
  · go_enter Try.func150, Try.ntmps150
    go_wp2
    go_ret
    exact ⟨ret_int (by unfold foldI; rw [if_neg (by omega)]), rfl⟩

theorem exact_any (x y : Int) (w : World) :
    Calls Try.prog 185 #[.agg #[], .int .u8 x, .int .u8 y] w fun e w' => e = .returned (.bool (decide (x = y))) ∧ Below w.heap.size w w' := by
  by_cases h : x = y
  all_goals
    go_enter Try.func185, Try.ntmps185
    go_wp2
    go_ret
    exact ⟨by simp [h], (Below.refl _ _).alloc (Nat.le_refl _) _⟩

theorem folded_any (x y : Int) (w : World) (hx0 : 0 ≤ x) (hx1 : x ≤ 255) (hy0 : 0 ≤ y) (hy1 : y ≤ 255) :
    Calls Try.prog 184 #[.agg #[], .int .u8 x, .int .u8 y] w fun e w' => e = .returned (.bool (decide (foldI x = foldI y))) ∧ Below w.heap.size w w' := by
  have hX := foldI_bd ⟨hx0, hx1⟩
  have hY := foldI_bd ⟨hy0, hy1⟩
  go_enter Try.func184, Try.ntmps184
  have hp := partAt_grown (World.alloc_heap_new w (.cells #[] 219)) cells0
  go_wp2
  refine wp_region_quiet_below mixed (by kernel_rfl) ?_
  repeat (go_big_quiet_step (first | exact grown_same (fold_any _ _ (by omega) (by omega)) | exact grown_below (exact_any _ _ _)))
  refine wpQuiet_nil ?_
  rintro _ ⟨⟨dq, osq⟩, rfl⟩
  go_wp2
  go_ret
  exact ⟨rfl, ((Below.refl _ _).alloc (Nat.le_refl _) _).trans ((below_regrown _ dq osq).mono (by simp))⟩

theorem run_store_fn (P : Program) (w : World) (a : Addr) (f : Fn) (vs us : Array Value) (m : Mode) : (store a (.func f vs us) m).run P w = stored P w a (.func f vs us) m := run_store P w a _ m rfl

/-- Which function compares. -/
def cmpFn (fold : Bool) : FuncId := if fold then 184 else 185

theorem by_any (fold : Bool) (w : World) :
    Calls Try.prog 167 #[.bool fold] w fun e w' => e = .returned (.func (.func (cmpFn fold)) #[.agg #[]] #[]) ∧ Below w.heap.size w w' := by
  cases fold
  all_goals
    go_enter Try.func167, Try.ntmps167
    have hp := partAt_new w 219 cells0
    go_wp2
    go_ret
    exact ⟨by simp [cmpFn], (Below.refl _ _).alloc (Nat.le_refl _) _⟩

end Go.Proofs.Ytmpmjkbjnklgfaa
