/- The sort of at most 12 hits by a method that compares: walked. -/
import Derived.Test.YtmpmjkbjnklgfaaI2
import Derived.Test.YtmpmjkbjnklgfaaH1
import Derived.Shelf.SlSortCmp.Xorshift
namespace Go.Proofs.Ytmpmjkbjnklgfaa
open Go.RowKit Go.Sort Go.Shelf
set_option linter.unusedVariables false

theorem bitsLen_any (n : Nat) (W : World) (h : n ≤ 1000000000000) : Calls Try.prog 108 #[.int .u64 n] W fun e w' => e = .returned (.int .i64 (Lib.bitLen n)) ∧ W = w' := by
  have h := Any.bits_Len (SlLaysF0.n15.bits (P := Try.prog) (ρ := sortHit_ren) { sortHit with }) (n : Int) W (by omega) (by omega)
  rw [Int.toNat_natCast] at h
  exact h.mono fun e w' ⟨h1, h2⟩ => ⟨h1, h2.symm⟩

set_option maxHeartbeats 1000000 in
theorem insNone_any (f : Value) (cc : Nat) (a : Option Addr) (w : World) :
    Calls Try.prog 138 #[.slice a 0 cc, .int .i64 0, .int .i64 0, f] w fun e w' => e = .returned (.tuple #[]) ∧ w = w' := by
  go_enter Try.func138, Try.ntmps138
  go_wp2
  refine wp_loop_rounds 1 ?_
  rw [rounds_succ]
  go_wp2
  go_end0
  exact ⟨rfl, rfl⟩

set_option maxHeartbeats 1000000 in
theorem pdqSmall_any {R : World → Prop} (f : Value) (n cc : Nat) (a : Option Addr) (L : Int) (w : World) (hn : n ≤ 12)
    (h : Calls Try.prog 138 #[.slice a n cc, .int .i64 0, .int .i64 n, f] w fun e w' => e = .returned (.tuple #[]) ∧ R w') :
    Calls Try.prog 107 #[.slice a n cc, .int .i64 0, .int .i64 n, .int .i64 L, f] w fun e w' => e = .returned (.tuple #[]) ∧ R w' := by
  have H := Lib.hid h
  clear h
  go_enter Try.func107, Try.ntmps107
  go_wp2
  refine wp_loop_rounds 1 ?_
  rw [rounds_succ]
  go_wp2_with fail
  refine H.out.mono ?_
  rintro e w1 ⟨rfl, hr⟩
  have HR := Lib.hid hr
  clear hr
  go_wp2
  exact bodyPost_ret (results_none rfl _ _ _) rfl ⟨rfl, HR.out⟩

set_option maxHeartbeats 1000000 in
theorem sortSmall_any {R : World → Prop} (f : Value) (n cc : Nat) (a : Option Addr) (w : World) (hn : n ≤ 12)
    (h : Calls Try.prog 138 #[.slice a n cc, .int .i64 0, .int .i64 n, f] w fun e w' => e = .returned (.tuple #[]) ∧ R w') :
    Calls Try.prog 72 #[.slice a n cc, f] w fun e w' => e = .returned (.tuple #[]) ∧ R w' := by
  have H := Lib.hid h
  clear h
  have wr : IntKind.u64.wrap (n : Int) = n := by simp [IntKind.wrap, IntKind.bits, IntKind.signed]; omega
  go_enter Try.func72, Try.ntmps72
  go_wp2_with fail
  refine (bitsLen_any n w (by omega)).mono ?_
  rintro e w1 ⟨rfl, rfl⟩
  go_wp2_with fail
  refine (pdqSmall_any f n cc a _ w hn H.out).mono ?_
  rintro e w1 ⟨rfl, hr⟩
  have HR := Lib.hid hr
  clear hr
  go_wp2
  go_end0
  exact ⟨rfl, HR.out⟩

end Go.Proofs.Ytmpmjkbjnklgfaa
