/- Opening the arguments of laws: integers, configurations, slices of integers. -/
import Derived.Test.YtmpmjkbjnklgfaaRows
import Derived.Test.YtmpmjkbjnklgfaaB4
import Derived.ProofKit
import Derived.OpenShut
import Derived.ShutString
import Derived.ChangeOld
import Derived.Lib.SmallJoins
namespace Go.Proofs.Ytmpmjkbjnklgfaa
open Go.ChangeShapes Go.WideShapes Go.ChangeAt Go.RowKit Go.Joins
open Go.ChangeMaps (open_string shut_string)
set_option linter.unusedVariables false
set_option linter.unusedSimpArgs false

theorem own : ownKnob Try.prog.godebug = none := by kernel_rfl
theorem laidOut : laidOutB Try.prog = true := by kernel_rfl
theorem cells_Conf : Try.prog.cellsOf 23 = 7 := by kernel_rfl
theorem cells_int : Try.prog.cellsOf 3 = 1 := by kernel_rfl

section
variable {H : Type} {enc : TypeId × Value → H} {W : World} {r : Reach} {base : Nat} {d : DataW H} {p : List MemPlace} {v : Value}

theorem array7 {α : Type} {cs : Array α} (h : cs.size = 7) : ∃ c0 c1 c2 c3 c4 c5 c6, cs = #[c0, c1, c2, c3, c4, c5, c6] := by
  obtain ⟨l⟩ := cs
  match l, h with
  | [c0, c1, c2, c3, c4, c5, c6], _ => exact ⟨c0, c1, c2, c3, c4, c5, c6, rfl⟩

set_option maxRecDepth 100000 in
theorem open_conf (hv : Value.okWide Try.prog W r base 23 v) (h : DataW.Trod enc Try.prog W 0 (fun _ => true) true 23 v d p) :
    ∃ wk bl rg qu ou sl fr : Int, v = .agg (confV wk bl rg qu ou sl fr) := by
  obtain ⟨cs, rfl, hsz⟩ := okWide_struct Try.underlying23 hv
  obtain ⟨c0, c1, c2, c3, c4, c5, c6, rfl⟩ := array7 (hsz.trans cells_Conf)
  obtain ⟨fuel, hf⟩ := h
  obtain ⟨xs, n, _, _, _, hlen, hx⟩ := DataW.trod_struct Try.underlying23 hf
  have key : ∀ i : Nat, i < 7 → ∃ m : Int, (#[c0, c1, c2, c3, c4, c5, c6] : Array Value)[i]? = some (.int .i64 m) := by
    intro i hi
    have hlen' : xs.length = 7 := hlen
    obtain ⟨y, hy⟩ : ∃ y, xs[i]? = some y := ⟨xs[i]'(by omega), by simp⟩
    match i, hi with
    | 0, _ => have this := hx 0; simp only [List.getElem?_toArray, List.getElem?_cons_zero, List.getElem?_cons_succ, Option.some.injEq, forall_eq', cells_int, hy] at this; obtain ⟨m, e, _⟩ := DataW.trod_int Try.underlying3 this; simp [Value.cells] at e; exact ⟨m, by simp [e]⟩
    | 1, _ => have this := hx 1; simp only [List.getElem?_toArray, List.getElem?_cons_zero, List.getElem?_cons_succ, Option.some.injEq, forall_eq', cells_int, hy] at this; obtain ⟨m, e, _⟩ := DataW.trod_int Try.underlying3 this; simp [Value.cells] at e; exact ⟨m, by simp [e]⟩
    | 2, _ => have this := hx 2; simp only [List.getElem?_toArray, List.getElem?_cons_zero, List.getElem?_cons_succ, Option.some.injEq, forall_eq', cells_int, hy] at this; obtain ⟨m, e, _⟩ := DataW.trod_int Try.underlying3 this; simp [Value.cells] at e; exact ⟨m, by simp [e]⟩
    | 3, _ => have this := hx 3; simp only [List.getElem?_toArray, List.getElem?_cons_zero, List.getElem?_cons_succ, Option.some.injEq, forall_eq', cells_int, hy] at this; obtain ⟨m, e, _⟩ := DataW.trod_int Try.underlying3 this; simp [Value.cells] at e; exact ⟨m, by simp [e]⟩
    | 4, _ => have this := hx 4; simp only [List.getElem?_toArray, List.getElem?_cons_zero, List.getElem?_cons_succ, Option.some.injEq, forall_eq', cells_int, hy] at this; obtain ⟨m, e, _⟩ := DataW.trod_int Try.underlying3 this; simp [Value.cells] at e; exact ⟨m, by simp [e]⟩
    | 5, _ => have this := hx 5; simp only [List.getElem?_toArray, List.getElem?_cons_zero, List.getElem?_cons_succ, Option.some.injEq, forall_eq', cells_int, hy] at this; obtain ⟨m, e, _⟩ := DataW.trod_int Try.underlying3 this; simp [Value.cells] at e; exact ⟨m, by simp [e]⟩
    | 6, _ => have this := hx 6; simp only [List.getElem?_toArray, List.getElem?_cons_zero, List.getElem?_cons_succ, Option.some.injEq, forall_eq', cells_int, hy] at this; obtain ⟨m, e, _⟩ := DataW.trod_int Try.underlying3 this; simp [Value.cells] at e; exact ⟨m, by simp [e]⟩
  obtain ⟨m0, e0⟩ := key 0 (by omega)
  obtain ⟨m1, e1⟩ := key 1 (by omega)
  obtain ⟨m2, e2⟩ := key 2 (by omega)
  obtain ⟨m3, e3⟩ := key 3 (by omega)
  obtain ⟨m4, e4⟩ := key 4 (by omega)
  obtain ⟨m5, e5⟩ := key 5 (by omega)
  obtain ⟨m6, e6⟩ := key 6 (by omega)
  simp at e0 e1 e2 e3 e4 e5 e6
  exact ⟨m0, m1, m2, m3, m4, m5, m6, by rw [e0, e1, e2, e3, e4, e5, e6]⟩

set_option maxRecDepth 100000 in
theorem open_i64 (hv : Value.okWide Try.prog W r base 3 v) (h : DataW.Trod enc Try.prog W 0 (fun _ => true) true 3 v d p) :
    ∃ n : Int, v = .int .i64 n ∧ -9223372036854775808 ≤ n ∧ n ≤ 9223372036854775807 := by
  obtain ⟨n, rfl, _, _, hw⟩ := open_int Try.underlying3 hv h
  refine ⟨n, rfl, ?_⟩
  simp [Lit.wf, IntKind.min, IntKind.max, IntKind.signed, IntKind.bits] at hw
  omega

set_option maxRecDepth 100000 in
theorem open_sl_i64 (hv : Value.okWide Try.prog W r base 24 v) (h : DataW.Trod enc Try.prog W 0 (fun _ => true) true 24 v d p) :
    ∃ (a : Option Addr) (len cap : Nat) (zs : List Int), v = .slice a len cap ∧ Sl1 (Value.int .i64) W a len zs := by
  obtain ⟨a, len, cap, rfl⟩ := okWide_slice Try.underlying24 hv
  refine ⟨a, len, cap, ?_⟩
  obtain ⟨fuel, hf⟩ := h
  rcases open_ints Try.underlying24 Try.underlying3 (by kernel_rfl) hf with ⟨hcs, _⟩ | ⟨x, l, c, zs, hcs, _, hl, hm, hz, _, hcell, hwz⟩
  · simp [Value.cells] at hcs
    obtain ⟨rfl, rfl, rfl⟩ := hcs
    exact ⟨[], rfl, rfl, .inl rfl⟩
  · simp [Value.cells] at hcs
    obtain ⟨rfl, rfl, rfl⟩ := hcs
    have hz' : zs.length = cap := by simpa using hz
    refine ⟨zs.take len, rfl, by simp; omega, ?_⟩
    by_cases h0 : len = 0
    · exact .inl h0
    · right
      obtain ⟨b, off, spot⟩ := x
      have hc := hcell 0 (by omega)
      have hspot : spot = none := by simpa [Addr.add] using World.cell?_spot hc
      subst hspot
      refine ⟨b, off, rfl, ?_, ?_⟩
      · have := World.block_lt_of_cell? W _ hc
        simpa [Addr.add] using this
      · intro i x hx
        have hi : i < len := by have := (List.getElem?_eq_some_iff.1 hx).1; simp at this; omega
        have h1 := hcell i (by omega)
        rw [Addr.add_lit] at h1
        rw [h1]
        rw [List.getElem?_take, if_pos hi] at hx
        simp [hx]
end

end Go.Proofs.Ytmpmjkbjnklgfaa
