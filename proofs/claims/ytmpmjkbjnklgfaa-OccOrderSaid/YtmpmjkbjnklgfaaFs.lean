/- Opening the arguments of laws: sets, slices of bytes, hits, slices of hits. -/
import Derived.Test.YtmpmjkbjnklgfaaFr
import Derived.Test.YtmpmjkbjnklgfaaO3
import Derived.Deep.Matrix
namespace Go.Proofs.Ytmpmjkbjnklgfaa
open Go.ChangeShapes Go.WideShapes Go.ChangeAt Go.RowKit Go.Joins Go.Deep
set_option linter.unusedVariables false
set_option linter.unusedSimpArgs false
set_option maxRecDepth 100000

theorem cells_Hit : Try.prog.cellsOf 43 = 2 := by kernel_rfl
theorem cells_Set : Try.prog.cellsOf 39 = 2 := by kernel_rfl
theorem cells_bool : Try.prog.cellsOf 4 = 1 := by kernel_rfl
theorem cells_u8 : Try.prog.cellsOf 5 = 1 := by kernel_rfl
theorem cells_u8s : Try.prog.cellsOf 40 = 1 := by kernel_rfl
theorem cells_wds : Try.prog.cellsOf 37 = 1 := by kernel_rfl
theorem wf_i64 {n : Int} (h : (Lit.int .i64 n).wf = true) : I64 n := by
  simp [Lit.wf, IntKind.min, IntKind.max, IntKind.signed, IntKind.bits] at h
  exact ⟨by omega, by omega⟩
theorem wf_u8 {n : Int} (h : (Lit.int .u8 n).wf = true) : 0 ≤ n ∧ n ≤ 255 := by
  simp [Lit.wf, IntKind.min, IntKind.max, IntKind.signed, IntKind.bits] at h
  omega

section
variable {H : Type} {enc : TypeId × Value → H} {W : World} {r : Reach} {base : Nat} {d : DataW H} {p : List MemPlace} {v : Value}

/-- The two cells of a hit, read. -/
theorem hit_cells {fuel : Nat} {cs : List Value} {x : DataW H × List MemPlace} (h : DataW.trod enc Try.prog W 0 (fun _ => true) true fuel 43 cs = some x) : ∃ e k : Int, cs = [.int .i64 e, .int .i64 k] ∧ I64 e ∧ I64 k := by
  obtain ⟨xs, n, _, _, hl, hlen, hx⟩ := DataW.trod_struct Try.underlying43 h
  rw [cells_Hit] at hl
  match cs, hl with
  | [c0, c1], _ =>
    have hlen' : xs.length = 2 := hlen
    obtain ⟨y0, hy0⟩ : ∃ y, xs[0]? = some y := ⟨xs[0]'(by omega), by simp⟩
    obtain ⟨y1, hy1⟩ : ∃ y, xs[1]? = some y := ⟨xs[1]'(by omega), by simp⟩
    have h0 := hx 0
    simp only [List.getElem?_toArray, List.getElem?_cons_zero, List.getElem?_cons_succ, Option.some.injEq, forall_eq', cells_int, hy0] at h0
    obtain ⟨e, e0, _, w0⟩ := DataW.trod_int Try.underlying3 h0
    have h1 := hx 1
    simp only [List.getElem?_toArray, List.getElem?_cons_zero, List.getElem?_cons_succ, Option.some.injEq, forall_eq', cells_int, hy1] at h1
    obtain ⟨k, e1, _, w1⟩ := DataW.trod_int Try.underlying3 h1
    simp at e0 e1
    exact ⟨e, k, by rw [e0, e1], wf_i64 w0, wf_i64 w1⟩

theorem open_hit (hv : Value.okWide Try.prog W r base 43 v) (h : DataW.Trod enc Try.prog W 0 (fun _ => true) true 43 v d p) :
    ∃ e k : Int, v = .agg #[.int .i64 e, .int .i64 k] ∧ I64 e ∧ I64 k := by
  obtain ⟨cs, rfl, hsz⟩ := okWide_struct Try.underlying43 hv
  obtain ⟨fuel, hf⟩ := h
  obtain ⟨e, k, hc, he, hk⟩ := hit_cells hf
  refine ⟨e, k, ?_, he, hk⟩
  obtain ⟨l⟩ := cs
  simp [Value.cells] at hc
  rw [hc]

theorem open_sl_hit (hv : Value.okWide Try.prog W r base 41 v) (h : DataW.Trod enc Try.prog W 0 (fun _ => true) true 41 v d p) :
    ∃ (a : Option Addr) (len cap : Nat) (l : List HitP), v = .slice a len cap ∧ Hts W a len l ∧ len ≤ cap ∧ cap ≤ maxLen := by
  obtain ⟨a, len, cap, rfl⟩ := okWide_slice Try.underlying41 hv
  obtain ⟨fuel, hf⟩ := h
  rcases open_slice Try.underlying41 hf with ⟨hcs, _⟩ | ⟨x, l, c, m, n, D, Pl, hcs, _, hl, hm, hmm, _, hi⟩
  · simp [Value.cells] at hcs
    obtain ⟨rfl, rfl, rfl⟩ := hcs
    exact ⟨none, 0, 0, [], rfl, ⟨⟨rfl, .inl rfl⟩, by simp⟩, Nat.le_refl _, by unfold maxLen; omega⟩
  · simp [Value.cells] at hcs
    obtain ⟨rfl, rfl, rfl⟩ := hcs
    simp only [if_true] at hmm
    subst hmm
    rw [cells_Hit] at hi
    have each : ∀ i, i < m → ∃ q : HitP, (W.cell? ((x.add (i * 2)).add 0) = some (.int .i64 q.1) ∧ W.cell? ((x.add (i * 2)).add 1) = some (.int .i64 q.2)) ∧ I64 q.1 ∧ I64 q.2 := by
      intro i him
      obtain ⟨cs', hc, ht⟩ := hi i him
      obtain ⟨_, hlen, hat⟩ := World.cells?_some hc
      obtain ⟨e, k, rfl, he, hk⟩ := hit_cells ht
      have h0 := hat 0 (by omega)
      have h1 := hat 1 (by omega)
      exact ⟨(e, k), ⟨by simpa using h0, by simpa using h1⟩, he, hk⟩
    let f : Nat → HitP := fun i => if hi : i < m then Classical.choose (each i hi) else (0, 0)
    have hf' : ∀ i, i < m → (W.cell? ((x.add (i * 2)).add 0) = some (.int .i64 (f i).1) ∧ W.cell? ((x.add (i * 2)).add 1) = some (.int .i64 (f i).2)) ∧ I64 (f i).1 ∧ I64 (f i).2 := by
      intro i hi
      have e : f i = Classical.choose (each i hi) := by simp only [f, dif_pos hi]
      rw [e]
      exact Classical.choose_spec (each i hi)
    refine ⟨_, len, _, (List.range len).map f, rfl, ⟨⟨by rw [hcells_length]; simp, ?_⟩, fun q hq => ?_⟩, hl, hm⟩
    · by_cases h0 : len = 0
      · exact .inl h0
      · right
        obtain ⟨b, off, spot⟩ := x
        have hc := (hf' 0 (by omega)).1.1
        obtain rfl : spot = none := by simpa [Addr.add] using World.cell?_spot hc
        refine ⟨b, off, rfl, ?_, fun i u hu => ?_⟩
        · have := World.block_lt_of_cell? W _ hc
          rwa [add_plain, add_plain] at this
        · have hil := (List.getElem?_eq_some_iff.1 hu).1
          rw [hcells_length] at hil
          simp at hil
          obtain ⟨j, hj⟩ : ∃ j, i = j * 2 ∨ i = j * 2 + 1 := ⟨i / 2, by omega⟩
          have hjl : j < len := by omega
          have hx : ((List.range len).map f)[j]? = some (f j) := by simp [hjl]
          obtain ⟨d0, d1⟩ := hcells_at hx
          obtain ⟨⟨g0, g1⟩, _⟩ := hf' j (by omega)
          rw [add_plain, add_plain, Nat.add_zero] at g0
          rw [add_plain, add_plain] at g1
          rcases hj with rfl | rfl
          · rw [d0] at hu
            rw [← Option.some.inj hu]
            exact g0
          · rw [d1] at hu
            rw [← Option.some.inj hu, ← Nat.add_assoc]
            exact g1
    · simp only [List.mem_map, List.mem_range] at hq
      obtain ⟨i, hi, rfl⟩ := hq
      exact (hf' i (by omega)).2

theorem open_sl_u8 (hv : Value.okWide Try.prog W r base 40 v) (h : DataW.Trod enc Try.prog W 0 (fun _ => true) true 40 v d p) :
    ∃ (a : Option Addr) (len cap : Nat) (zs : List Int), v = .slice a len cap ∧ Bys W a len zs ∧ len ≤ cap ∧ cap ≤ maxLen := by
  obtain ⟨a, len, cap, rfl⟩ := okWide_slice Try.underlying40 hv
  obtain ⟨fuel, hf⟩ := h
  rcases open_ints Try.underlying40 Try.underlying5 (by kernel_rfl) hf with ⟨hcs, _⟩ | ⟨x, l, c, zs, hcs, _, hl, hm, hz, _, hcell, hwz⟩
  · simp [Value.cells] at hcs
    obtain ⟨rfl, rfl, rfl⟩ := hcs
    exact ⟨none, 0, 0, [], rfl, Bys.nil _ _, Nat.le_refl _, by unfold maxLen; omega⟩
  · simp [Value.cells] at hcs
    obtain ⟨rfl, rfl, rfl⟩ := hcs
    have hz' : zs.length = cap := by simpa using hz
    refine ⟨_, len, _, zs.take len, rfl, ⟨⟨by simp; omega, ?_⟩, fun n hn => wf_u8 (hwz n (List.mem_of_mem_take hn))⟩, hl, hm⟩
    by_cases h0 : len = 0
    · exact .inl h0
    · right
      obtain ⟨b, off, spot⟩ := x
      have hc := hcell 0 (by omega)
      obtain rfl : spot = none := by simpa [Addr.add] using World.cell?_spot hc
      refine ⟨b, off, rfl, ?_, fun i u hu => ?_⟩
      · have := World.block_lt_of_cell? W _ hc
        rwa [add_plain] at this
      · have hi : i < len := by have := (List.getElem?_eq_some_iff.1 hu).1; simp at this; omega
        have h1 := hcell i (by omega)
        rw [add_plain] at h1
        rw [h1]
        rw [List.getElem?_take, if_pos hi] at hu
        simp [hu]

/-- The cells of a row of texts, read. -/
theorem wds_cells {fuel : Nat} {v : Value} {x : DataW H × List MemPlace} (h : DataW.trod enc Try.prog W 0 (fun _ => true) true fuel 37 [v] = some x) : ∃ (a : Option Addr) (len cap : Nat) (wss : List (List Int)), v = .slice a len cap ∧ Wds W a len wss ∧ len ≤ cap ∧ cap ≤ maxLen := by
  rcases open_int_rows Try.underlying37 Try.underlying40 Try.underlying5 cells_u8s cells_u8 h with ⟨hcs, _⟩ | ⟨x, len, cap, A, L, C, Z, hcs, _, hl, hm, _, hi⟩
  · simp at hcs
    exact ⟨none, 0, 0, [], hcs, ⟨[], ⟨rfl, .inl rfl⟩, rfl, fun i v xs h => by simp at h⟩, Nat.le_refl _, by unfold maxLen; omega⟩
  · simp at hcs
    refine ⟨some x, len, cap, (List.range len).map fun i => (Z i).take (L i), hcs, ⟨(List.range len).map fun i => (A i, L i, C i), ⟨by simp, ?_⟩, by simp, fun i v xs hv hx => ?_⟩, hl, hm⟩
    · by_cases h0 : len = 0
      · exact .inl h0
      · right
        obtain ⟨b, off, spot⟩ := x
        have hc := (hi 0 (by omega)).1
        obtain rfl : spot = none := by simpa [Addr.add] using World.cell?_spot hc
        refine ⟨b, off, rfl, ?_, fun i u hu => ?_⟩
        · have := World.block_lt_of_cell? W _ hc
          rwa [add_plain] at this
        · have hil : i < len := by have := (List.getElem?_eq_some_iff.1 hu).1; simpa using this
          simp [hil] at hu
          have h1 := (hi i (by omega)).1
          rw [add_plain] at h1
          rw [h1, ← hu]
    · have hil : i < len := by have := (List.getElem?_eq_some_iff.1 hv).1; simpa using this
      simp [hil] at hv hx
      subst hv hx
      obtain ⟨_, hLC, hCm, hZ, hwf, hAn, hA⟩ := hi i (by omega)
      refine ⟨⟨⟨by simp; omega, ?_⟩, fun n hn => wf_u8 (hwf n (List.mem_of_mem_take hn))⟩, hLC⟩
      by_cases h0 : L i = 0
      · exact .inl h0
      · right
        cases hAi : A i with
        | none => have := hAn hAi; omega
        | some y =>
          obtain ⟨_, hc⟩ := hA y hAi
          obtain ⟨b, off, spot⟩ := y
          have hc0 := hc 0 (by omega)
          obtain rfl : spot = none := by simpa [Addr.add] using World.cell?_spot hc0
          refine ⟨b, off, rfl, ?_, fun j u hu => ?_⟩
          · have := World.block_lt_of_cell? W _ hc0
            rwa [add_plain] at this
          · have hj : j < L i := by have := (List.getElem?_eq_some_iff.1 hu).1; simp at this; omega
            have h1 := hc j (by omega)
            rw [add_plain] at h1
            rw [h1]
            rw [List.getElem?_take, if_pos hj] at hu
            simp [hu]

theorem open_set (hv : Value.okWide Try.prog W r base 39 v) (h : DataW.Trod enc Try.prog W 0 (fun _ => true) true 39 v d p) :
    ∃ (fold : Bool) (a : Option Addr) (len cap : Nat) (wss : List (List Int)), v = .agg #[.bool fold, .slice a len cap] ∧ Wds W a len wss ∧ len ≤ cap ∧ cap ≤ maxLen := by
  obtain ⟨cs, rfl, hsz⟩ := okWide_struct Try.underlying39 hv
  obtain ⟨l⟩ := cs
  match l, hsz.trans cells_Set with
  | [c0, c1], _ =>
    obtain ⟨fuel, hf⟩ := h
    obtain ⟨xs, n, _, _, _, hlen, hx⟩ := DataW.trod_struct Try.underlying39 hf
    have hlen' : xs.length = 2 := hlen
    obtain ⟨y0, hy0⟩ : ∃ y, xs[0]? = some y := ⟨xs[0]'(by omega), by simp⟩
    obtain ⟨y1, hy1⟩ : ∃ y, xs[1]? = some y := ⟨xs[1]'(by omega), by simp⟩
    have h0 := hx 0
    simp only [List.getElem?_toArray, List.getElem?_cons_zero, List.getElem?_cons_succ, Option.some.injEq, forall_eq', cells_bool, hy0] at h0
    obtain ⟨b, e0, _⟩ := DataW.trod_bool Try.underlying4 h0
    have h1 := hx 1
    simp only [List.getElem?_toArray, List.getElem?_cons_zero, List.getElem?_cons_succ, Option.some.injEq, forall_eq', cells_wds, hy1] at h1
    simp [Value.cells] at e0 h1
    obtain ⟨a, len, cap, wss, e1, hw, hc, hm⟩ := wds_cells h1
    exact ⟨b, a, len, cap, wss, by rw [e0, e1], hw, hc, hm⟩
end

end Go.Proofs.Ytmpmjkbjnklgfaa
