/- Parts of the proof, one behind the other: Tk, Fs, Fw, Tp, Tq, Cp, H2, U1, U2, U3, U4, U5. No condition but what each theorem states. -/
import Derived.Deep.RegionHeld3
import Derived.Deep.Matrix
import Derived.Shelf.SlGeneric
import Derived.Shelf.SlLaysF
import Derived.Test.YtbiinfnekhhfkaaGreatProg
import Derived.Shelf.Small.Strs
import Derived.Shelf.SlSortCmp.NoneTotal
import Derived.Maps.Own
import Derived.Maps.OwnOps
import Derived.Maps.OwnSet
import Derived.Maps.Views
import Derived.StringKeys
import Derived.Deep.CutBlock
import Derived.Test.YtbiinfnekhhfkaaGreatZS1
import Derived.Test.YtbiinfnekhhfkaaGreatZS3

/- Steps of a drawn region with held cells, with what is reckoned left to Lean. -/


namespace Go.Proofs.YtbiinfnekhhfkaaGreat
open Go.RowKit Go.Sort
set_option linter.unusedVariables false

section
variable {P : Program} {md : Region.Mode} {ops : Array Oper} {Q : Exit → Act → World → Prop} {S : World → Prop}
/-- An operation that is wanted is taken first. -/
theorem tkW (i : Nat) {oi : Oper} {v : Value} {fuel : Nat} {listed : Array Bool} {a : Act} {w : World}
    (hv : ∀ w, S w → (execOp a.eval oi).run P w = .ok (.value v) w)
    (h : wpAnyH P md ops Q S fuel (listed.setIfInBounds i true) (a.put oi.dst v) w)
    (hi : ops[i]? = some oi := by (simp only [List.getElem?_toArray, List.getElem?_cons_zero, List.getElem?_cons_succ]; rfl))
    (hs : Region.noSelect ops = true := by as_aux_lemma => kernel_rfl) (hf : Region.free md ops listed i = true := by as_aux_lemma => kernel_rfl) (hr : (Region.ready md ops listed).contains i = true := by as_aux_lemma => kernel_rfl)
    (hQ : ∀ c a w, Q (.panic c) (a.put oi.dst v) w → Q (.panic c) a w := by exact fun _ _ _ h => h) (hw : Region.wanted oi (yielded ops a.tmps) = true := by rfl) (hS : S w := by assumption) : wpAnyH P md ops Q S (fuel + 1) listed a w :=
  wpAnyH_take hi hs hf hr hQ (.inl ⟨hw, hv⟩) hS h
/-- One that its guard does not want. -/
theorem tkN (i : Nat) {oi : Oper} {fuel : Nat} {listed : Array Bool} {a : Act} {w : World}
    (h : wpAnyH P md ops Q S fuel (listed.setIfInBounds i true) (a.put oi.dst undef) w)
    (hi : ops[i]? = some oi := by (simp only [List.getElem?_toArray, List.getElem?_cons_zero, List.getElem?_cons_succ]; rfl))
    (hs : Region.noSelect ops = true := by as_aux_lemma => kernel_rfl) (hf : Region.free md ops listed i = true := by as_aux_lemma => kernel_rfl) (hr : (Region.ready md ops listed).contains i = true := by as_aux_lemma => kernel_rfl)
    (hQ : ∀ c a w, Q (.panic c) (a.put oi.dst undef) w → Q (.panic c) a w := by exact fun _ _ _ h => h) (hw : Region.wanted oi (yielded ops a.tmps) = false := by rfl) (hS : S w := by assumption) : wpAnyH P md ops Q S (fuel + 1) listed a w :=
  wpAnyH_take hi hs hf hr hQ (.inr ⟨hw, rfl⟩) hS h
/-- .. the one whose number is c less the steps that are left. -/
theorem tkF (c : Nat) {oi : Oper} {v : Value} {fuel : Nat} {listed : Array Bool} {a : Act} {w : World}
    (hv : ∀ w, S w → (execOp a.eval oi).run P w = .ok (.value v) w)
    (h : wpAnyH P md ops Q S fuel (listed.setIfInBounds (c - fuel) true) (a.put oi.dst v) w)
    (hi : ops[c - fuel]? = some oi := by (simp only [Nat.reduceSub, List.getElem?_toArray, List.getElem?_cons_zero, List.getElem?_cons_succ]; rfl))
    (hs : Region.noSelect ops = true := by as_aux_lemma => kernel_rfl) (hf : Region.free md ops listed (c - fuel) = true := by as_aux_lemma => kernel_rfl) (hr : (Region.ready md ops listed).contains (c - fuel) = true := by as_aux_lemma => kernel_rfl)
    (hQ : ∀ c a w, Q (.panic c) (a.put oi.dst v) w → Q (.panic c) a w := by exact fun _ _ _ h => h) (hw : Region.wanted oi (yielded ops a.tmps) = true := by rfl) (hS : S w := by assumption) : wpAnyH P md ops Q S (fuel + 1) listed a w :=
  wpAnyH_take hi hs hf hr hQ (.inl ⟨hw, hv⟩) hS h
/-- One operation that is ready alone. -/
theorem rdy (i : Nat) {oi : Oper} {fuel : Nat} {listed : Array Bool} {a : Act} {w : World}
    (h : ∀ K' : Act → World → Prop, Shut (∀ a w, S w → (S w → wpAnyH P md ops Q S fuel (listed.setIfInBounds i true) a w) → K' a w) → if Region.wanted oi (yielded ops a.tmps) = true then Oper.wp P oi a w K' Q else K' (a.put oi.dst undef) w)
    (hi : ops[i]? = some oi := by (simp only [List.getElem?_toArray, List.getElem?_cons_zero, List.getElem?_cons_succ]; rfl)) (hr : Region.ready md ops listed = [i] := by as_aux_lemma => kernel_rfl) : wpAnyH P md ops Q S (fuel + 1) listed a w :=
  wpAnyH_ready (rs := [i]) hr (by simp) (AllReadyH.cons hi h AllReadyH.nil)
end
section
variable {α : Type}
theorem pA (l : List α) (i : Nat) (a : α) : l.toArray.setIfInBounds i a = (l.set i a).toArray := by simp
theorem pB (a b : α) (l : List α) : (a :: l).set 0 b = b :: l := rfl
theorem pC (a b : α) (l : List α) (n : Nat) : (a :: l).set (n + 1) b = a :: l.set n b := rfl
theorem pD (l : List α) (i : Nat) : l.toArray[i]? = l[i]? := by simp
theorem pE (a : α) (l : List α) : (a :: l)[0]? = some a := rfl
theorem pF (a : α) (l : List α) (n : Nat) : (a :: l)[n + 1]? = l[n]? := rfl
end
end Go.Proofs.YtbiinfnekhhfkaaGreat

/- Opening the arguments of laws: sets, slices of bytes, hits, slices of hits. -/




namespace Go.Proofs.YtbiinfnekhhfkaaGreat
open Go.ChangeShapes Go.WideShapes Go.ChangeAt Go.RowKit Go.Joins Go.Deep
set_option linter.unusedVariables false
set_option linter.unusedSimpArgs false
set_option maxRecDepth 100000

theorem cells_Set : Tryz.prog.cellsOf 24 = 2 := by kernel_rfl
theorem cells_bool : Tryz.prog.cellsOf 4 = 1 := by kernel_rfl
theorem cells_u8 : Tryz.prog.cellsOf 5 = 1 := by kernel_rfl
theorem cells_u8s : Tryz.prog.cellsOf 25 = 1 := by kernel_rfl
theorem cells_wds : Tryz.prog.cellsOf 22 = 1 := by kernel_rfl
theorem wf_i64 {n : Int} (h : (Lit.int .i64 n).wf = true) : I64 n := by
  simp [Lit.wf, IntKind.min, IntKind.max, IntKind.signed, IntKind.bits] at h
  exact ⟨by omega, by omega⟩
theorem wf_u8 {n : Int} (h : (Lit.int .u8 n).wf = true) : 0 ≤ n ∧ n ≤ 255 := by
  simp [Lit.wf, IntKind.min, IntKind.max, IntKind.signed, IntKind.bits] at h
  omega

section
variable {H : Type} {enc : TypeId × Value → H} {W : World} {r : Reach} {base : Nat} {d : DataW H} {p : List MemPlace} {v : Value}

/-- The cells of a row of texts, read. -/
theorem wds_cells {fuel : Nat} {v : Value} {x : DataW H × List MemPlace} (h : DataW.trod enc Tryz.prog W 0 (fun _ => true) true fuel 22 [v] = some x) : ∃ (a : Option Addr) (len cap : Nat) (wss : List (List Int)), v = .slice a len cap ∧ Wds W a len wss ∧ len ≤ cap ∧ cap ≤ maxLen := by
  rcases open_int_rows Tryz.underlying22 Tryz.underlying25 Tryz.underlying5 cells_u8s cells_u8 h with ⟨hcs, _⟩ | ⟨x, len, cap, A, L, C, Z, hcs, _, hl, hm, _, hi⟩
  · simp at hcs
    exact ⟨none, 0, 0, [], hcs, ⟨[], ⟨rfl, .inl rfl⟩, rfl, fun i v xs h => by simp at h⟩, Nat.le_refl _, by unfold maxLen; omega⟩
  · simp at hcs
    refine ⟨some x, len, cap, (List.range len).map fun i => (Z i).take (L i), hcs, ⟨(List.range len).map fun i => (A i, L i, C i), ⟨by simp, ?_⟩, by simp, fun i v xs hv hx => ?_⟩, hl, hm⟩
    · by_cases h0 : len = 0
      · exact .inl h0
      · right
        obtain ⟨b, off, spot⟩ := x
        have hc := (hi 0 (by omega)).1
        obtain rfl : spot = none := by simpa [Addr.add] using World.cell?_spot hc
        refine ⟨b, off, rfl, ?_, fun i u hu => ?_⟩
        · have := World.block_lt_of_cell? W _ hc
          rwa [add_plain] at this
        · have hil : i < len := by have := (List.getElem?_eq_some_iff.1 hu).1; simpa using this
          simp [hil] at hu
          have h1 := (hi i (by omega)).1
          rw [add_plain] at h1
          rw [h1, ← hu]
    · have hil : i < len := by have := (List.getElem?_eq_some_iff.1 hv).1; simpa using this
      simp [hil] at hv hx
      subst hv hx
      obtain ⟨_, hLC, hCm, hZ, hwf, hAn, hA⟩ := hi i (by omega)
      refine ⟨⟨⟨by simp; omega, ?_⟩, fun n hn => wf_u8 (hwf n (List.mem_of_mem_take hn))⟩, hLC⟩
      by_cases h0 : L i = 0
      · exact .inl h0
      · right
        cases hAi : A i with
        | none => have := hAn hAi; omega
        | some y =>
          obtain ⟨_, hc⟩ := hA y hAi
          obtain ⟨b, off, spot⟩ := y
          have hc0 := hc 0 (by omega)
          obtain rfl : spot = none := by simpa [Addr.add] using World.cell?_spot hc0
          refine ⟨b, off, rfl, ?_, fun j u hu => ?_⟩
          · have := World.block_lt_of_cell? W _ hc0
            rwa [add_plain] at this
          · have hj : j < L i := by have := (List.getElem?_eq_some_iff.1 hu).1; simp at this; omega
            have h1 := hc j (by omega)
            rw [add_plain] at h1
            rw [h1]
            rw [List.getElem?_take, if_pos hj] at hu
            simp [hu]

theorem open_set (hv : Value.okWide Tryz.prog W r base 24 v) (h : DataW.Trod enc Tryz.prog W 0 (fun _ => true) true 24 v d p) :
    ∃ (fold : Bool) (a : Option Addr) (len cap : Nat) (wss : List (List Int)), v = .agg #[.bool fold, .slice a len cap] ∧ Wds W a len wss ∧ len ≤ cap ∧ cap ≤ maxLen := by
  obtain ⟨cs, rfl, hsz⟩ := okWide_struct Tryz.underlying24 hv
  obtain ⟨l⟩ := cs
  match l, hsz.trans cells_Set with
  | [c0, c1], _ =>
    obtain ⟨fuel, hf⟩ := h
    obtain ⟨xs, n, _, _, _, hlen, hx⟩ := DataW.trod_struct Tryz.underlying24 hf
    have hlen' : xs.length = 2 := hlen
    obtain ⟨y0, hy0⟩ : ∃ y, xs[0]? = some y := ⟨xs[0]'(by omega), by simp⟩
    obtain ⟨y1, hy1⟩ : ∃ y, xs[1]? = some y := ⟨xs[1]'(by omega), by simp⟩
    have h0 := hx 0
    simp only [pD, pE, pF, Option.some.injEq, forall_eq', cells_bool, hy0] at h0
    obtain ⟨b, e0, _⟩ := DataW.trod_bool Tryz.underlying4 h0
    have h1 := hx 1
    simp only [pD, pE, pF, Option.some.injEq, forall_eq', cells_wds, hy1] at h1
    simp [Value.cells] at e0 h1
    obtain ⟨a, len, cap, wss, e1, hw, hc, hm⟩ := wds_cells h1
    exact ⟨b, a, len, cap, wss, by rw [e0, e1], hw, hc, hm⟩
end

end Go.Proofs.YtbiinfnekhhfkaaGreat

/- Opening the arguments of laws: rows of texts, scans. -/


namespace Go.Proofs.YtbiinfnekhhfkaaGreat
open Go.ChangeShapes Go.WideShapes Go.ChangeAt Go.RowKit Go.Joins Go.Deep
set_option linter.unusedVariables false
set_option linter.unusedSimpArgs false
set_option maxRecDepth 100000

theorem cells_Scan : Tryz.prog.cellsOf 88 = 2 := by kernel_rfl

section
variable {H : Type} {enc : TypeId × Value → H} {W : World} {r : Reach} {base : Nat} {d : DataW H} {p : List MemPlace} {v : Value}

theorem scan_cells {fuel : Nat} {cs : List Value} {x : DataW H × List MemPlace} (h : DataW.trod enc Tryz.prog W 0 (fun _ => true) true fuel 88 cs = some x) : ∃ e k : Int, cs = [.int .i64 e, .int .i64 k] ∧ I64 e ∧ I64 k := by
  obtain ⟨xs, n, _, _, hl, hlen, hx⟩ := DataW.trod_struct Tryz.underlying88 h
  rw [cells_Scan] at hl
  match cs, hl with
  | [c0, c1], _ =>
    have hlen' : xs.length = 2 := hlen
    obtain ⟨y0, hy0⟩ : ∃ y, xs[0]? = some y := ⟨xs[0]'(by omega), by simp⟩
    obtain ⟨y1, hy1⟩ : ∃ y, xs[1]? = some y := ⟨xs[1]'(by omega), by simp⟩
    have h0 := hx 0
    simp only [pD, pE, pF, Option.some.injEq, forall_eq', cells_int, hy0] at h0
    obtain ⟨e, e0, _, w0⟩ := DataW.trod_int Tryz.underlying3 h0
    have h1 := hx 1
    simp only [pD, pE, pF, Option.some.injEq, forall_eq', cells_int, hy1] at h1
    obtain ⟨k, e1, _, w1⟩ := DataW.trod_int Tryz.underlying3 h1
    simp at e0 e1
    exact ⟨e, k, by rw [e0, e1], wf_i64 w0, wf_i64 w1⟩

theorem open_scan (hv : Value.okWide Tryz.prog W r base 88 v) (h : DataW.Trod enc Tryz.prog W 0 (fun _ => true) true 88 v d p) :
    ∃ e k : Int, v = .agg #[.int .i64 e, .int .i64 k] ∧ I64 e ∧ I64 k := by
  obtain ⟨cs, rfl, hsz⟩ := okWide_struct Tryz.underlying88 hv
  obtain ⟨fuel, hf⟩ := h
  obtain ⟨e, k, hc, he, hk⟩ := scan_cells hf
  refine ⟨e, k, ?_, he, hk⟩
  obtain ⟨l⟩ := cs
  simp [Value.cells] at hc
  rw [hc]


theorem open_wds (hv : Value.okWide Tryz.prog W r base 22 v) (h : DataW.Trod enc Tryz.prog W 0 (fun _ => true) true 22 v d p) :
    ∃ (a : Option Addr) (len cap : Nat) (wss : List (List Int)), v = .slice a len cap ∧ Wds W a len wss ∧ len ≤ cap ∧ cap ≤ maxLen := by
  obtain ⟨a, len, cap, rfl⟩ := okWide_slice Tryz.underlying22 hv
  obtain ⟨fuel, hf⟩ := h
  have e : Value.cells (.slice a len cap) = #[.slice a len cap] := rfl
  exact wds_cells hf
end
end Go.Proofs.YtbiinfnekhhfkaaGreat

/- Plain words of layer 7: the beginnings of words in order, the trie of words. -/

namespace Go.Proofs.YtbiinfnekhhfkaaGreat
set_option linter.unusedVariables false

/-- Of one length: lesser in the first byte in which they differ. -/
def lexB : List Int → List Int → Bool
  | x :: xs, y :: ys => if x < y then true else if y < x then false else lexB xs ys
  | _, _ => false
def ltS (x y : List Int) : Bool := if x.length < y.length then true else if y.length < x.length then false else lexB x y
theorem lexB_irrefl : ∀ x, lexB x x = false
  | [] => rfl
  | x :: xs => by simp [lexB, lexB_irrefl xs]
theorem lexB_trans : ∀ {x y z : List Int}, lexB x y = true → lexB y z = true → lexB x z = true
  | [], _, _, h, _ => by simp [lexB] at h
  | _ :: _, [], _, h, _ => by simp [lexB] at h
  | _ :: _, _ :: _, [], _, h => by simp [lexB] at h
  | x :: xs, y :: ys, z :: zs, h1, h2 => by
    have ih := lexB_trans (x := xs) (y := ys) (z := zs)
    unfold lexB at h1 h2 ⊢
    by_cases a : x < y
    · by_cases b : y < z
      · rw [if_pos (by omega)]
      · rw [if_neg b] at h2
        by_cases c : z < y
        · rw [if_pos c] at h2; cases h2
        · rw [if_pos (by omega)]
    · rw [if_neg a] at h1
      by_cases a' : y < x
      · rw [if_pos a'] at h1; cases h1
      · rw [if_neg a'] at h1
        by_cases b : y < z
        · rw [if_pos (by omega)]
        · rw [if_neg b] at h2
          by_cases c : z < y
          · rw [if_pos c] at h2; cases h2
          · rw [if_neg c] at h2
            rw [if_neg (by omega), if_neg (by omega)]
            exact ih h1 h2
theorem lexB_total : ∀ {x y : List Int}, x.length = y.length → lexB x y = false → lexB y x = false → x = y
  | [], [], _, _, _ => rfl
  | [], _ :: _, h, _, _ => by simp at h
  | _ :: _, [], h, _, _ => by simp at h
  | x :: xs, y :: ys, h, h1, h2 => by
    unfold lexB at h1 h2
    by_cases a : x < y
    · rw [if_pos a] at h1; cases h1
    · by_cases b : y < x
      · rw [if_pos b] at h2; cases h2
      · rw [if_neg a, if_neg b] at h1
        rw [if_neg b, if_neg a] at h2
        have e : x = y := by omega
        rw [e, lexB_total (by simpa using h) h1 h2]
theorem ltS_irrefl (x : List Int) : ltS x x = false := by simp [ltS, lexB_irrefl]
theorem ltS_trans {x y z : List Int} (h1 : ltS x y = true) (h2 : ltS y z = true) : ltS x z = true := by
  unfold ltS at h1 h2 ⊢
  by_cases a : x.length < y.length
  · by_cases b : y.length < z.length
    · rw [if_pos (by omega)]
    · rw [if_neg b] at h2
      by_cases c : z.length < y.length
      · rw [if_pos c] at h2; cases h2
      · rw [if_pos (by omega)]
  · rw [if_neg a] at h1
    by_cases a' : y.length < x.length
    · rw [if_pos a'] at h1; cases h1
    · rw [if_neg a'] at h1
      by_cases b : y.length < z.length
      · rw [if_pos (by omega)]
      · rw [if_neg b] at h2
        by_cases c : z.length < y.length
        · rw [if_pos c] at h2; cases h2
        · rw [if_neg c] at h2
          rw [if_neg (by omega), if_neg (by omega)]
          exact lexB_trans h1 h2
theorem ltS_asymm {x y : List Int} (h : ltS x y = true) : ltS y x = false := by
  cases e : ltS y x with
  | false => rfl
  | true => have := ltS_trans h e; rw [ltS_irrefl] at this; cases this
theorem ltS_total {x y : List Int} (h1 : ltS x y = false) (h2 : ltS y x = false) : x = y := by
  unfold ltS at h1 h2
  by_cases a : x.length < y.length
  · rw [if_pos a] at h1; cases h1
  · by_cases b : y.length < x.length
    · rw [if_pos b] at h2; cases h2
    · rw [if_neg a, if_neg b] at h1
      rw [if_neg b, if_neg a] at h2
      exact lexB_total (by omega) h1 h2
theorem ltS_len {x y : List Int} (h : ltS x y = true) : x.length ≤ y.length := by
  unfold ltS at h
  by_cases a : x.length < y.length
  · omega
  · rw [if_neg a] at h
    by_cases b : y.length < x.length
    · rw [if_pos b] at h; cases h
    · omega
abbrev SrtS (l : List (List Int)) : Prop := l.Pairwise (fun a b => ltS a b = true)
theorem SrtS.nodup {l : List (List Int)} (h : SrtS l) : l.Nodup := by
  rw [List.nodup_iff_pairwise_ne]
  exact h.imp fun hab e => by rw [e, ltS_irrefl] at hab; cases hab
/-- Two lists in order that have the same members are the same. -/
theorem srtS_unique : ∀ {l m : List (List Int)}, SrtS l → SrtS m → (∀ x, x ∈ l ↔ x ∈ m) → l = m
  | [], [], _, _, _ => rfl
  | [], b :: m, _, _, h => by have := (h b).2 (by simp); simp at this
  | a :: l, [], _, _, h => by have := (h a).1 (by simp); simp at this
  | a :: l, b :: m, h1, h2, h => by
    rw [SrtS, List.pairwise_cons] at h1 h2
    have hab : a = b := by
      have ha := (h a).1 (by simp)
      have hb := (h b).2 (by simp)
      rcases List.mem_cons.1 ha with e | ha
      · exact e
      · rcases List.mem_cons.1 hb with e | hb
        · exact e.symm
        · have g1 := h2.1 a ha
          have g2 := h1.1 b hb
          rw [ltS_asymm g1] at g2
          cases g2
    subst hab
    have hnl : a ∉ l := fun hm => by have := h1.1 a hm; rw [ltS_irrefl] at this; cases this
    have hnm : a ∉ m := fun hm => by have := h2.1 a hm; rw [ltS_irrefl] at this; cases this
    congr 1
    refine srtS_unique h1.2 h2.2 fun x => ⟨fun hx => ?_, fun hx => ?_⟩
    · rcases List.mem_cons.1 ((h x).1 (by simp [hx])) with e | hm
      · subst e; exact absurd hx hnl
      · exact hm
    · rcases List.mem_cons.1 ((h x).2 (by simp [hx])) with e | hm
      · subst e; exact absurd hx hnm
      · exact hm

/-- A list of texts in order, with one more, if it is not there (the document's way). -/
def putS (l : List (List Int)) (b : List Int) : List (List Int) :=
  match l with
  | [] => [b]
  | x :: xs => if ltS x b then x :: putS xs b else if x = b then x :: xs else b :: x :: xs
theorem mem_putS : ∀ {l : List (List Int)} {b x : List Int}, x ∈ putS l b ↔ x = b ∨ x ∈ l
  | [], b, x => by simp [putS]
  | y :: ys, b, x => by
    have ih := mem_putS (l := ys) (b := b) (x := x)
    unfold putS
    split
    · rw [List.mem_cons, ih, List.mem_cons]
      constructor
      · rintro (h | h | h)
        · exact .inr (.inl h)
        · exact .inl h
        · exact .inr (.inr h)
      · rintro (h | h | h)
        · exact .inr (.inl h)
        · exact .inl h
        · exact .inr (.inr h)
    · split
      · rename_i e
        rw [List.mem_cons]
        constructor
        · rintro (h | h)
          · exact .inl (h.trans e)
          · exact .inr (.inr h)
        · rintro (h | h | h)
          · exact .inl (h.trans e.symm)
          · exact .inl h
          · exact .inr h
      · rw [List.mem_cons, List.mem_cons]
theorem putS_srt : ∀ {l : List (List Int)} {b : List Int}, SrtS l → SrtS (putS l b)
  | [], b, _ => by simp [putS]
  | y :: ys, b, h => by
    have h' := h
    rw [SrtS, List.pairwise_cons] at h'
    have ih := putS_srt (b := b) h'.2
    unfold putS
    split
    · rename_i e
      rw [SrtS, List.pairwise_cons]
      refine ⟨fun x hx => ?_, ih⟩
      rcases mem_putS.1 hx with rfl | hx
      · exact e
      · exact h'.1 x hx
    · split
      · exact h
      · rename_i e1 e2
        rw [SrtS, List.pairwise_cons]
        have hby : ltS b y = true := by
          cases e : ltS b y with
          | true => rfl
          | false => exact absurd (ltS_total (by simpa using e1) e) e2
        refine ⟨fun x hx => ?_, h⟩
        rcases List.mem_cons.1 hx with rfl | hx
        · exact hby
        · exact ltS_trans hby (h'.1 x hx)

/-- A beginning of one of the words, or none of their bytes. -/
def IsBeg (wss : List (List Int)) (x : List Int) : Prop := x = [] ∨ ∃ w ∈ wss, ∃ k, 1 ≤ k ∧ k ≤ w.length ∧ x = w.take k
theorem IsBeg.iff {wss : List (List Int)} {x : List Int} : IsBeg wss x ↔ x = [] ∨ x ≠ [] ∧ ∃ w ∈ wss, x <+: w := by
  constructor
  · rintro (h | ⟨w, hw, k, h1, h2, rfl⟩)
    · exact .inl h
    · right
      refine ⟨fun e => ?_, w, hw, List.take_prefix _ _⟩
      have := congrArg List.length e
      rw [List.length_take, List.length_nil] at this
      omega
  · rintro (h | ⟨h0, w, hw, h⟩)
    · exact .inl h
    · right
      obtain ⟨t, rfl⟩ := h
      refine ⟨_, hw, x.length, ?_, by simp, by simp⟩
      cases x with
      | nil => exact absurd rfl h0
      | cons a b => simp
theorem IsBeg.up {wss : List (List Int)} {x : List Int} (h : IsBeg wss x) : IsBeg wss x.dropLast := by
  rw [IsBeg.iff] at h ⊢
  rcases h with rfl | ⟨h0, w, hw, hp⟩
  · exact .inl rfl
  · by_cases e : x.dropLast = []
    · exact .inl e
    · exact .inr ⟨e, w, hw, (List.dropLast_prefix x).trans hp⟩
theorem IsBeg.mono {wss vss : List (List Int)} {x : List Int} (h : IsBeg wss x) (hs : ∀ w ∈ wss, w ∈ vss) : IsBeg vss x := by
  rcases h with h | ⟨w, hw, r⟩
  · exact .inl h
  · exact .inr ⟨w, hs w hw, r⟩
/-- All the beginnings of a word, put in. -/
def putW (l : List (List Int)) (w : List Int) (k : Nat) : List (List Int) := (List.range k).foldl (fun l j => putS l (w.take (j + 1))) l
theorem putW_succ (l : List (List Int)) (w : List Int) (k : Nat) : putW l w (k + 1) = putS (putW l w k) (w.take (k + 1)) := by simp [putW, List.range_succ, List.foldl_append]
theorem putW_srt {l : List (List Int)} {w : List Int} (h : SrtS l) : ∀ k, SrtS (putW l w k)
  | 0 => by simpa [putW] using h
  | k + 1 => by rw [putW_succ]; exact putS_srt (putW_srt h k)
theorem mem_putW {l : List (List Int)} {w x : List Int} : ∀ {k : Nat}, x ∈ putW l w k ↔ x ∈ l ∨ ∃ j, 1 ≤ j ∧ j ≤ k ∧ x = w.take j
  | 0 => by simp [putW]; omega
  | k + 1 => by
    rw [putW_succ, mem_putS, mem_putW (k := k)]
    constructor
    · rintro (h | h | ⟨j, h1, h2, h3⟩)
      · exact .inr ⟨k + 1, by omega, by omega, h⟩
      · exact .inl h
      · exact .inr ⟨j, h1, by omega, h3⟩
    · rintro (h | ⟨j, h1, h2, h3⟩)
      · exact .inr (.inl h)
      · by_cases e : j = k + 1
        · subst e; exact .inl h3
        · exact .inr (.inr ⟨j, h1, by omega, h3⟩)
/-- The beginnings of words, in order. -/
def nodesL (wss : List (List Int)) : List (List Int) := wss.foldl (fun l w => putW l w w.length) [[]]
theorem nodesL_snoc (wss : List (List Int)) (w : List Int) : nodesL (wss ++ [w]) = putW (nodesL wss) w w.length := by simp [nodesL, List.foldl_append]
theorem nodesL_srt (wss : List (List Int)) : SrtS (nodesL wss) := by
  refine snoc_ind (P := fun wss => SrtS (nodesL wss)) (by simp [nodesL]) (fun l x ih => ?_) wss
  rw [nodesL_snoc]; exact putW_srt ih _
theorem mem_nodesL {x : List Int} (wss : List (List Int)) : x ∈ nodesL wss ↔ IsBeg wss x := by
  refine snoc_ind (P := fun wss => x ∈ nodesL wss ↔ IsBeg wss x) (by simp [nodesL, IsBeg]) (fun l w ih => ?_) wss
  rw [nodesL_snoc, mem_putW, ih]
  unfold IsBeg
  constructor
  · rintro ((h | ⟨v, hv, r⟩) | ⟨j, h1, h2, h3⟩)
    · exact .inl h
    · exact .inr ⟨v, by simp [hv], r⟩
    · exact .inr ⟨w, by simp, j, h1, h2, h3⟩
  · rintro (h | ⟨v, hv, r⟩)
    · exact .inl (.inl h)
    · rcases List.mem_append.1 hv with hv | hv
      · exact .inl (.inr ⟨v, hv, r⟩)
      · simp at hv; subst hv; exact .inr r
theorem nodesL_unique {wss l : List (List Int)} (h1 : SrtS l) (h2 : ∀ x, x ∈ l ↔ IsBeg wss x) : l = nodesL wss := srtS_unique h1 (nodesL_srt wss) fun x => (h2 x).trans (mem_nodesL wss).symm
theorem nodesL_ne (wss : List (List Int)) : nodesL wss ≠ [] := fun e => by
  have := (mem_nodesL (x := []) wss).2 (.inl rfl)
  rw [e] at this; cases this
theorem nodesL_head (wss : List (List Int)) : (nodesL wss)[0]? = some [] := by
  have h1 := nodesL_srt wss
  have h2 := (mem_nodesL (x := []) wss).2 (.inl rfl)
  revert h1 h2
  cases nodesL wss with
  | nil => intro _ h; cases h
  | cons a l =>
    intro h1 h2
    rw [SrtS, List.pairwise_cons] at h1
    rcases List.mem_cons.1 h2 with e | h
    · simp [e]
    · have := ltS_len (h1.1 _ h)
      simp at this
      simp [this]

/-- Where a text stands in a list; -1: nowhere. -/
def placeS (l : List (List Int)) (b : List Int) : Int := if b ∈ l then (l.idxOf b : Int) else -1
theorem placeS_at {l : List (List Int)} (hn : l.Nodup) {i : Nat} {b : List Int} (h : l[i]? = some b) : placeS l b = i := by
  have hi := (List.getElem?_eq_some_iff.1 h).1
  unfold placeS
  rw [if_pos (List.mem_of_getElem? h)]
  have := List.Nodup.idxOf_getElem hn i hi
  rw [(List.getElem?_eq_some_iff.1 h).2] at this
  rw [this]
theorem placeS_no {l : List (List Int)} {b : List Int} (h : b ∉ l) : placeS l b = -1 := by unfold placeS; rw [if_neg h]
def lastB (x : List Int) : Int := (x.getLast?).getD 0
structure TrieT where
  up : List Int
  dep : List Int
  wrd : List Int
  byt : List Int
/-- The trie of words. -/
def trieP (wss : List (List Int)) : TrieT :=
  ⟨(nodesL wss).map fun x => placeS (nodesL wss) x.dropLast, (nodesL wss).map fun x => (x.length : Int), (nodesL wss).map fun x => placeS wss x, (nodesL wss).map lastB⟩

end Go.Proofs.YtbiinfnekhhfkaaGreat

/- Plain laws of layer 7: which tries may be; a trie read. -/

namespace Go.Proofs.YtbiinfnekhhfkaaGreat
set_option linter.unusedVariables false

theorem whichL_neg {fold : Bool} {x : List Int} {acc : List (List Int)} : whichL fold x acc < 0 ↔ ∀ y ∈ acc, foldL fold y ≠ foldL fold x := by
  unfold whichL whichO
  cases e : acc.findIdx? (fun w => sameL fold x w) with
  | none =>
    rw [List.findIdx?_eq_none_iff] at e
    constructor
    · intro _ y hy h
      have := e y hy
      unfold sameL at this
      simp at this
      exact this h.symm
    · intro _; dsimp only; omega
  | some k =>
    constructor
    · intro h; dsimp only at h; omega
    · intro h
      obtain ⟨hk, h1, _⟩ := List.findIdx?_eq_some_iff_getElem.1 e
      unfold sameL at h1
      simp at h1
      exact absurd h1.symm (h _ (List.getElem_mem hk))
theorem makeL_spec (fold : Bool) (l : List (List Int)) : (makeL fold l).Nodup ∧ ∀ y ∈ makeL fold l, foldL fold y = y := by
  refine snoc_ind (P := fun l => (makeL fold l).Nodup ∧ ∀ y ∈ makeL fold l, foldL fold y = y) (by simp [makeL]) (fun l x ⟨h1, h2⟩ => ?_) l
  rw [makeL_snoc]
  unfold addW
  by_cases h : whichL fold x (makeL fold l) < 0
  · rw [if_pos h]
    have hn := whichL_neg.1 h
    refine ⟨?_, fun y hy => ?_⟩
    · rw [List.nodup_append]
      refine ⟨h1, by simp, fun a ha b hb e => ?_⟩
      simp at hb
      subst hb
      subst e
      exact hn _ ha (foldL_foldL _ _)
    · rcases List.mem_append.1 hy with hy | hy
      · exact h2 y hy
      · simp at hy; subst hy; exact foldL_foldL _ _
  · rw [if_neg h]; exact ⟨h1, h2⟩
theorem makeL_self : ∀ (l : List (List Int)), l.Nodup → makeL false l = l := by
  refine snoc_ind (P := fun l => l.Nodup → makeL false l = l) (by simp [makeL]) (fun l x ih h => ?_)
  rw [List.nodup_append] at h
  rw [makeL_snoc, ih h.1]
  unfold addW
  rw [if_pos (whichL_neg.2 fun y hy e => ?_)]
  · simp [foldL]
  · simp [foldL] at e
    exact h.2.2 y hy x (by simp) e
theorem right_spec {fold : Bool} {wss : List (List Int)} (h : rightP fold wss = true) : wss.length ≤ 64 ∧ wss ≠ [] ∧ (∀ x ∈ wss, x.length ≠ 0 ∧ x.length ≤ 32) ∧ bsum wss ≤ 600 ∧ nodesR fold wss ≤ 400 ∧ makeL fold wss = wss := by
  rw [right_eq] at h
  unfold rightR at h
  rw [Bool.and_eq_true] at h
  have h1 : checkR fold wss = 0 := of_decide_eq_true h.1
  have h2 : makeL fold wss = wss := of_decide_eq_true h.2
  unfold checkR at h1
  by_cases a1 : wss.length = 0
  · rw [if_pos a1] at h1; cases h1
  · rw [if_neg a1] at h1
    by_cases a2 : wss.length > 64
    · rw [if_pos a2] at h1; cases h1
    · rw [if_neg a2] at h1
      by_cases a3 : ∃ x ∈ wss, x.length = 0
      · rw [if_pos a3] at h1; cases h1
      · rw [if_neg a3] at h1
        by_cases a4 : ∃ x ∈ wss, x.length > 32
        · rw [if_pos a4] at h1; cases h1
        · rw [if_neg a4] at h1
          by_cases a5 : bsum wss > 600
          · rw [if_pos a5] at h1; cases h1
          · rw [if_neg a5] at h1
            by_cases a6 : nodesR fold wss > 400
            · rw [if_pos a6] at h1; cases h1
            · exact ⟨by omega, fun e => a1 (by rw [e]; rfl), fun x hx => ⟨fun e => a3 ⟨x, hx, e⟩, Nat.not_lt.1 fun e => a4 ⟨x, hx, e⟩⟩, by omega, by omega, h2⟩

theorem right_nodup {fold : Bool} {wss : List (List Int)} (h : rightP fold wss = true) : wss.Nodup ∧ ∀ w ∈ wss, foldL fold w = w := by
  have := makeL_spec fold wss
  rwa [(right_spec h).2.2.2.2.2] at this
/-- How many nodes there are. -/
theorem nodesL_count (fold : Bool) {wss : List (List Int)} (hf : ∀ w ∈ wss, foldL fold w = w) : ((nodesL wss).length : Int) = nodesR fold wss := by
  obtain ⟨h1, h2⟩ := count_eq fold wss
  have hp : (nodesL wss).Perm (prun (begL fold wss)).1 := by
    rw [List.perm_ext_iff_of_nodup (nodesL_srt wss).nodup (rep_run (begL fold wss)).nodup]
    intro x
    rw [mem_nodesL, h2, IsBeg.iff]
    unfold Begs
    constructor
    · rintro (h | ⟨h0, w, hw, hp⟩)
      · exact .inl h
      · exact .inr ⟨w, hw, by rw [hf w hw]; exact hp⟩
    · rintro (h | ⟨w, hw, hp⟩)
      · exact .inl h
      · by_cases e : x = []
        · exact .inl e
        · exact .inr ⟨e, w, hw, by rw [hf w hw] at hp; exact hp⟩
  rw [hp.length_eq]
  exact h1

theorem right_false {fold : Bool} {wss : List (List Int)} (h : rightP fold wss = true) : rightP false wss = true := by
  obtain ⟨h1, h2, h3, h4, h5, h6⟩ := right_spec h
  obtain ⟨g1, g2⟩ := right_nodup h
  have e1 : nodesR false wss = nodesR fold wss := by rw [← nodesL_count fold g2, ← nodesL_count false (fun w _ => by simp [foldL])]
  rw [right_eq]
  unfold rightR
  rw [Bool.and_eq_true]
  refine ⟨decide_eq_true ?_, decide_eq_true (makeL_self wss g1)⟩
  unfold checkR
  rw [if_neg (fun e => h2 (List.eq_nil_of_length_eq_zero e)), if_neg (by omega), if_neg (fun ⟨x, hx, e⟩ => (h3 x hx).1 e), if_neg (fun ⟨x, hx, e⟩ => by have := (h3 x hx).2; omega), if_neg (by omega), if_neg (by rw [e1]; omega)]

/-! ### a trie read -/
/-- The bytes of the first nodes. -/
def spTo (T : TrieT) : Nat → Option (List (List Int))
  | 0 => none
  | 1 => some [[]]
  | i + 2 => (spTo T (i + 1)).bind fun l => match T.up[i + 1]?, T.byt[i + 1]? with
    | some u, some c => if 0 ≤ u ∧ u < (i : Int) + 1 then (l[u.toNat]?).map fun p => l ++ [p ++ [c]] else none
    | _, _ => none
def spO (T : TrieT) : Option (List (List Int)) :=
  if 1 ≤ T.up.length ∧ T.up.length ≤ 400 ∧ T.byt.length = T.up.length ∧ T.dep.length = T.up.length ∧ T.wrd.length = T.up.length then spTo T T.up.length else none
theorem spTo_length {T : TrieT} : ∀ {i : Nat} {l : List (List Int)}, spTo T i = some l → l.length = i
  | 0, l, h => by cases h
  | 1, l, h => by simp [spTo] at h; simp [← h]
  | i + 2, l, h => by
    unfold spTo at h
    obtain ⟨l0, h0, h⟩ := Option.bind_eq_some_iff.1 h
    have ih := spTo_length h0
    split at h
    · split at h
      · obtain ⟨p, hp, rfl⟩ := Option.map_eq_some_iff.1 h
        simp [ih]
      · cases h
    · cases h
/-- What is numbered: of each word's number its node (0: none yet), how many. -/
def nuTo (T : TrieT) (n : Nat) : Nat → Option (List Int × Int)
  | 0 => some (List.replicate n 0, 0)
  | i + 1 => (nuTo T n i).bind fun s => match T.wrd[i]? with
    | some w => if w = -1 then some s else if w < 0 ∨ (n : Int) ≤ w ∨ i = 0 ∨ (s.1[w.toNat]?).getD 0 ≠ 0 then none else some (s.1.set w.toNat i, s.2 + 1)
    | none => none
def wdTo (sp : List (List Int)) (at_ : List Int) : Nat → Option (List (List Int))
  | 0 => some []
  | k + 1 => (wdTo sp at_ k).bind fun l => match at_[k]? with
    | some i => if i = 0 then none else (sp[i.toNat]?).map fun x => l ++ [x]
    | none => none
def nuO (T : TrieT) (sp : List (List Int)) : Option (List (List Int)) := (nuTo T sp.length T.wrd.length).bind fun s => wdTo sp s.1 s.2.toNat
def eqT (T U : TrieT) : Bool := decide (T.up = U.up) && decide (T.dep = U.dep) && decide (T.wrd = U.wrd) && decide (T.byt = U.byt)
theorem eqT_iff {T U : TrieT} : eqT T U = true ↔ T = U := by
  obtain ⟨a, b, c, d⟩ := T
  obtain ⟨a', b', c', d'⟩ := U
  simp [eqT, and_assoc]
def readP (T : TrieT) : Option (List (List Int) × List (List Int)) :=
  (spO T).bind fun sp => (nuO T sp).bind fun ws => if (rightP false ws && eqT (trieP ws) T) = true then some (sp, ws) else none

section
variable {ws : List (List Int)}
theorem foldL_false (w : List Int) : foldL false w = w := by simp [foldL]
theorem right_nodes (h : rightP false ws = true) : 1 ≤ (nodesL ws).length ∧ (nodesL ws).length ≤ 400 := by
  have h1 := (right_spec h).2.2.2.2.1
  have h2 := nodesL_count false (wss := ws) (fun w _ => foldL_false w)
  have h3 : (nodesL ws).length ≠ 0 := fun e => nodesL_ne ws (List.eq_nil_of_length_eq_zero e)
  omega
/-- The node above stands ahead. -/
theorem up_lt {i : Nat} {x : List Int} (h : (nodesL ws)[i]? = some x) (h0 : x ≠ []) : ∃ j, j < i ∧ (nodesL ws)[j]? = some x.dropLast ∧ placeS (nodesL ws) x.dropLast = j := by
  have hs := nodesL_srt ws
  have hm : x.dropLast ∈ nodesL ws := (mem_nodesL ws).2 ((mem_nodesL ws).1 (List.mem_of_getElem? h)).up
  obtain ⟨j, hj⟩ := List.getElem?_of_mem hm
  refine ⟨j, ?_, hj, placeS_at hs.nodup hj⟩
  have hlen : x.dropLast.length < x.length := by
    rw [List.length_dropLast]
    have : x.length ≠ 0 := fun e => h0 (List.eq_nil_of_length_eq_zero e)
    omega
  have hi' := (List.getElem?_eq_some_iff.1 h)
  have hj' := (List.getElem?_eq_some_iff.1 hj)
  rcases Nat.lt_or_ge j i with hlt | hge
  · exact hlt
  · exfalso
    rcases Nat.lt_or_ge i j with hlt | hge2
    · have hp := List.pairwise_iff_getElem.1 hs i j hi'.1 hj'.1 hlt
      rw [hi'.2, hj'.2] at hp
      have := ltS_len hp
      omega
    · have e : i = j := by omega
      subst e
      rw [h] at hj
      have := congrArg List.length (Option.some.inj hj)
      omega
theorem dropLast_lastB {x : List Int} (h : x ≠ []) : x.dropLast ++ [lastB x] = x := by
  unfold lastB
  rw [List.getLast?_eq_some_getLast h, Option.getD_some]
  exact List.dropLast_concat_getLast h
theorem nodes_ne {i : Nat} {x : List Int} (h : (nodesL ws)[i + 1]? = some x) : x ≠ [] := by
  intro e
  subst e
  have h0 := nodesL_head ws
  have hn := (nodesL_srt ws).nodup
  have := nodup_at hn h0 h
  omega
theorem spTo_trie : ∀ i, 1 ≤ i → i ≤ (nodesL ws).length → spTo (trieP ws) i = some ((nodesL ws).take i)
  | 0, h, _ => by omega
  | 1, _, _ => by
    have h0 := nodesL_head ws
    revert h0
    cases nodesL ws with
    | nil => intro h; cases h
    | cons a l => intro h; simp at h; simp [spTo, h]
  | i + 2, _, h => by
    have ih := spTo_trie (i + 1) (by omega) (by omega)
    obtain ⟨x, hx⟩ : ∃ x, (nodesL ws)[i + 1]? = some x := ⟨(nodesL ws)[i + 1]'(by omega), by simp⟩
    have h0 := nodes_ne hx
    obtain ⟨j, hj, hjx, hpl⟩ := up_lt hx h0
    unfold spTo
    rw [ih, Option.bind_some]
    have e1 : (trieP ws).up[i + 1]? = some (j : Int) := by simp [trieP, hx, hpl]
    have e2 : (trieP ws).byt[i + 1]? = some (lastB x) := by simp [trieP, hx]
    rw [e1, e2]
    dsimp only
    rw [if_pos ⟨by omega, by omega⟩, Int.toNat_natCast, List.getElem?_take, if_pos hj, hjx, Option.map_some, dropLast_lastB h0, take_step hx]
theorem spO_trie (h : rightP false ws = true) : spO (trieP ws) = some (nodesL ws) := by
  obtain ⟨h1, h2⟩ := right_nodes h
  unfold spO
  have e : (trieP ws).up.length = (nodesL ws).length := by simp [trieP]
  rw [if_pos ⟨by rw [e]; exact h1, by rw [e]; exact h2, by simp [trieP], by simp [trieP], by simp [trieP]⟩, e, spTo_trie _ h1 (Nat.le_refl _), List.take_length]

/-- The word's node, if it stands ahead of i. -/
def atW (ws : List (List Int)) (i w : Nat) : Int := match ws[w]? with
  | some x => if (nodesL ws).idxOf x < i then ((nodesL ws).idxOf x : Int) else 0
  | none => 0
theorem word_node {w : Nat} {x : List Int} (hx : ws[w]? = some x) (h0 : x ≠ []) : ∃ j, 1 ≤ j ∧ (nodesL ws)[j]? = some x ∧ (nodesL ws).idxOf x = j := by
  have hm : x ∈ nodesL ws := (mem_nodesL ws).2 (IsBeg.iff.2 (.inr ⟨h0, x, List.mem_of_getElem? hx, List.prefix_refl _⟩))
  obtain ⟨j, hj⟩ := List.getElem?_of_mem hm
  refine ⟨j, ?_, hj, ?_⟩
  · by_cases e : j = 0
    · subst e
      rw [nodesL_head] at hj
      exact absurd (Option.some.inj hj).symm h0
    · omega
  · have := List.Nodup.idxOf_getElem (nodesL_srt ws).nodup j (List.getElem?_eq_some_iff.1 hj).1
    rwa [(List.getElem?_eq_some_iff.1 hj).2] at this
/-- How many words' nodes stand ahead of i. -/
def manyW (ws : List (List Int)) (i : Nat) : Int := ((ws.filter fun x => decide ((nodesL ws).idxOf x < i)).length : Int)
theorem words_lt (h : rightP false ws = true) : ws.length < (nodesL ws).length := by
  obtain ⟨g1, _⟩ := right_nodup h
  have h3 := (right_spec h).2.2.1
  have hp : ([] :: ws).Nodup := by
    rw [List.nodup_cons]
    exact ⟨fun hm => (h3 _ hm).1 rfl, g1⟩
  have hs : ([] :: ws) ⊆ nodesL ws := fun x hx => by
    rw [mem_nodesL, IsBeg.iff]
    rcases List.mem_cons.1 hx with e | hx
    · exact .inl e
    · exact .inr ⟨fun e => by subst e; exact (h3 _ hx).1 rfl, x, hx, List.prefix_refl _⟩
  have := hp.length_le_of_subset hs
  rw [List.length_cons] at this
  omega
theorem atW_at {i w : Nat} (hw : w < ws.length) (h : rightP false ws = true) : ∃ j x, 1 ≤ j ∧ ws[w]? = some x ∧ (nodesL ws)[j]? = some x ∧ atW ws i w = if j < i then (j : Int) else 0 := by
  obtain ⟨x, hx⟩ : ∃ x, ws[w]? = some x := ⟨ws[w]'hw, by simp⟩
  have h3 := ((right_spec h).2.2.1 x (List.mem_of_getElem? hx)).1
  obtain ⟨j, hj, hjx, hid⟩ := word_node hx (fun e => h3 (by rw [e]; rfl))
  refine ⟨j, x, hj, hx, hjx, ?_⟩
  unfold atW
  rw [hx]
  dsimp only
  rw [hid]
theorem nuTo_trie (h : rightP false ws = true) : ∀ i, i ≤ (nodesL ws).length → nuTo (trieP ws) (nodesL ws).length i = some ((List.range (nodesL ws).length).map (fun w => atW ws i w), manyW ws i)
  | 0, _ => by
    unfold nuTo
    have e1 : (fun w => atW ws 0 w) = fun _ => 0 := by
      funext w
      unfold atW
      split <;> simp
    have e2 : manyW ws 0 = 0 := by simp [manyW]
    rw [e1, e2]
    simp [List.map_const']
  | i + 1, hi => by
    have ih := nuTo_trie h i (by omega)
    obtain ⟨g1, _⟩ := right_nodup h
    have hns := (nodesL_srt ws).nodup
    obtain ⟨x, hx⟩ : ∃ x, (nodesL ws)[i]? = some x := ⟨(nodesL ws)[i]'(by omega), by simp⟩
    have hidx : (nodesL ws).idxOf x = i := by
      have := List.Nodup.idxOf_getElem hns i (by omega)
      rwa [(List.getElem?_eq_some_iff.1 hx).2] at this
    unfold nuTo
    rw [ih, Option.bind_some]
    have ew : (trieP ws).wrd[i]? = some (placeS ws x) := by simp [trieP, hx]
    rw [ew]
    dsimp only
    have hidx2 : ∀ y ∈ ws, (nodesL ws).idxOf y = i → y = x := fun y hy e => by
      have hym : y ∈ nodesL ws := by
        rw [mem_nodesL, IsBeg.iff]
        exact .inr ⟨fun e => by subst e; exact ((right_spec h).2.2.1 _ hy).1 rfl, y, hy, List.prefix_refl _⟩
      have h1 := List.getElem_idxOf (List.idxOf_lt_length_of_mem hym)
      have h2 := (List.getElem?_eq_some_iff.1 hx).2
      rw [← h1, ← h2]
      congr 1
    by_cases hm : x ∈ ws
    · obtain ⟨w, hw⟩ := List.getElem?_of_mem hm
      have hwl := (List.getElem?_eq_some_iff.1 hw).1
      have hwn := words_lt h
      have hp := placeS_at g1 hw
      have hx0 : x ≠ [] := fun e => by subst e; exact ((right_spec h).2.2.1 _ hm).1 rfl
      have hi0 : i ≠ 0 := fun e => by
        subst e
        rw [nodesL_head] at hx
        exact hx0 (Option.some.inj hx).symm
      rw [hp, if_neg (by omega), Int.toNat_natCast]
      have ea : atW ws i w = 0 := by unfold atW; rw [hw]; dsimp only; rw [hidx, if_neg (by omega)]
      have eg : (((List.range (nodesL ws).length).map (fun w => atW ws i w))[w]?).getD 0 = 0 := by
        rw [List.getElem?_map, List.getElem?_range (by omega)]
        simpa using ea
      rw [if_neg (by rw [eg]; omega)]
      congr 1
      refine Prod.ext ?_ ?_
      · dsimp only
        apply List.ext_getElem?
        intro v
        rw [List.getElem?_set]
        by_cases e : w = v
        · subst e
          have hwn' : w < (nodesL ws).length := by omega
          have e1 : atW ws (i + 1) w = i := by unfold atW; rw [hw]; dsimp only; rw [hidx, if_pos (by omega)]
          simp [hwn', e1]
        · rw [if_neg e, List.getElem?_map, List.getElem?_map]
          by_cases hv : v < (nodesL ws).length
          · rw [List.getElem?_range hv]
            simp only [Option.map_some, Option.some.injEq]
            unfold atW
            cases ev : ws[v]? with
            | none => rfl
            | some y =>
              dsimp only
              have hne : (nodesL ws).idxOf y ≠ i := fun e2 => by
                have := hidx2 y (List.mem_of_getElem? ev) e2
                subst this
                exact e (nodup_at g1 hw ev)
              by_cases hlt : (nodesL ws).idxOf y < i
              · rw [if_pos hlt, if_pos (by omega)]
              · rw [if_neg hlt, if_neg (by omega)]
          · rw [List.getElem?_eq_none (by simpa using hv)]; rfl
      · dsimp only
        unfold manyW
        have key : ∀ (l : List (List Int)), l.Nodup → x ∈ l → (∀ y ∈ l, (nodesL ws).idxOf y = i → y = x) → (l.filter fun y => decide ((nodesL ws).idxOf y < i + 1)).length = (l.filter fun y => decide ((nodesL ws).idxOf y < i)).length + 1 := by
          intro l
          induction l with
          | nil => intro _ h; cases h
          | cons y l ihl =>
            intro hn hxm hu
            rw [List.nodup_cons] at hn
            by_cases e : y = x
            · subst e
              have hrest : ∀ z ∈ l, (decide ((nodesL ws).idxOf z < i + 1)) = decide ((nodesL ws).idxOf z < i) := fun z hz => by
                have hne : (nodesL ws).idxOf z ≠ i := fun e2 => by
                  have := hu z (by simp [hz]) e2
                  subst this
                  exact hn.1 hz
                rw [decide_eq_decide]; omega
              rw [List.filter_cons, List.filter_cons, if_pos (by rw [hidx]; simp), if_neg (by rw [hidx]; simp), List.length_cons, List.filter_congr hrest]
            · have hxl : x ∈ l := (List.mem_cons.1 hxm).resolve_left (fun e2 => e e2.symm)
              have hne : (nodesL ws).idxOf y ≠ i := fun e2 => e (hu y (by simp) e2)
              have ih2 := ihl hn.2 hxl (fun z hz => hu z (by simp [hz]))
              rw [List.filter_cons, List.filter_cons]
              by_cases hlt : (nodesL ws).idxOf y < i
              · rw [if_pos (by simp; omega), if_pos (by simpa using hlt), List.length_cons, List.length_cons, ih2]
              · rw [if_neg (by simp; omega), if_neg (by simpa using hlt), ih2]
        rw [key ws g1 hm hidx2]
        omega
    · rw [placeS_no hm, if_pos rfl]
      congr 1
      have hne : ∀ y ∈ ws, (nodesL ws).idxOf y ≠ i := fun y hy e => hm (hidx2 y hy e ▸ hy)
      refine Prod.ext ?_ ?_
      · dsimp only
        apply List.map_congr_left
        intro v _
        unfold atW
        cases ev : ws[v]? with
        | none => rfl
        | some y =>
          dsimp only
          have := hne y (List.mem_of_getElem? ev)
          by_cases hlt : (nodesL ws).idxOf y < i
          · rw [if_pos hlt, if_pos (by omega)]
          · rw [if_neg hlt, if_neg (by omega)]
      · dsimp only
        have ef : (ws.filter fun y => decide ((nodesL ws).idxOf y < i + 1)) = ws.filter fun y => decide ((nodesL ws).idxOf y < i) := List.filter_congr (fun y hy => by have := hne y hy; rw [decide_eq_decide]; omega)
        unfold manyW
        rw [ef]
theorem manyW_all (h : rightP false ws = true) : manyW ws (nodesL ws).length = ws.length := by
  unfold manyW
  rw [List.filter_eq_self.2]
  intro y hy
  have hym : y ∈ nodesL ws := by
    rw [mem_nodesL, IsBeg.iff]
    exact .inr ⟨fun e => by subst e; exact ((right_spec h).2.2.1 _ hy).1 rfl, y, hy, List.prefix_refl _⟩
  simpa using List.idxOf_lt_length_of_mem hym
theorem wdTo_trie (h : rightP false ws = true) : ∀ k, k ≤ ws.length → wdTo (nodesL ws) ((List.range (nodesL ws).length).map (fun w => atW ws (nodesL ws).length w)) k = some (ws.take k)
  | 0, _ => rfl
  | k + 1, hk => by
    have ih := wdTo_trie h k (by omega)
    obtain ⟨j, x, hj, hx, hjx, ha⟩ := atW_at (i := (nodesL ws).length) (w := k) (by omega) h
    have hjl := (List.getElem?_eq_some_iff.1 hjx).1
    rw [if_pos hjl] at ha
    unfold wdTo
    rw [ih, Option.bind_some, List.getElem?_map, List.getElem?_range (by have := words_lt h; omega)]
    simp only [Option.map_some, ha]
    rw [if_neg (by omega), Int.toNat_natCast, hjx, Option.map_some, take_step hx]
theorem nuO_trie (h : rightP false ws = true) : nuO (trieP ws) (nodesL ws) = some ws := by
  unfold nuO
  have e : (trieP ws).wrd.length = (nodesL ws).length := by simp [trieP]
  rw [e, nuTo_trie h _ (Nat.le_refl _), Option.bind_some]
  dsimp only
  rw [manyW_all h, Int.toNat_natCast, wdTo_trie h _ (Nat.le_refl _), List.take_length]
theorem readP_trie (h : rightP false ws = true) : readP (trieP ws) = some (nodesL ws, ws) := by
  unfold readP
  rw [spO_trie h, Option.bind_some, nuO_trie h, Option.bind_some, if_pos (by rw [h, eqT_iff.2 rfl]; rfl)]
end
/-- What is read of a trie: just what it is made of. -/
theorem readP_iff {T : TrieT} {sp ws : List (List Int)} : readP T = some (sp, ws) ↔ rightP false ws = true ∧ T = trieP ws ∧ sp = nodesL ws := by
  constructor
  · intro h
    unfold readP at h
    obtain ⟨sp0, h1, h⟩ := Option.bind_eq_some_iff.1 h
    obtain ⟨ws0, h2, h⟩ := Option.bind_eq_some_iff.1 h
    split at h
    · rename_i hc
      rw [Bool.and_eq_true] at hc
      have hc : rightP false ws0 = true ∧ T = trieP ws0 := ⟨hc.1, (eqT_iff.1 hc.2).symm⟩
      injection h with h
      injection h with e1 e2
      subst e1 e2
      refine ⟨hc.1, hc.2, ?_⟩
      rw [hc.2, spO_trie hc.1] at h1
      exact (Option.some.inj h1).symm
    · cases h
  · rintro ⟨h1, rfl, rfl⟩
    exact readP_trie h1

end Go.Proofs.YtbiinfnekhhfkaaGreat

/- Bytes that are told apart (layer 10): plain. -/

namespace Go.Proofs.YtbiinfnekhhfkaaGreat
set_option linter.unusedVariables false
set_option linter.unusedSimpArgs false

/-- A small letter. -/
def smallI (c : Int) : Bool := decide (97 ≤ c ∧ c ≤ 122)
/-- Is a byte one of a set's? -/
def inB (fold : Bool) (ws : List (List Int)) (c : Int) : Bool := ws.any fun w => w.any fun x => decide (x = c) || (fold && smallI x && decide (x - 32 = c))
/-- The classes of the first bytes, and how many there are. -/
def clsN (p : Int → Bool) (fold : Bool) : Nat → List Int × Nat
  | 0 => ([], 1)
  | i + 1 => if p i = false then ((clsN p fold i).1 ++ [0], (clsN p fold i).2)
    else if (fold && smallI i) = true then ((clsN p fold i).1 ++ [((clsN p fold i).1[i - 32]?).getD 0], (clsN p fold i).2)
    else ((clsN p fold i).1 ++ [((clsN p fold i).2 : Int)], (clsN p fold i).2 + 1)
theorem clsN_succ (p : Int → Bool) (fold : Bool) (i : Nat) : clsN p fold (i + 1) = if p i = false then ((clsN p fold i).1 ++ [0], (clsN p fold i).2)
    else if (fold && smallI i) = true then ((clsN p fold i).1 ++ [((clsN p fold i).1[i - 32]?).getD 0], (clsN p fold i).2)
    else ((clsN p fold i).1 ++ [((clsN p fold i).2 : Int)], (clsN p fold i).2 + 1) := rfl
theorem clsN_len (p : Int → Bool) (fold : Bool) : ∀ i, (clsN p fold i).1.length = i
  | 0 => rfl
  | i + 1 => by
    have ih := clsN_len p fold i
    unfold clsN
    split
    · simp [ih]
    · split <;> simp [ih]
theorem clsN_many (p : Int → Bool) (fold : Bool) : ∀ i, 1 ≤ (clsN p fold i).2 ∧ (clsN p fold i).2 ≤ i + 1
  | 0 => ⟨Nat.le_refl _, Nat.le_refl _⟩
  | i + 1 => by
    have ih := clsN_many p fold i
    unfold clsN
    split
    · exact ⟨ih.1, by show (clsN p fold i).2 ≤ _; omega⟩
    · split
      · exact ⟨ih.1, by show (clsN p fold i).2 ≤ _; omega⟩
      · exact ⟨by show 1 ≤ (clsN p fold i).2 + 1; omega, by show (clsN p fold i).2 + 1 ≤ _; omega⟩
theorem clsN_old (p : Int → Bool) (fold : Bool) {j : Nat} : ∀ {i}, j < i → (clsN p fold i).1[j]? = (clsN p fold (j + 1)).1[j]?
  | 0, h => absurd h (Nat.not_lt_zero _)
  | i + 1, h => by
    by_cases hj : j = i
    · subst hj; rfl
    · have ih := clsN_old p fold (j := j) (i := i) (by omega)
      rw [← ih]
      have hl := clsN_len p fold i
      conv => lhs; unfold clsN
      split
      · exact List.getElem?_append_left (by omega)
      · split
        · exact List.getElem?_append_left (by omega)
        · exact List.getElem?_append_left (by omega)
def clsP (fold : Bool) (ws : List (List Int)) : List Int := (clsN (inB fold ws) fold 256).1
def manyP (fold : Bool) (ws : List (List Int)) : Nat := (clsN (inB fold ws) fold 256).2
theorem clsP_len (fold : Bool) (ws : List (List Int)) : (clsP fold ws).length = 256 := clsN_len _ _ _
/-- The class of a byte. -/
theorem cls_at (p : Int → Bool) (fold : Bool) {j i : Nat} (h : j < i) : (clsN p fold i).1[j]? = some (if p j = false then 0 else if (fold && smallI j) = true then ((clsN p fold j).1[j - 32]?).getD 0 else ((clsN p fold j).2 : Int)) := by
  rw [clsN_old p fold h, clsN_succ]
  have hl := clsN_len p fold j
  split
  · rw [List.getElem?_append_right (by omega), hl, Nat.sub_self]; rfl
  · split
    · rw [List.getElem?_append_right (by omega), hl, Nat.sub_self]; rfl
    · rw [List.getElem?_append_right (by omega), hl, Nat.sub_self]; rfl
end Go.Proofs.YtbiinfnekhhfkaaGreat

/- The sort of texts by a function, laid at this program: numbers, and the bodies held against those of the library. -/



namespace Go.Proofs.YtbiinfnekhhfkaaGreat
open Go.Shelf
def sortStr_ren : Go.Shelf.Ren := ⟨fun | 6 => 135 | 15 => 158 | 14 => 157 | 28 => 176 | 29 => 177 | 20 => 168 | 21 => 169 | 22 => 170 | 23 => 171 | 24 => 172 | 25 => 173 | 26 => 174 | 27 => 175 | 46 => 191 | 47 => 192 | 48 => 193 | 49 => 194 | 50 => 195 | 57 => 201 | n => n, fun | 22 => 163 | 24 => 9 | 25 => 211 | 3 => 3 | 39 => 227 | 0 => 0 | 53 => 251 | 55 => 253 | 4 => 4 | 46 => 245 | 45 => 244 | 50 => 37 | 5 => 5 | 9 => 9 | 66 => 262 | 70 => 266 | 76 => 279 | 77 => 95 | n => n, fun | n => n⟩
theorem sortStr : Go.Proofs.SlLaysF.n6 Tryz.prog sortStr_ren := {
  mixed := by kernel_rfl
  f6 := ⟨Tryz.f135.name, by decide, Tryz.func135.trans (congrArg some (by kernel_rfl))⟩
  f14 := ⟨Tryz.f157.name, by decide, Tryz.func157.trans (congrArg some (by kernel_rfl))⟩
  f15 := Tryz.func158.trans (congrArg some (by kernel_rfl))
  f20 := ⟨Tryz.f168.name, by decide, Tryz.func168.trans (congrArg some (by kernel_rfl))⟩
  f21 := ⟨Tryz.f169.name, by decide, Tryz.func169.trans (congrArg some (by kernel_rfl))⟩
  f22 := ⟨Tryz.f170.name, by decide, Tryz.func170.trans (congrArg some (by kernel_rfl))⟩
  f23 := ⟨Tryz.f171.name, by decide, Tryz.func171.trans (congrArg some (by kernel_rfl))⟩
  f24 := ⟨Tryz.f172.name, by decide, Tryz.func172.trans (congrArg some (by kernel_rfl))⟩
  f25 := ⟨Tryz.f173.name, by decide, Tryz.func173.trans (congrArg some (by kernel_rfl))⟩
  f26 := ⟨Tryz.f174.name, by decide, Tryz.func174.trans (congrArg some (by kernel_rfl))⟩
  f27 := ⟨Tryz.f175.name, by decide, Tryz.func175.trans (congrArg some (by kernel_rfl))⟩
  f28 := Tryz.func176.trans (congrArg some (by kernel_rfl))
  f29 := Tryz.func177.trans (congrArg some (by kernel_rfl))
  f46 := ⟨Tryz.f191.name, by decide, Tryz.func191.trans (congrArg some (by kernel_rfl))⟩
  f47 := Tryz.func192.trans (congrArg some (by kernel_rfl))
  f48 := Tryz.func193.trans (congrArg some (by kernel_rfl))
  f49 := ⟨Tryz.f194.name, by decide, Tryz.func194.trans (congrArg some (by kernel_rfl))⟩
  f50 := ⟨Tryz.f195.name, by decide, Tryz.func195.trans (congrArg some (by kernel_rfl))⟩
  f57 := ⟨Tryz.f201.name, by decide, Tryz.func201.trans (congrArg some (by kernel_rfl))⟩
  t0 := Tryz.underlying0
  a0 := Tryz.isAgg0
  z0 := Tryz.sizeOf0
  v0 := Tryz.zeroValue0
  t3 := Tryz.underlying3
  a3 := Tryz.isAgg3
  z3 := Tryz.sizeOf3
  v3 := Tryz.zeroValue3
  t4 := Tryz.underlying4
  a4 := Tryz.isAgg4
  z4 := Tryz.sizeOf4
  v4 := Tryz.zeroValue4
  t5 := Tryz.underlying5
  a5 := Tryz.isAgg5
  z5 := Tryz.sizeOf5
  v5 := Tryz.zeroValue5
  t9 := Tryz.underlying9
  a9 := Tryz.isAgg9
  z9 := Tryz.sizeOf9
  v9 := Tryz.zeroValue9
  t22 := Tryz.underlying163
  a22 := Tryz.isAgg163
  z22 := Tryz.sizeOf163
  v22 := Tryz.zeroValue163
  a24 := Tryz.isAgg9
  z24 := Tryz.sizeOf9
  t25 := Tryz.underlying211
  a25 := Tryz.isAgg211
  z25 := Tryz.sizeOf211
  v25 := Tryz.zeroValue211
  t39 := Tryz.underlying227
  a39 := Tryz.isAgg227
  z39 := Tryz.sizeOf227
  v39 := Tryz.zeroValue227
  t45 := Tryz.underlying244
  a45 := Tryz.isAgg244
  z45 := Tryz.sizeOf244
  v45 := Tryz.zeroValue244
  t46 := Tryz.underlying245
  a46 := Tryz.isAgg245
  z46 := Tryz.sizeOf245
  v46 := Tryz.zeroValue245
  t50 := Tryz.underlying37
  a50 := Tryz.isAgg37
  z50 := Tryz.sizeOf37
  v50 := Tryz.zeroValue37
  t53 := Tryz.underlying251
  a53 := Tryz.isAgg251
  z53 := Tryz.sizeOf251
  v53 := Tryz.zeroValue251
  t55 := Tryz.underlying253
  a55 := Tryz.isAgg253
  z55 := Tryz.sizeOf253
  v55 := Tryz.zeroValue253
  t66 := Tryz.underlying262
  a66 := Tryz.isAgg262
  z66 := Tryz.sizeOf262
  v66 := Tryz.zeroValue262
  t70 := Tryz.underlying266
  a70 := Tryz.isAgg266
  z70 := Tryz.sizeOf266
  v70 := Tryz.zeroValue266
  t76 := Tryz.underlying279
  a76 := Tryz.isAgg279
  z76 := Tryz.sizeOf279
  v76 := Tryz.zeroValue279
  t77 := Tryz.underlying95
  a77 := Tryz.isAgg95
  z77 := Tryz.sizeOf95
  v77 := Tryz.zeroValue95 }
end Go.Proofs.YtbiinfnekhhfkaaGreat

/- Texts compared by length, then by their bytes (layer 7): walked; the sort's order. -/





namespace Go.Proofs.YtbiinfnekhhfkaaGreat
open Go.RowKit Go.Sort Go.Shelf
set_option linter.unusedVariables false

def cmpStr_ren : Go.Shelf.Ren := ⟨fun | 106 => 139 | 213 => 160 | 265 => 178 | n => n, fun | 3 => 3 | 9 => 9 | n => n, fun | n => n⟩
theorem cmpStr : Go.Proofs.Lays.n106 Tryz.prog cmpStr_ren := {
  mixed := by kernel_rfl
  f106 := Tryz.func139.trans (congrArg some (by kernel_rfl))
  f213 := Tryz.func160.trans (congrArg some (by kernel_rfl))
  f265 := Tryz.func178.trans (congrArg some (by kernel_rfl))
  t3 := Tryz.underlying3
  a3 := Tryz.isAgg3
  z3 := Tryz.sizeOf3
  v3 := Tryz.zeroValue3
  t9 := Tryz.underlying9
  a9 := Tryz.isAgg9
  z9 := Tryz.sizeOf9
  v9 := Tryz.zeroValue9 }
theorem scmp_any (a b : ByteArray) (w : World) : Calls Tryz.prog 139 #[.string a, .string b] w fun e w' => e = .returned (.int .i64 (Lib.compareBytes a.data.toList b.data.toList)) ∧ w = w' :=
  (Any.strings_Compare (P := Tryz.prog) (ρ := cmpStr_ren) cmpStr a b w).mono fun e w' ⟨h1, h2⟩ => ⟨h1, h2.symm⟩

abbrev Byt := List UInt8
def strB (l : Byt) : ByteArray := ⟨l.toArray⟩
abbrev strV (l : Byt) : Value := .string (strB l)
def toI (l : Byt) : List Int := l.map fun b => (b.toNat : Int)
theorem toI_length (l : Byt) : (toI l).length = l.length := by simp [toI]
theorem toI_inj : ∀ {x y : Byt}, toI x = toI y → x = y
  | [], [], _ => rfl
  | [], _ :: _, h => by simp [toI] at h
  | _ :: _, [], h => by simp [toI] at h
  | a :: x, b :: y, h => by
    simp only [toI, List.map_cons, List.cons.injEq] at h
    have h1 : a = b := UInt8.toNat_inj.1 (by omega)
    rw [h1, toI_inj h.2]
def cfS (a b : Byt) : Int := orL [cmpI a.length b.length, Lib.compareBytes a b]
theorem compare_lex : ∀ {x y : Byt}, x.length = y.length → (decide (Lib.compareBytes x y < 0) = lexB (toI x) (toI y))
  | [], [], _ => rfl
  | [], _ :: _, h => by simp at h
  | _ :: _, [], h => by simp at h
  | a :: x, b :: y, h => by
    have ih := compare_lex (x := x) (y := y) (by simpa using h)
    have e1 : (a < b) = ((a.toNat : Int) < b.toNat) := by rw [UInt8.lt_iff_toNat_lt]; exact propext (by omega)
    have e2 : (b < a) = ((b.toNat : Int) < a.toNat) := by rw [UInt8.lt_iff_toNat_lt]; exact propext (by omega)
    have h1 : toI (a :: x) = (a.toNat : Int) :: toI x := rfl
    have h2 : toI (b :: y) = (b.toNat : Int) :: toI y := rfl
    rw [h1, h2]
    unfold Lib.compareBytes lexB
    simp only [e1, e2]
    by_cases g1 : (a.toNat : Int) < b.toNat
    · simp [g1]
    · by_cases g2 : (b.toNat : Int) < a.toNat
      · simp [g1, g2]
      · rw [if_neg g1, if_neg g2, if_neg g1, if_neg g2]
        exact ih
theorem ltOf_cfS (x y : Byt) : ltOf cfS x y = ltS (toI x) (toI y) := by
  unfold ltOf cfS ltS
  rw [toI_length, toI_length]
  by_cases h1 : x.length < y.length
  · rw [if_pos h1]
    have : cmpI (x.length : Int) (y.length : Int) = -1 := by unfold cmpI; rw [if_pos (by omega)]
    simp [orL, this]
  · rw [if_neg h1]
    by_cases h2 : y.length < x.length
    · rw [if_pos h2]
      have : cmpI (x.length : Int) (y.length : Int) = 1 := by unfold cmpI; rw [if_neg (by omega), if_pos (by omega)]
      simp [orL, this]
    · rw [if_neg h2, ← compare_lex (by omega)]
      have : cmpI (x.length : Int) (y.length : Int) = 0 := by unfold cmpI; rw [if_neg (by omega), if_neg (by omega)]
      rw [this]
      by_cases e : Lib.compareBytes x y = 0
      · simp [orL, e]
      · simp [orL, e]
theorem cfS_swo : SWO (ltOf cfS) where
  irrefl x := by rw [ltOf_cfS, ltS_irrefl]
  trans x y z h1 h2 := by rw [ltOf_cfS] at h1 h2 ⊢; exact ltS_trans h1 h2
  ntrans x y z h1 h2 := by
    rw [ltOf_cfS] at h1 h2 ⊢
    cases e : ltS (toI x) (toI z) with
    | false => rfl
    | true =>
      exfalso
      cases e1 : ltS (toI y) (toI x) with
      | true => rw [ltS_trans e1 e] at h2; cases h2
      | false => rw [ltS_total h1 e1] at e; rw [e] at h2; cases h2
theorem cfS_total (x y : Byt) (h1 : ltOf cfS x y = false) (h2 : ltOf cfS y x = false) : x = y := by
  rw [ltOf_cfS] at h1 h2
  exact toI_inj (ltS_total h1 h2)

theorem begCmp_any (a b : Byt) (w : World) :
    Calls Tryz.prog 136 #[strV a, strV b] w fun e w' => e = .returned (.int .i64 (cfS a b)) ∧ ∃ q os, w' = grow (w.drewN q) os := by
  have HE : Hid (cfS a b = orL [cmpI a.length b.length, Lib.compareBytes a b]) := rfl
  have hsz1 : (strB a).size = a.length := by simp [strB, ByteArray.size]
  have hsz2 : (strB b).size = b.length := by simp [strB, ByteArray.size]
  have hc := scmp_any (strB a) (strB b)
  have e1 : (strB a).data.toList = a := by simp [strB]
  have e2 : (strB b).data.toList = b := by simp [strB]
  rw [e1, e2] at hc
  obtain ⟨sa, hsa⟩ : ∃ s, strB a = s := ⟨_, rfl⟩
  obtain ⟨sb, hsb⟩ : ∃ s, strB b = s := ⟨_, rfl⟩
  unfold strV
  rw [hsa] at hsz1 hc ⊢
  rw [hsb] at hsz2 hc ⊢
  have HC := Lib.hid hc
  have H1 := Lib.hid hsz1
  have H2 := Lib.hid hsz2
  clear hc hsz1 hsz2 e1 e2 hsa hsb
  go_enter Tryz.func136, Tryz.ntmps136
  go_wp2_with fail
  refine (compare_any _ _ _).mono ?_
  rintro e w1 ⟨rfl, rfl⟩
  go_wp2_with fail
  refine (HC.out _).mono ?_
  rintro e w1 ⟨rfl, rfl⟩
  go_wp2_with fail
  rw [H1.out, H2.out]
  refine (or_any _ _ _ [cmpI a.length b.length, Lib.compareBytes a b] _ (Sl1.lay _ _ [cmpI a.length b.length, Lib.compareBytes a b] _ _ (by simp)) (by simp)).mono ?_
  rintro e w3 ⟨rfl, rfl⟩
  go_wp2
  go_ret
  exact ⟨by rw [HE.out]; rfl, 0, #[_], rfl⟩

end Go.Proofs.YtbiinfnekhhfkaaGreat

/- Maps of texts to numbers that a call makes (layer 7): how they are asked and written. -/







namespace Go.Proofs.YtbiinfnekhhfkaaGreat
open Go.RowKit Go.Sort Go.Maps Go.WideAt Go.WideMaps
set_option linter.unusedVariables false

def ofI (xs : List Int) : Byt := xs.map fun n => UInt8.ofNat n.toNat
theorem strOf_eq (xs : List Int) : strOfNums xs = strB (ofI xs) := rfl
theorem toI_ofI {xs : List Int} (h : ∀ x ∈ xs, 0 ≤ x ∧ x ≤ 255) : toI (ofI xs) = xs := by
  unfold toI ofI
  rw [List.map_map]
  conv => rhs; rw [← List.map_id xs]
  apply List.map_congr_left
  intro x hx
  have := h x hx
  simp only [Function.comp, id, UInt8.toNat_ofNat']
  omega
theorem ofI_toI (l : Byt) : ofI (toI l) = l := toI_inj (toI_ofI fun x hx => by
  unfold toI at hx
  obtain ⟨b, _, rfl⟩ := List.mem_map.1 hx
  have := b.toNat_lt
  omega)
theorem strB_size (l : Byt) : (strB l).size = l.length := by simp [strB, ByteArray.size]

theorem str_law : Keyed Tryz.prog 9 := Keyed.of_law (string_law Tryz.underlying9)
theorem str_key (l : Byt) (h : l.length ≤ maxLen) : keyOf Tryz.prog 9 (strV l) = some (.string l) := by
  have := keyOf_string_mk (P := Tryz.prog) Tryz.underlying9 (s := strB l) (by rw [strB_size]; exact h)
  have e : (strB l).data.toList = l := by simp [strB]
  rw [e] at this
  exact this
theorem zero_int7 (w : World) : (zeroValue 3).run Tryz.prog w = .ok (.int .i64 0) w := by kernel_rfl

/-- A map of the call's own, of texts to numbers: what it says of each. -/
def MS (W : World) (b n : Nat) (f : Byt → Option Int) : Prop :=
  ∃ D : DataW Unit, W.ownsMap Tryz.prog 9 (plainElem Tryz.prog 3) b n D ∧ IsMap D ∧ ∀ l : Byt, Maps.has D (.string l) = (f l).isSome ∧ ∀ m, f l = some m → D.atKey (.string l) (.lit (.int .i64 0)) = .lit (.int .i64 m)
theorem MS.start {b : Nat} (w : World) (hD : w.ownsMap Tryz.prog 9 (plainElem Tryz.prog 3) b 0 (.map [] : DataW Unit)) : MS w b 0 (fun _ => none) :=
  ⟨_, hD, isMap_empty, fun l => ⟨rfl, fun m h => by cases h⟩⟩
theorem MS.kept {W W' : World} {b n : Nat} {f : Byt → Option Int} {row : Option Nat} (h : MS W b n f) (hg : W.grownBy W' row) (hne : row ≠ some b) : MS W' b n f := by
  obtain ⟨D, h1, h2⟩ := h
  exact ⟨D, h1.kept hg (fun e => hne e.symm), h2⟩
theorem MS.alloc {W : World} {b n : Nat} {f : Byt → Option Int} (h : MS W b n f) (o : Obj) : MS (W.alloc o) b n f := by
  obtain ⟨D, h1, h2⟩ := h
  exact ⟨D, h1.alloc o, h2⟩
theorem MS.mono {W : World} {b n m : Nat} {f : Byt → Option Int} (h : MS W b n f) (hm : n ≤ m) : MS W b m f := by
  obtain ⟨D, h1, h2⟩ := h
  exact ⟨D, h1.mono hm, h2⟩

section
variable {w : World} {ops : Array Oper} {rest : List Oper} {o : Oper} {a : Act} {Q : Exit → Act → World → Prop} {b n : Nat} {f : Byt → Option Int}
theorem wpList_ms_ok (hg : o.guard = none) (m x : Operand) (hop : o.op = Op.lookup 160 m x true) (hm : a.eval m = .map (some b)) (hown : MS w b n f) (l : Byt) (hx : a.eval x = strV l) (hl : l.length ≤ maxLen)
    (hK : ∀ c : Int, (∀ q, f l = some q → c = q) → wpList Tryz.prog ops Q rest (a.put o.dst (.tuple #[.int .i64 c, .bool (f l).isSome])) w) : wpList Tryz.prog ops Q (o :: rest) a w := by
  obtain ⟨D, h1, h2, h3⟩ := hown
  refine wpList_lookup_own_ok_int _ hg m x 160 hop 9 3 .i64 str_law Tryz.underlying160 Tryz.underlying3 (zero_int7 _) b n D hm h1 _ _ hx (str_key l hl) ?_
  intro c hat _
  rw [(h3 l).1]
  exact hK c fun q hq => by have := hat.symm.trans ((h3 l).2 q hq); simpa using this
theorem MS.put_ {D : DataW Unit} {v : Int} {l : Byt} (h2 : IsMap D) (h3 : ∀ l : Byt, Maps.has D (.string l) = (f l).isSome ∧ ∀ m, f l = some m → D.atKey (.string l) (.lit (.int .i64 0)) = .lit (.int .i64 m)) (hl : l.length ≤ maxLen) :
    IsMap (D.put (.string l) (.lit (.int .i64 v))) ∧ ∀ k : Byt, Maps.has (D.put (.string l) (.lit (.int .i64 v))) (.string k) = (if k = l then some v else f k).isSome ∧ ∀ m, (if k = l then some v else f k) = some m → (D.put (.string l) (.lit (.int .i64 v))).atKey (.string k) (.lit (.int .i64 0)) = .lit (.int .i64 m) := by
  have hkk := str_law.key (str_key l hl)
  refine ⟨h2.put _ _, fun k => ?_⟩
  by_cases e : k = l
  · subst e
    rw [if_pos rfl]
    refine ⟨by rw [has_put_same h2 hkk]; rfl, fun m hm => ?_⟩
    obtain rfl := Option.some.inj hm
    rw [atKey_put_same h2 hkk]
  · have e' : (Lit.string k) ≠ Lit.string l := fun h => e (by injection h)
    rw [if_neg e]
    exact ⟨by rw [has_put_other e', (h3 k).1], fun m hm => by rw [atKey_put_other e', (h3 k).2 m hm]⟩
theorem wpList_ms_put (hg : o.guard = none) (m x y : Operand) (hop : o.op = Op.mapUpdate 160 m x y) (hm : a.eval m = .map (some b)) (hown : MS w b n f) (hn : n < maxLen) (l : Byt) (v : Int) (hv : (Lit.int .i64 v).wf = true) (hx : a.eval x = strV l) (hy : a.eval y = .int .i64 v) (hl : l.length ≤ maxLen)
    (hK : ∀ w', MS w' b (n + 1) (fun k => if k = l then some v else f k) → w.grownBy w' (some b) → wpList Tryz.prog ops Q rest (a.put o.dst undef) w') : wpList Tryz.prog ops Q (o :: rest) a w := by
  obtain ⟨D, h1, h2, h3⟩ := hown
  obtain ⟨q1, q2⟩ := MS.put_ (f := f) (v := v) h2 h3 hl
  refine wpList_mapUpdate_own _ hg m x y 160 hop 9 3 str_law Tryz.underlying160 _ b n D hm h1 hn _ _ _ hx hy (str_key l hl) _ [] (plainElem_int Tryz.underlying3 hv) ?_
  intro w' hw hgr
  exact hK w' ⟨_, hw, q1, q2⟩ hgr
theorem wpList_ms_ins (hg : o.guard = none) (m x y : Operand) (hop : o.op = Op.insert 160 m x y) (hm : a.eval m = .map (some b)) (hown : MS w b n f) (hn : n < maxLen) (l : Byt) (v : Int) (hv : (Lit.int .i64 v).wf = true) (hx : a.eval x = strV l) (hy : a.eval y = .int .i64 v) (hl : l.length ≤ maxLen)
    (hK : ∀ w', MS w' b (n + 1) (fun k => if k = l then some v else f k) → w.grownBy w' (some b) → wpList Tryz.prog ops Q rest (a.put o.dst undef) w') : wpList Tryz.prog ops Q (o :: rest) a w := by
  obtain ⟨D, h1, h2, h3⟩ := hown
  obtain ⟨q1, q2⟩ := MS.put_ (f := f) (v := v) h2 h3 hl
  refine wpList_plain hg fun K' hK' => ?_
  obtain ⟨w', hrun, r1, r2⟩ := h1.update str_law Tryz.underlying160 hn (str_key l hl) (plainElem_int Tryz.underlying3 hv)
  unfold Oper.wp
  simp [execOp, hop, hm, hx, hy, hrun, Result.andThen]
  exact hK' _ _ (hK w' ⟨_, r1, q1, q2⟩ r2)
end

end Go.Proofs.YtbiinfnekhhfkaaGreat

/- The beginnings of words, sorted (layer 7): walked. -/



namespace Go.Proofs.YtbiinfnekhhfkaaGreat
open Go.RowKit Go.Sort
set_option linter.unusedVariables false
set_option linter.unusedSimpArgs false

/-! ### plain -/
def accB (l : List Byt) (b : Byt) : List Byt := if b ∈ l then l else l ++ [b]
def begWd (l : List Byt) (x : Byt) (k : Nat) : List Byt := (List.range k).foldl (fun l j => accB l (x.take (j + 1))) l
def begAll (ws : List Byt) : List Byt := ws.foldl (fun l x => begWd l x x.length) [[]]
theorem begWd_succ (l : List Byt) (x : Byt) (k : Nat) : begWd l x (k + 1) = accB (begWd l x k) (x.take (k + 1)) := by simp [begWd, List.range_succ, List.foldl_append]
theorem begAll_snoc (ws : List Byt) (x : Byt) : begAll (ws ++ [x]) = begWd (begAll ws) x x.length := by simp [begAll, List.foldl_append]
theorem mem_accB {l : List Byt} {b x : Byt} : x ∈ accB l b ↔ x ∈ l ∨ x = b := by
  unfold accB
  split
  · constructor
    · exact .inl
    · rintro (h | rfl) <;> assumption
  · simp
theorem accB_nodup {l : List Byt} {b : Byt} (h : l.Nodup) : (accB l b).Nodup := by
  unfold accB
  split
  · exact h
  · rename_i hb
    rw [List.nodup_append]
    refine ⟨h, by simp, fun a ha c hc e => ?_⟩
    simp at hc
    subst hc
    subst e
    exact hb ha
theorem accB_len (l : List Byt) (b : Byt) : l.length ≤ (accB l b).length ∧ (accB l b).length ≤ l.length + 1 := by
  unfold accB
  split <;> simp
theorem begWd_len (l : List Byt) (x : Byt) : ∀ k, l.length ≤ (begWd l x k).length ∧ (begWd l x k).length ≤ l.length + k
  | 0 => by simp [begWd]
  | k + 1 => by
    have h1 := begWd_len l x k
    have h2 := accB_len (begWd l x k) (x.take (k + 1))
    rw [begWd_succ]; omega
theorem begWd_spec {l : List Byt} (x : Byt) (h : l.Nodup) : ∀ k, (begWd l x k).Nodup ∧ ∀ y, y ∈ begWd l x k ↔ y ∈ l ∨ ∃ j, 1 ≤ j ∧ j ≤ k ∧ y = x.take j
  | 0 => by
    refine ⟨by simpa [begWd] using h, fun y => ?_⟩
    constructor
    · intro hy; exact .inl (by simpa [begWd] using hy)
    · rintro (hy | ⟨j, h1, h2, _⟩)
      · simpa [begWd] using hy
      · omega
  | k + 1 => by
    obtain ⟨h1, h2⟩ := begWd_spec x h k
    rw [begWd_succ]
    refine ⟨accB_nodup h1, fun y => ?_⟩
    rw [mem_accB, h2]
    constructor
    · rintro ((hy | ⟨j, a1, a2, a3⟩) | hy)
      · exact .inl hy
      · exact .inr ⟨j, a1, by omega, a3⟩
      · exact .inr ⟨k + 1, by omega, by omega, hy⟩
    · rintro (hy | ⟨j, a1, a2, a3⟩)
      · exact .inl (.inl hy)
      · by_cases e : j = k + 1
        · subst e; exact .inr a3
        · exact .inl (.inr ⟨j, a1, by omega, a3⟩)
theorem begAll_spec (ws : List Byt) : (begAll ws).Nodup ∧ ∀ y, y ∈ begAll ws ↔ y = [] ∨ ∃ x ∈ ws, ∃ k, 1 ≤ k ∧ k ≤ x.length ∧ y = x.take k := by
  refine snoc_ind (P := fun ws => (begAll ws).Nodup ∧ ∀ y, y ∈ begAll ws ↔ y = [] ∨ ∃ x ∈ ws, ∃ k, 1 ≤ k ∧ k ≤ x.length ∧ y = x.take k) (by simp [begAll]) (fun ws x ⟨h1, h2⟩ => ?_) ws
  rw [begAll_snoc]
  obtain ⟨g1, g2⟩ := begWd_spec x h1 x.length
  refine ⟨g1, fun y => ?_⟩
  rw [g2, h2]
  constructor
  · rintro ((h | ⟨z, hz, r⟩) | ⟨j, a1, a2, a3⟩)
    · exact .inl h
    · exact .inr ⟨z, by simp [hz], r⟩
    · exact .inr ⟨x, by simp, j, a1, a2, a3⟩
  · rintro (h | ⟨z, hz, k, a1, a2, a3⟩)
    · exact .inl (.inl h)
    · rcases List.mem_append.1 hz with hz | hz
      · exact .inl (.inr ⟨z, hz, k, a1, a2, a3⟩)
      · simp at hz; subst hz; exact .inr ⟨k, a1, a2, a3⟩
def byteSum (ws : List Byt) : Nat := (ws.map List.length).sum
theorem begAll_len (ws : List Byt) : (begAll ws).length ≤ 1 + byteSum ws := by
  refine snoc_ind (P := fun ws => (begAll ws).length ≤ 1 + byteSum ws) (by simp [begAll, byteSum]) (fun ws x h => ?_) ws
  rw [begAll_snoc]
  have := (begWd_len (begAll ws) x x.length).2
  have e : byteSum (ws ++ [x]) = byteSum ws + x.length := by simp [byteSum]
  omega
theorem toI_take (x : Byt) (k : Nat) : toI (x.take k) = (toI x).take k := by simp [toI, List.map_take]
/-- Sorted, they are the nodes. -/
theorem sorted_nodes {wss : List (List Int)} (hb : ∀ w ∈ wss, ∀ x ∈ w, 0 ≤ x ∧ x ≤ 255) {l : List Byt} (h1 : l.Perm (begAll (wss.map ofI))) (h2 : SrtS (l.map toI)) : l.map toI = nodesL wss := by
  refine nodesL_unique h2 fun x => ?_
  rw [List.mem_map]
  constructor
  · rintro ⟨y, hy, rfl⟩
    rw [h1.mem_iff, (begAll_spec _).2] at hy
    rcases hy with rfl | ⟨z, hz, k, a1, a2, rfl⟩
    · exact .inl rfl
    · obtain ⟨w, hw, rfl⟩ := List.mem_map.1 hz
      refine .inr ⟨w, hw, k, a1, by simpa [ofI] using a2, ?_⟩
      rw [toI_take, toI_ofI (hb w hw)]
  · rintro (rfl | ⟨w, hw, k, a1, a2, rfl⟩)
    · exact ⟨[], by rw [h1.mem_iff, (begAll_spec _).2]; exact .inl rfl, rfl⟩
    · refine ⟨(ofI w).take k, ?_, by rw [toI_take, toI_ofI (hb w hw)]⟩
      rw [h1.mem_iff, (begAll_spec _).2]
      exact .inr ⟨ofI w, List.mem_map.2 ⟨w, hw, rfl⟩, k, a1, by simpa [ofI] using a2, rfl⟩

end Go.Proofs.YtbiinfnekhhfkaaGreat

/- Texts sorted; the beginnings of words (layer 7): walked. -/

namespace Go.Proofs.YtbiinfnekhhfkaaGreat
open Go.RowKit Go.Sort Go.Shelf
set_option linter.unusedVariables false
set_option linter.unusedSimpArgs false

theorem below_sortWorld {α : Type} [Inhabited α] (enc : α → Value) {B : Nat} {w0 W : World} (h : Below B w0 W) (g off n : Nat) (d : Array α) (os : Array Obj) (hg : B ≤ g) (hBW : B ≤ W.heap.size) : Below B w0 (sortWorld enc W g off n d os) := by
  have hsz : (sortWorld enc W g off n d os).heap.size = W.heap.size + os.size := by simp [sortWorld, putRow, mapBlock, Go.Sort.grow, Go.Sort.ahead]
  refine ⟨h.os, h.tape, h.output, by rw [hsz]; have := h.size; omega, fun k hk => ?_⟩
  have hk2 : k < W.heap.size := by omega
  refine Eq.trans ?_ (h.block k hk)
  show ((W.heap.modify g _) ++ os)[k]? = _
  rw [Array.getElem?_append_left (by simpa using hk2), Array.getElem?_modify, if_neg (by omega)]

theorem sortStr_any (g cap : Nat) (l : List Byt) (w : World) (hg : g < w.heap.size) (hc : ∀ i x, l[i]? = some x → w.cell? ⟨g, i, none⟩ = some (strV x) ∧ w.frozen? ⟨g, i, none⟩ = false) (hl : l.length < 4611686018427387904) :
    Calls Tryz.prog 135 #[.slice (some ⟨g, 0, none⟩) l.length cap, .func (.func 136) #[] #[]] w fun e w' => e = .returned (.tuple #[]) ∧
      ∃ l' : List Byt, l'.Perm l ∧ l'.Pairwise (fun a b => ltS (toI b) (toI a) = false) ∧ Sl1 strV w' (some ⟨g, 0, none⟩) l.length l' ∧ ∀ B w0, Below B w0 w → B ≤ g → B ≤ w.heap.size → Below B w0 w' := by
  have hH : Holds strV w g 0 l.toArray := fun j hj => by
    have hj' : j < l.length := by simpa using hj
    obtain ⟨h1, h2⟩ := hc j l[j] (by simp)
    rw [Nat.zero_add]
    refine ⟨?_, h2⟩
    rw [h1, getElem!_pos l.toArray j hj]
    simp
  have h := Any.slices_SortFunc_total (P := Tryz.prog) (ρ := sortStr_ren) sortStr strV (fun _ => rfl) cfS cfS_swo 136 #[] g 0 cap l.toArray w (enters_of Tryz.func136 (by kernel_rfl) rfl)
    (fun m os dk hs x y => by
      have := begCmp_any x y (sortWorld strV w g 0 m dk os)
      exact this)
    hH hg (by simpa using hl) cfS_total
  have hsz : l.toArray.size = l.length := by simp
  rw [hsz] at h
  refine Calls.mono h ?_
  rintro e w' ⟨he, n, os, rfl⟩
  have hperm : (l.mergeSort fun x y => !(ltOf cfS) y x).Perm l := List.mergeSort_perm l _
  have hsorted : (l.mergeSort fun x y => !(ltOf cfS) y x).Pairwise (fun x y => (!(ltOf cfS) y x) = true) := by
    refine List.pairwise_mergeSort (le := fun x y => !(ltOf cfS) y x) (fun a b c h1 h2 => ?_) (fun a b => ?_) l
    · simp only [Bool.not_eq_true', Bool.not_eq_eq_eq_not, Bool.not_true] at h1 h2 ⊢
      exact cfS_swo.ntrans _ _ _ h2 h1
    · cases e1 : ltOf cfS b a with
      | false => simp
      | true =>
        cases e2 : ltOf cfS a b with
        | false => simp
        | true => exact absurd (cfS_swo.trans _ _ _ e1 e2) (by rw [cfS_swo.irrefl]; simp)
  refine ⟨he, _, hperm, hsorted.imp fun {a b} h => ?_, ⟨hperm.length_eq, .inr ⟨g, 0, rfl, lt_sortWorld _ _ _ _ _ _ _ hg, fun i x hx => ?_⟩⟩, fun B w0 hb h1 h2 => below_sortWorld _ hb _ _ _ _ _ h1 h2⟩
  · rw [← ltOf_cfS]
    simpa using h
  · have hH2 := holds_sortWorld strV w g 0 n l.toArray (l.mergeSort fun x y => !(ltOf cfS) y x).toArray os hg hH (by simp [hperm.length_eq])
    have hi := (List.getElem?_eq_some_iff.1 hx)
    have := (hH2 i (by simpa using hi.1)).1
    rw [getElem!_pos _ i (by simpa using hi.1)] at this
    simp only [List.getElem_toArray] at this
    rw [hi.2] at this
    rwa [Nat.zero_add] at this ⊢

end Go.Proofs.YtbiinfnekhhfkaaGreat

/- The beginnings of words (layer 7): walked. -/

namespace Go.Proofs.YtbiinfnekhhfkaaGreat
open Go.RowKit Go.Sort
set_option linter.unusedVariables false
set_option linter.unusedSimpArgs false

theorem str_info : (Tryz.prog.info? 9).map (fun i => (i.zero, i.size, i.bytes)) = some (some (.string ⟨#[]⟩), 1, 16) := by kernel_rfl
abbrev OwnT (w : World) (base : Nat) (v : Value) (l : List Byt) : Prop := w.ownsRow base 9 1 v l.length (l.map strV)
theorem wf_i {n : Nat} (h : n ≤ 1000000000) : (Lit.int .i64 (n : Int)).wf = true := by
  simp [Lit.wf, IntKind.min, IntKind.max, IntKind.signed, IntKind.bits]; omega
theorem begs_step {lst : List Byt} {f : Byt → Option Int} (hf : ∀ x, (f x).isSome = decide (x ∈ lst)) {b : Byt} {v : Int} : ∀ x, (if x = b then some v else f x).isSome = decide (x ∈ lst ++ [b]) := fun x => by
  by_cases e : x = b
  · rw [if_pos e]; simp [e]
  · rw [if_neg e, hf x]; simp [e]

theorem byteSum_take (wss : List (List Int)) (k : Nat) : byteSum ((wss.take k).map ofI) ≤ byteSum (wss.map ofI) := by
  have e : byteSum (wss.map ofI) = byteSum ((wss.take k).map ofI) + byteSum ((wss.drop k).map ofI) := by
    unfold byteSum
    rw [← List.sum_append, ← List.map_append, ← List.map_append, List.take_append_drop]
  omega
theorem ne_own {w : World} {n : Nat} {e : TypeId} {size k : Nat} {v : Value} {xs : List Value} (h : w.ownsRow (n + 1) e size v k xs) : v.ownBlock = none ∨ v.ownBlock ≠ some n := by
  rcases h.2 with ⟨rfl, _⟩ | ⟨g, cap, cur, rfl, hg, _⟩
  · exact .inl rfl
  · exact .inr (by simp [Value.ownBlock]; omega)
theorem Wds.bytes {w : World} {a : Option Addr} {la : Nat} {wss : List (List Int)} (h : Wds w a la wss) : ∀ x ∈ wss, ∀ c ∈ x, 0 ≤ c ∧ c ≤ 255 := fun x hx c hc => by
  obtain ⟨i, hi⟩ := List.getElem?_of_mem hx
  have hl := (List.getElem?_eq_some_iff.1 hi).1
  rw [h.len] at hl
  obtain ⟨_, _, _, _, _, x', _, _, _, hx', hX, _⟩ := h.at_ hl
  rw [hi] at hx'
  rw [Option.some.inj hx'] at hc
  exact hX.2 c hc
/-- What lies there while the beginnings are gathered. -/
structure GB (w : World) (s4 : Value) (lst : List Byt) (W : World) : Prop where
  bel : Below w.heap.size w W
  row : OwnT W (w.heap.size + 1) s4 lst
  map : ∃ f, MS W w.heap.size lst.length f ∧ ∀ x, (f x).isSome = decide (x ∈ lst)
  sz : w.heap.size + 1 < W.heap.size

set_option maxRecDepth 100000 in
set_option maxHeartbeats 4000000 in
theorem begs_any (a : Option Addr) (la ca : Nat) (wss : List (List Int)) (w : World) (hA : Wds w a la wss) (hla : la ≤ 1000000) (hM : ∀ x ∈ wss, x.length ≤ 1000000) (hS : byteSum (wss.map ofI) ≤ 1000000) :
    Calls Tryz.prog 102 #[.slice a la ca] w fun e w' => ∃ (a' : Option Addr) (n c : Nat) (l : List Byt), e = .returned (.slice a' n c) ∧ n = l.length ∧ l.map toI = nodesL wss ∧ Sl1 strV w' a' n l ∧ Below w.heap.size w w' := by
  obtain ⟨i0, hi, hz0, hz1, hz2⟩ := info_parts str_info
  have HL := Lib.hid hA.len
  have HBY := Lib.hid hA
  have hmm := @run_makeMap Tryz.prog
  have m0 : (w.alloc (Obj.map #[] 0)).ownsMap Tryz.prog 9 (plainElem Tryz.prog 3) w.heap.size 0 (.map [] : DataW Unit) := World.ownsMap_made w Tryz.prog 9 (plainElem Tryz.prog 3)
  go_enter Tryz.func102, Tryz.ntmps102
  go_upto_region 2 with (refine wpList_ms_ins rfl _ _ _ rfl rfl (MS.start (b := w.heap.size) _ m0) (by unfold maxLen; omega) [] 0 rfl rfl rfl (by simp) ?_; intro w1 hm1 hg1)
  have hs1 : w.heap.size + 1 ≤ w1.heap.size := by have := hg1.size; simp at this; omega
  have hB1 : Below w.heap.size w w1 := (below_alloc w (Obj.map #[] 0)).grown hg1 (by simp) (fun k e => by cases e; exact Nat.le_refl _)
  have hG0 : GB w (.slice (some ⟨w1.heap.size, 0, none⟩) 1 1) [[]] (w1.alloc (.cells #[strV []] 9)) :=
    ⟨hB1.alloc (by omega) _, ⟨rfl, .inr ⟨w1.heap.size, 1, #[strV []], rfl, hs1, World.alloc_heap_new _ _, Nat.le_refl _, by unfold maxLen; omega, rfl, rfl⟩⟩, ⟨_, hm1.alloc _, fun x => by by_cases e : x = [] <;> simp [e]⟩, by simp; omega⟩
  have HG0 := Lib.hid hG0
  clear hm1 hg1 hB1 hG0 m0
  go_wp2
  go_loopw [4, 16] (fun s4 s16 wr => ∃ (k : Nat) (lst : List Byt) (v : Value), v = s4 ∧ k ≤ la ∧ s16 = .int .i64 k ∧ Hid (lst = begAll ((wss.take k).map ofI)) ∧ GB w v lst wr) (fun _ i _ => la - (intOf i).toNat)
  case atStart => exact ⟨0, [[]], _, rfl, Nat.zero_le _, rfl, rfl, HG0.out⟩
  case round =>
    clear HG0
    obtain ⟨k, lst, v, rfl, hk, rfl, HLS, hG⟩ := hrel
    have hlen : lst.length ≤ 1000001 := by rw [HLS.out]; have h1 := begAll_len ((wss.take k).map ofI); have h2 := byteSum_take wss k; omega
    by_cases hlt : k < la
    · have hdk : decide ((k : Int) < la) = true := by simp; omega
      obtain ⟨bb, off, ax, lx, cx, x, hbb, hbl, hcell, hx, hX, hlc⟩ := (hA.below hG.bel).at_ hlt
      have hbw : bb < w.heap.size := by
        obtain ⟨_, _, _, _, _, _, e, hlt2, _⟩ := hA.at_ hlt
        rw [hbb] at e
        injection e with e
        injection e with e1 e2
        omega
      subst hbb
      have hX0 : Bys w ax lx x := by
        obtain ⟨_, _, ax', lx', cx', x', e, hlt2, hcell', hx', hX', _⟩ := hA.at_ hlt
        injection e with e
        injection e with e1 e2 e3
        subst e1 e2
        have e4 := (hG.bel.cell (p := ⟨bb, off + k, none⟩) hbw).trans hcell'
        rw [hcell] at e4
        injection e4 with e4
        injection e4 with e5 e6 e7
        subst e5 e6 e7
        rw [hx] at hx'
        rw [Option.some.inj hx']
        exact hX'
      have hxl : lx ≤ 1000000 := by have := mem_bd hM hx; rw [hX.len] at this; exact this
      have HX := Lib.hid hx
      have HXL := Lib.hid hX.len
      clear hx hX
      go_wp2
      clear hcell
      go_loopw [4, 22] (fun s4 s22 wr => ∃ (j : Nat) (l2 : List Byt) (v : Value), v = s4 ∧ j ≤ lx ∧ s22 = .int .i64 j ∧ Hid (l2 = begWd lst (ofI x) j) ∧ GB w v l2 wr) (fun _ i _ => lx - (intOf i).toNat)
      case atStart => exact ⟨0, lst, _, rfl, Nat.zero_le _, rfl, rfl, hG⟩
      case round =>
        clear hG
        obtain ⟨j, l2, v, rfl, hj, rfl, HL2, hG⟩ := hrel
        have hl2 : l2.length ≤ 2000001 := by rw [HL2.out]; have := (begWd_len lst (ofI x) j).2; omega
        by_cases hjl : j < lx
        · have hdj : decide ((j : Int) < lx) = true := by simp; omega
          have hjc : (j : Int) + 1 ≤ cx := by omega
          have hjc2 : j + 1 ≤ cx := by omega
          have cv := conv_bys ((hX0.below hG.bel).take (m := j + 1) (by omega)) cx
          rw [strOf_eq] at cv
          have hbl : (ofI (x.take (j + 1))).length ≤ maxLen := by simp [ofI]; unfold maxLen; omega
          have hbe : Hid (ofI (x.take (j + 1)) = (ofI x).take (j + 1)) := by simp [Hid, ofI, List.map_take]
          obtain ⟨b, hbd⟩ : ∃ b, ofI (x.take (j + 1)) = b := ⟨_, rfl⟩
          rw [hbd] at cv hbl hbe
          obtain ⟨f, hms, hfs⟩ := hG.map
          have HFS := Lib.hid hfs
          clear hfs hbd
          by_cases hm : b ∈ l2
          · have hsm : (f b).isSome = true := by rw [HFS.out]; simp [hm]
            have HN : Hid (l2 = begWd lst (ofI x) (j + 1)) := by rw [Hid, begWd_succ, ← HL2.out, ← hbe.out]; unfold accB; rw [if_pos hm]
            clear hm
            go_wp2_with (at_lookup; refine wpList_ms_ok rfl _ _ rfl rfl hms b rfl hbl ?_; intro c' hc'; rw [hsm])
            go_roundw
            case rel => exact ⟨j + 1, l2, _, rfl, by omega, by go_num, HN, hG⟩
            case measure => simp [intOf]; omega
          · have hsm : (f b).isSome = false := by rw [HFS.out]; simp [hm]
            have HN : Hid (l2 ++ [b] = begWd lst (ofI x) (j + 1)) := by rw [Hid, begWd_succ, ← HL2.out, ← hbe.out]; unfold accB; rw [if_neg hm]
            have hrow := hG.row
            obtain ⟨m, hmd⟩ : ∃ m, l2.length = m := ⟨_, rfl⟩
            unfold OwnT at hrow
            rw [hmd] at hrow hms hl2
            have HMD := Lib.hid hmd
            obtain ⟨a4, c4, rfl, hc4, _⟩ := own_sl1 hrow
            have hb4 := hG.bel
            have hsz := hG.sz
            clear hm hmd
            go_wp2_with (first
              | (at_lookup; refine wpList_ms_ok rfl _ _ rfl rfl hms b rfl hbl ?_; intro c' hc'; rw [hsm])
              | (at_mapUpdate; refine wpList_ms_put rfl _ _ _ rfl rfl hms (by unfold maxLen; omega) b m (wf_i (by omega)) rfl rfl hbl ?_; intro w5 hms5 hg5; have hrow5 := hrow.kept hg5 (ne_own hrow); have hB5 : Below w.heap.size w w5 := hb4.grown hg5 hb4.size (fun k e => by cases e; exact Nat.le_refl _); have hs5 := hg5.size)
              | (at_builtin; refine wpList_append_own _ rfl _ _ 163 rfl (w.heap.size + 1) 9 i0 (.string ⟨#[]⟩) 1 16 Tryz.underlying163 hi hz0 hz1 hz2 rfl (by decide) _ _ _ rfl (hrow5.alloc _) ⟨w5.heap.size, 0, none⟩ 1 1 [strV b] rfl rfl (cells_new _ _ (by simp)) (by simp [Value.oneCell']) (by unfold maxLen; omega) (by omega) (by simp; omega) ?_; intro v' w6 hown6 hg6 hnil))
            have hs6 := hg6.size
            simp at hs6
            have hG6 : Hid (GB w v' (l2 ++ [b]) w6) := by
              refine ⟨(hB5.alloc hB5.size _).grown hg6 (by simp; omega) (fun k e => by have := (hrow5.lt k e).1; omega), ?_, ⟨_, ?_, begs_step (b := b) (v := (m : Int)) HFS.out⟩, by omega⟩
              · unfold OwnT
                rw [List.length_append, HMD.out, List.map_append]
                exact hown6
              · rw [List.length_append, HMD.out]
                refine MS.kept (row := (Value.slice a4 m c4).ownBlock) (hms5.alloc _) hg6 ?_
                rcases ne_own hrow with e | e
                · rw [e]; simp
                · exact e
            clear hrow hrow5 hown6 hms hms5 hg5 hg6
            go_roundw
            case rel => exact ⟨j + 1, _, _, rfl, by omega, by go_num, HN, hG6.out⟩
            case measure => simp [intOf]; omega
        · obtain rfl : j = lx := by omega
          have hdj : decide ((j : Int) < j) = false := by simp
          have HN : Hid (l2 = begAll ((wss.take (k + 1)).map ofI)) := by
            rw [Hid, take_step HX.out, List.map_append, List.map_cons, List.map_nil, begAll_snoc, ← HLS.out, show (ofI x).length = j by simp [ofI, HXL.out]]
            exact HL2.out
          go_wp2
          go_roundw
          case rel => exact ⟨k + 1, l2, _, rfl, by omega, by go_num, HN, hG⟩
          case measure => simp [intOf]; omega
    · obtain rfl : k = la := by omega
      have hdk : decide ((k : Int) < k) = false := by simp
      have HLA : Hid (lst = begAll (wss.map ofI)) := by rw [Hid, HLS.out, List.take_of_length_le (by rw [HL.out]; exact Nat.le_refl _)]
      have hne : lst ≠ [] := fun e => by
        have := ((begAll_spec (wss.map ofI)).2 []).2 (.inl rfl)
        rw [← HLA.out, e] at this
        cases this
      rcases hG.row.2 with ⟨_, h0⟩ | ⟨g, cap, cur, rfl, hgb, hh, hn, hcm, hcs, hcc⟩
      · exact absurd (List.eq_nil_of_length_eq_zero h0) hne
      · have hgl : g < wr.heap.size := (Array.getElem?_eq_some_iff.1 hh).1
        have hcells : ∀ i x, lst[i]? = some x → wr.cell? ⟨g, i, none⟩ = some (strV x) ∧ wr.frozen? ⟨g, i, none⟩ = false := fun i x hx => by
          have hil := (List.getElem?_eq_some_iff.1 hx).1
          have h1 : (cur.toList.take (lst.length * 1))[i]? = some (strV x) := by rw [hcc]; simp [hx]
          rw [List.getElem?_take, if_pos (by omega)] at h1
          have h2 : cur[i]? = some (strV x) := by simpa using h1
          simp [World.cell?, World.frozen?, hh, h2]
        have HSO := Lib.hid (sortStr_any g cap lst wr hgl hcells (by omega))
        have hB := hG.bel
        have hgb2 : w.heap.size ≤ g := by omega
        have HBY2 := Lib.hid (HBY.out.bytes)
        clear hcells hh hcc hcs hG hne
        go_wp2_with fail
        refine HSO.out.mono ?_
        rintro e w2 ⟨rfl, l', hp, hs, hsl, hbw⟩
        have hB2 : Below w.heap.size w w2 := hbw _ _ hB hgb2 hB.size
        have HN : Hid (l'.map toI = nodesL wss) := by
          refine sorted_nodes HBY2.out (by rw [← HLA.out]; exact hp) ?_
          have hnd : l'.Nodup := by rw [hp.nodup_iff, HLA.out]; exact (begAll_spec _).1
          rw [List.nodup_iff_pairwise_ne] at hnd
          rw [SrtS, List.pairwise_map]
          refine (hs.and hnd).imp fun {a b} ⟨h1, h2⟩ => ?_
          cases e : ltS (toI a) (toI b) with
          | true => rfl
          | false => exact absurd (toI_inj (ltS_total e h1)) h2
        have HLEN : Hid (lst.length = l'.length) := hp.length_eq.symm
        clear hp hs hbw hB HSO
        go_wp2
        go_ret
        exact ⟨_, _, _, l', rfl, HLEN.out, HN.out, hsl, hB2⟩

end Go.Proofs.YtbiinfnekhhfkaaGreat
