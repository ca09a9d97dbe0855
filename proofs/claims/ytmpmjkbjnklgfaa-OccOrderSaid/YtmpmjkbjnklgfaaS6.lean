/- A row of texts that the call makes, each in memory of its own. -/
import Derived.Test.YtmpmjkbjnklgfaaS5
import Derived.Lib.OwnKind
namespace Go.Proofs.Ytmpmjkbjnklgfaa
open Go.RowKit Go.Sort
set_option linter.unusedVariables false

theorem own_far {w : World} {B size n g : Nat} {e t : TypeId} {v : Value} {xs : List Value} {cs : Array Value} {fz : Nat × Nat} (h : w.ownsRow B e size v n xs) (hg : w.heap[g]? = some (.cells cs t fz)) (hne : t ≠ e) : v.ownBlock ≠ some g := by
  intro hv
  obtain ⟨c, f, hc⟩ := Lib.ownsRow_kind h g hv
  rw [hc] at hg
  injection hg with hg
  injection hg with _ ht
  exact hne ht.symm
theorem own_below_ {w w' : World} {B size n : Nat} {e : TypeId} {v : Value} {xs : List Value} (h : w.ownsRow B e size v n xs) (hb : Below w.heap.size w w') : w'.ownsRow B e size v n xs :=
  h.kept (row := none) (grownBy_of_below hb) (by cases v.ownBlock <;> simp)

/-- A row of texts that the call made. -/
def OwnW (w : World) (base : Nat) (v : Value) (wss : List (List Int)) : Prop :=
  ∃ es : List Value, w.ownsRow base 40 1 v wss.length es ∧ es.length = wss.length ∧ ∀ (i : Nat) (e : Value) (xs : List Int), es[i]? = some e → wss[i]? = some xs → OwnB w base e xs.length xs ∧ ∀ x ∈ xs, 0 ≤ x ∧ x ≤ 255
theorem OwnW.nil (w : World) (base : Nat) : OwnW w base (.slice none 0 0) [] := ⟨[], World.ownsRow_nil _ _ _ _, rfl, fun i e xs h => by simp at h⟩
theorem OwnW.below {w w' : World} {base : Nat} {v : Value} {wss : List (List Int)} (h : OwnW w base v wss) (hb : Below w.heap.size w w') : OwnW w' base v wss := by
  obtain ⟨es, h1, h2, h3⟩ := h
  exact ⟨es, own_below_ h1 hb, h2, fun i e xs he hx => ⟨own_below_ (h3 i e xs he hx).1 hb, (h3 i e xs he hx).2⟩⟩
/-- .. a store into a block of another kind leaves it. -/
theorem OwnW.turned {w w' : World} {base g : Nat} {v : Value} {wss : List (List Int)} {cs : Array Value} {t : TypeId} {fz : Nat × Nat} (h : OwnW w base v wss) (hb : w.grownBy w' (some g)) (hg : w.heap[g]? = some (.cells cs t fz)) (h1 : t ≠ 40) (h2 : t ≠ 5) : OwnW w' base v wss := by
  obtain ⟨es, e1, e2, e3⟩ := h
  exact ⟨es, e1.kept hb (.inr (own_far e1 hg h1)), e2, fun i e xs he hx => ⟨(e3 i e xs he hx).1.kept hb (.inr (own_far (e3 i e xs he hx).1 hg h2)), (e3 i e xs he hx).2⟩⟩
theorem OwnW.wds {w : World} {base : Nat} {v : Value} {wss : List (List Int)} (h : OwnW w base v wss) : ∃ a c, v = .slice a wss.length c ∧ wss.length ≤ c ∧ Wds w a wss.length wss := by
  obtain ⟨es, h1, h2, h3⟩ := h
  have hv : ∀ (i : Nat) (e : Value), es[i]? = some e → ∃ a l c xs, e = Value.slice a l c ∧ wss[i]? = some xs ∧ Bys w a l xs ∧ l ≤ c := by
    intro i e he
    have hi := (List.getElem?_eq_some_iff.1 he).1
    obtain ⟨xs, hx⟩ : ∃ xs, wss[i]? = some xs := ⟨wss[i]'(by omega), by simp⟩
    obtain ⟨ho, hb⟩ := h3 i e xs he hx
    obtain ⟨a, c, e1, hc, hB⟩ := own_bys ho hb
    exact ⟨a, _, c, xs, e1, hx, hB, hc⟩
  let f : Value → Option Addr × Nat × Nat := fun e => match e with | .slice a l c => (a, l, c) | _ => (none, 0, 0)
  have hmap : (es.map f).map (fun v => Value.slice v.1 v.2.1 v.2.2) = es := by
    apply List.ext_getElem?
    intro i
    rw [List.map_map, List.getElem?_map]
    cases he : es[i]? with
    | none => rfl
    | some e =>
      obtain ⟨a, l, c, xs, rfl, _⟩ := hv i e he
      rfl
  obtain ⟨a, c, e1, hc, hs⟩ := own_sl1 (enc := fun v : Option Addr × Nat × Nat => Value.slice v.1 v.2.1 v.2.2) (xs := es.map f) (by rw [hmap]; exact h1)
  refine ⟨a, c, e1, hc, es.map f, hs, by rw [List.length_map, h2], fun i v xs hvv hx => ?_⟩
  rw [List.getElem?_map, Option.map_eq_some_iff] at hvv
  obtain ⟨e, he, rfl⟩ := hvv
  obtain ⟨a', l, c', xs', rfl, hx', hB, hl⟩ := hv i e he
  rw [hx] at hx'
  obtain rfl := Option.some.inj hx'
  exact ⟨hB, hl⟩
theorem OwnW.step {W w' : World} {base : Nat} {v v' e : Value} {wss : List (List Int)} {xs : List Int} {es : List Value} (h1 : W.ownsRow base 40 1 v wss.length es) (h2 : es.length = wss.length)
    (h3 : ∀ (i : Nat) (e : Value) (xs : List Int), es[i]? = some e → wss[i]? = some xs → OwnB W base e xs.length xs ∧ ∀ x ∈ xs, 0 ≤ x ∧ x ≤ 255)
    (he : OwnB W base e xs.length xs) (hx : ∀ x ∈ xs, 0 ≤ x ∧ x ≤ 255) (hown : w'.ownsRow base 40 1 v' (wss.length + 1) (es ++ [e])) (hg : W.grownBy w' v.ownBlock) : OwnW w' base v' (wss ++ [xs]) := by
  have far : ∀ {e : Value} {n : Nat} {xs : List Int}, OwnB W base e n xs → e.ownBlock = none ∨ e.ownBlock ≠ v.ownBlock := by
    intro e n xs ho
    cases hv : v.ownBlock with
    | none => cases e.ownBlock <;> simp
    | some g =>
      right
      obtain ⟨c, fz, hc⟩ := Lib.ownsRow_kind h1 g hv
      exact own_far ho hc (of_decide_eq_true (by kernel_rfl))
  refine ⟨es ++ [e], by rw [List.length_append]; exact hown, by simp [h2], fun i e' ys he' hy => ?_⟩
  rw [List.getElem?_append] at he' hy
  by_cases hi : i < es.length
  · rw [if_pos hi] at he'
    rw [if_pos (by omega)] at hy
    obtain ⟨ho, hb⟩ := h3 i e' ys he' hy
    exact ⟨ho.kept hg (far ho), hb⟩
  · rw [if_neg hi] at he'
    rw [if_neg (by omega)] at hy
    have hi0 : i - es.length = 0 := by
      have := (List.getElem?_eq_some_iff.1 he').1
      simp at this
      omega
    rw [hi0] at he'
    rw [show i - wss.length = 0 by omega] at hy
    simp at he' hy
    subst he' hy
    exact ⟨he.kept hg (far he), hx⟩

/-- Words, each once, folded. -/
def addW (fold : Bool) (acc : List (List Int)) (x : List Int) : List (List Int) := if whichL fold x acc < 0 then acc ++ [foldL fold x] else acc
def makeL (fold : Bool) (wss : List (List Int)) : List (List Int) := wss.foldl (addW fold) []
theorem makeL_snoc (fold : Bool) (l : List (List Int)) (x : List Int) : makeL fold (l ++ [x]) = addW fold (makeL fold l) x := by simp [makeL, List.foldl_append]
theorem makeL_len (fold : Bool) (l : List (List Int)) : (makeL fold l).length ≤ l.length := by
  obtain ⟨n, hn⟩ : ∃ n, l.length = n := ⟨_, rfl⟩
  induction n generalizing l with
  | zero => obtain rfl := List.eq_nil_of_length_eq_zero hn; simp [makeL]
  | succ n ih =>
    obtain ⟨l', x, rfl⟩ : ∃ l' x, l = l' ++ [x] := ⟨l.dropLast, l.getLast (by intro h; simp [h] at hn), (List.dropLast_concat_getLast _).symm⟩
    have := ih l' (by simpa using hn)
    rw [makeL_snoc]
    unfold addW
    split <;> simp <;> omega
theorem makeL_mem {fold : Bool} {M : Nat} (l : List (List Int)) (h : ∀ x ∈ l, x.length ≤ M) : ∀ x ∈ makeL fold l, x.length ≤ M := by
  obtain ⟨n, hn⟩ : ∃ n, l.length = n := ⟨_, rfl⟩
  induction n generalizing l with
  | zero => obtain rfl := List.eq_nil_of_length_eq_zero hn; simp [makeL]
  | succ n ih =>
    obtain ⟨l', x, rfl⟩ : ∃ l' x, l = l' ++ [x] := ⟨l.dropLast, l.getLast (by intro h; simp [h] at hn), (List.dropLast_concat_getLast _).symm⟩
    have ih' := ih l' (fun y hy => h y (by simp [hy])) (by simpa using hn)
    rw [makeL_snoc]
    unfold addW
    split
    · intro y hy
      rcases List.mem_append.1 hy with hy | hy
      · exact ih' y hy
      · simp at hy; rw [hy, foldL_length]; exact h x (by simp)
    · exact ih'

end Go.Proofs.Ytmpmjkbjnklgfaa
