/- Parts of the proof, one behind the other: Gp, Gq, Gs, VG, Kp, H2, U1, U2, U3, U4. No condition but what each theorem states. -/
import Derived.Shelf.SlGeneric
import Derived.Shelf.SlLaysF
import Derived.Test.YtifcoalhkcflnaaProg
import Derived.Shelf.Small.Strs
import Derived.Shelf.SlSortCmp.NoneTotal
import Derived.Maps.Own
import Derived.Maps.OwnOps
import Derived.Maps.OwnSet
import Derived.Maps.Views
import Derived.StringKeys
import Derived.Deep.CutBlock
import Derived.Test.YtifcoalhkcflnaaM2
import Derived.Test.YtifcoalhkcflnaaM4
import Derived.Test.YtifcoalhkcflnaaM5

/- Plain words of layer 8: the longest end of a text that is a node; links, chains, steps. -/

namespace Go.Proofs.Ytifcoalhkcflnaa
set_option linter.unusedVariables false

/-- The longest end of a text that stands in a list. -/
def lsf (N : List (List Int)) : List Int → List Int
  | [] => []
  | a :: t => if (a :: t) ∈ N then a :: t else lsf N t
theorem lsf_suffix (N : List (List Int)) : ∀ b, lsf N b <:+ b
  | [] => List.suffix_refl _
  | a :: t => by
    unfold lsf
    split
    · exact List.suffix_refl _
    · exact (lsf_suffix N t).trans (List.suffix_cons a t)
theorem lsf_mem {N : List (List Int)} (h0 : [] ∈ N) : ∀ b, lsf N b ∈ N
  | [] => h0
  | a :: t => by
    unfold lsf
    split
    · assumption
    · exact lsf_mem h0 t
theorem lsf_max {N : List (List Int)} {y : List Int} (hy : y ∈ N) : ∀ {b}, y <:+ b → y.length ≤ (lsf N b).length
  | [], h => by rw [List.eq_nil_of_suffix_nil h]; exact Nat.zero_le _
  | a :: t, h => by
    unfold lsf
    split
    · exact h.length_le
    · rename_i hn
      rcases List.suffix_cons_iff.1 h with e | h
      · rw [e] at hy; exact absurd hy hn
      · exact lsf_max hy h
theorem lsf_of_mem {N : List (List Int)} {b : List Int} (h : b ∈ N) : lsf N b = b := by
  cases b with
  | nil => rfl
  | cons a t => unfold lsf; rw [if_pos h]
theorem suffix_eq {x y b : List Int} (hx : x <:+ b) (hy : y <:+ b) (h : x.length = y.length) : x = y := by
  obtain ⟨s, rfl⟩ := hx
  obtain ⟨t, ht⟩ := hy
  exact (List.append_inj_right' ht.symm (by omega))
theorem lsf_unique {N : List (List Int)} {b y : List Int} (hy : y ∈ N) (hs : y <:+ b) (h0 : [] ∈ N) (hm : ∀ z, z <:+ b → z ∈ N → z.length ≤ y.length) : lsf N b = y := by
  have h1 := lsf_max hy hs
  have h2 := hm _ (lsf_suffix N b) (lsf_mem h0 b)
  exact suffix_eq (lsf_suffix N b) hs (by omega)
/-- A list that has with a text all of its beginnings. -/
def Pre (N : List (List Int)) : Prop := [] ∈ N ∧ ∀ x c, x ++ [c] ∈ N → x ∈ N
theorem suffix_snoc {y b : List Int} {c : Int} (h : y <:+ b ++ [c]) : y = [] ∨ ∃ z, y = z ++ [c] ∧ z <:+ b := by
  by_cases e : y = []
  · exact .inl e
  · right
    obtain ⟨s, hs⟩ := h
    have h1 := List.dropLast_concat_getLast e
    rw [← h1, ← List.append_assoc] at hs
    obtain ⟨h2, h3⟩ := List.append_inj' hs rfl
    refine ⟨y.dropLast, ?_, s, h2⟩
    have h4 : y.getLast e = c := by simpa using h3
    rw [← h4, h1]
theorem lsf_step {N : List (List Int)} (hN : Pre N) (s : List Int) (c : Int) : lsf N (s ++ [c]) = lsf N (lsf N s ++ [c]) := by
  refine lsf_unique (lsf_mem hN.1 _) ?_ hN.1 (fun z hz hm => ?_)
  · refine (lsf_suffix N _).trans ?_
    obtain ⟨t, ht⟩ := lsf_suffix N s
    exact ⟨t, by rw [← List.append_assoc, ht]⟩
  · rcases suffix_snoc hz with rfl | ⟨y, rfl, hy⟩
    · exact Nat.zero_le _
    · have hyN := hN.2 _ _ hm
      have hle := lsf_max hyN hy
      refine lsf_max hm ?_
      obtain ⟨t, ht⟩ := List.suffix_of_suffix_length_le hy (lsf_suffix N s) hle
      exact ⟨t, by rw [← List.append_assoc, ht]⟩
/-- A node's link. -/
def linkL (N : List (List Int)) (x : List Int) : List Int := lsf N x.tail
/-- A node's chain. -/
def chainL (N : List (List Int)) : Nat → List Int → List (List Int)
  | 0, x => [x]
  | n + 1, x => if x = [] then [x] else x :: chainL N n (linkL N x)
theorem linkL_len {N : List (List Int)} {x : List Int} (h : x ≠ []) : (linkL N x).length < x.length := by
  have h1 := (lsf_suffix N x.tail).length_le
  have : x.length ≠ 0 := fun e => h (List.eq_nil_of_length_eq_zero e)
  rw [List.length_tail] at h1
  unfold linkL
  omega
theorem mem_chainL {N : List (List Int)} (h0 : [] ∈ N) : ∀ {n : Nat} {x y : List Int}, x ∈ N → x.length ≤ n → (y ∈ chainL N n x ↔ y <:+ x ∧ y ∈ N)
  | 0, x, y, hx, hn => by
    have : x = [] := List.eq_nil_of_length_eq_zero (by omega)
    subst this
    simp only [chainL, List.mem_singleton]
    constructor
    · rintro rfl; exact ⟨List.suffix_refl _, h0⟩
    · rintro ⟨h, _⟩; exact List.eq_nil_of_suffix_nil h
  | n + 1, x, y, hx, hn => by
    unfold chainL
    by_cases e : x = []
    · subst e
      rw [if_pos rfl, List.mem_singleton]
      constructor
      · rintro rfl; exact ⟨List.suffix_refl _, h0⟩
      · rintro ⟨h, _⟩; exact List.eq_nil_of_suffix_nil h
    · rw [if_neg e, List.mem_cons]
      have hl := linkL_len (N := N) e
      have ih := mem_chainL (N := N) h0 (n := n) (x := linkL N x) (y := y) (lsf_mem h0 _) (by omega)
      rw [ih]
      constructor
      · rintro (rfl | ⟨h1, h2⟩)
        · exact ⟨List.suffix_refl _, hx⟩
        · refine ⟨h1.trans ((lsf_suffix N x.tail).trans (List.tail_suffix x)), h2⟩
      · rintro ⟨h1, h2⟩
        by_cases e2 : y = x
        · exact .inl e2
        · right
          refine ⟨?_, h2⟩
          have hyt : y <:+ x.tail := by
            cases x with
            | nil => exact absurd rfl e
            | cons a t =>
              rcases List.suffix_cons_iff.1 h1 with e3 | h3
              · exact absurd e3 e2
              · exact h3
          exact List.suffix_of_suffix_length_le hyt (lsf_suffix N x.tail) (lsf_max h2 hyt)
theorem chainL_head (N : List (List Int)) (n : Nat) (x : List Int) : ∃ l, chainL N n x = x :: l := by
  cases n with
  | zero => exact ⟨[], rfl⟩
  | succ n =>
    unfold chainL
    split
    · exact ⟨[], rfl⟩
    · exact ⟨_, rfl⟩
theorem lsf_none {N : List (List Int)} {c : Int} (h : [c] ∉ N) : lsf N [c] = [] := by
  unfold lsf
  rw [if_neg h]
  rfl
/-- A step asks the chain: the first of its nodes that has a kid by the byte. -/
theorem step_chain {N : List (List Int)} (hN : Pre N) (c : Int) : ∀ {n : Nat} {x : List Int}, x ∈ N → x.length ≤ n →
    lsf N (x ++ [c]) = match (chainL N n x).find? (fun y => decide (y ++ [c] ∈ N)) with | some y => y ++ [c] | none => []
  | n, x, hx, hn => by
    by_cases hk : x ++ [c] ∈ N
    · rw [lsf_of_mem hk]
      obtain ⟨l, hl⟩ := chainL_head N n x
      rw [hl, List.find?_cons, decide_eq_true hk]
    · cases n with
      | zero =>
        have : x = [] := List.eq_nil_of_length_eq_zero (by omega)
        subst this
        have hk' : [c] ∉ N := hk
        show lsf N [c] = _
        rw [lsf_none hk']
        unfold chainL
        rw [List.find?_cons, decide_eq_false hk]
        rfl
      | succ n =>
        unfold chainL
        by_cases e : x = []
        · subst e
          have hk' : [c] ∉ N := hk
          show lsf N [c] = _
          rw [lsf_none hk', if_pos rfl, List.find?_cons, decide_eq_false hk]
          rfl
        · rw [if_neg e, List.find?_cons, decide_eq_false hk]
          dsimp only
          have ih := step_chain hN c (n := n) (x := linkL N x) (lsf_mem hN.1 _) (by have := linkL_len (N := N) e; omega)
          rw [← ih]
          unfold linkL
          rw [← lsf_step hN]
          cases x with
          | nil => exact absurd rfl e
          | cons a t =>
            have hk' : a :: (t ++ [c]) ∉ N := hk
            show lsf N (a :: (t ++ [c])) = lsf N (t ++ [c])
            conv => lhs; unfold lsf
            rw [if_neg hk']
theorem nodes_pre (ws : List (List Int)) : Pre (nodesL ws) :=
  ⟨(mem_nodesL ws).2 (.inl rfl), fun x c h => by
    have := ((mem_nodesL ws).1 h).up
    rw [List.dropLast_concat] at this
    exact (mem_nodesL ws).2 this⟩
/-- Chains grow shorter, the root is last. -/
theorem chainL_len (N : List (List Int)) : ∀ (n : Nat) (x : List Int), x.length ≤ n → (chainL N n x).Pairwise (fun a b => b.length < a.length) ∧ (∀ y ∈ chainL N n x, y.length ≤ x.length) ∧ (chainL N n x).head? = some x ∧ (chainL N n x).getLast? = some []
  | 0, x, hn => by
    have : x = [] := List.eq_nil_of_length_eq_zero (by omega)
    subst this
    simp [chainL]
  | n + 1, x, hn => by
    unfold chainL
    by_cases e : x = []
    · subst e; simp
    · rw [if_neg e]
      have hl := linkL_len (N := N) e
      obtain ⟨h1, h2, h3, h4⟩ := chainL_len N n (linkL N x) (by omega)
      refine ⟨List.pairwise_cons.2 ⟨fun y hy => by have := h2 y hy; omega, h1⟩, fun y hy => ?_, rfl, ?_⟩
      · rcases List.mem_cons.1 hy with rfl | hy
        · exact Nat.le_refl _
        · have := h2 y hy; omega
      · rw [List.getLast?_cons, h4]; rfl
theorem lsf_drop {N : List (List Int)} {M : Nat} (h0 : [] ∈ N) (hM : ∀ y ∈ N, y.length ≤ M) (b : List Int) : lsf N (b.drop (b.length - M)) = lsf N b := by
  symm
  refine lsf_unique (lsf_mem h0 _) ((lsf_suffix N _).trans (List.drop_suffix _ _)) h0 (fun z hz hm => ?_)
  refine lsf_max hm (List.suffix_of_suffix_length_le hz (List.drop_suffix _ _) ?_)
  have h1 := hM z hm
  have h2 := hz.length_le
  rw [List.length_drop]
  omega
theorem lsf_next {N : List (List Int)} {b : List Int} {k : Nat} (hk : k < b.length) (h : b.drop k ∉ N) : lsf N (b.drop k) = lsf N (b.drop (k + 1)) := by
  rw [List.drop_eq_getElem_cons hk] at h ⊢
  conv => lhs; unfold lsf
  rw [if_neg h]
theorem lsf_here {N : List (List Int)} {b : List Int} {k : Nat} (h : b.drop k ∈ N) : lsf N (b.drop k) = b.drop k := lsf_of_mem h
theorem lsf_end (N : List (List Int)) (b : List Int) {k : Nat} (hk : b.length ≤ k) : lsf N (b.drop k) = [] := by
  rw [List.drop_eq_nil_of_le hk]; rfl
/-- A shorter node stands ahead. -/
theorem idx_len {ws : List (List Int)} {i k : Nat} {x y : List Int} (hx : (nodesL ws)[i]? = some x) (hy : (nodesL ws)[k]? = some y) (h : y.length < x.length) : k < i := by
  have h1 := (List.getElem?_eq_some_iff.1 hx)
  have h2 := (List.getElem?_eq_some_iff.1 hy)
  rcases Nat.lt_trichotomy k i with hlt | rfl | hgt
  · exact hlt
  · rw [hx] at hy
    have := Option.some.inj hy
    rw [this] at h
    omega
  · have := List.pairwise_iff_getElem.1 (nodesL_srt ws) i k h1.1 h2.1 hgt
    rw [h1.2, h2.2] at this
    have := ltS_len this
    omega
/-- The number of a node's link. -/
def linkI (ws : List (List Int)) (x : List Int) : Int := placeS (nodesL ws) (linkL (nodesL ws) x)
def linksP (ws : List (List Int)) : List Int := (nodesL ws).map (linkI ws)
theorem linkI_at {ws : List (List Int)} (x : List Int) : ∃ k : Nat, linkI ws x = k ∧ (nodesL ws)[k]? = some (linkL (nodesL ws) x) := by
  have hm := lsf_mem (nodes_pre ws).1 x.tail
  obtain ⟨k, hk⟩ := List.getElem?_of_mem hm
  exact ⟨k, placeS_at (nodesL_srt ws).nodup hk, hk⟩
/-- A link by the link of the node above. -/
theorem link_up {ws : List (List Int)} {x : List Int} {c : Int} (h0 : x ≠ []) : linkL (nodesL ws) (x ++ [c]) = lsf (nodesL ws) (linkL (nodesL ws) x ++ [c]) := by
  unfold linkL
  rw [← lsf_step (nodes_pre ws)]
  cases x with
  | nil => exact absurd rfl h0
  | cons a t => rfl
theorem link_one {ws : List (List Int)} (c : Int) : linkL (nodesL ws) [c] = [] := rfl

end Go.Proofs.Ytifcoalhkcflnaa

/- Plain words of layer 9: the words of a node. -/

namespace Go.Proofs.Ytifcoalhkcflnaa
set_option linter.unusedVariables false

section
variable (N W : List (List Int))
/-- The next node that is a word, of those that end a node's bytes; none: the root. -/
def nextF : Nat → List Int → List Int
  | 0, _ => []
  | n + 1, x => if x = [] then [] else if linkL N x ∈ W then linkL N x else nextF n (linkL N x)
/-- The nodes of a node's words. -/
def endsF : Nat → List Int → List (List Int)
  | 0, _ => []
  | n + 1, x => if x = [] then [] else (if x ∈ W then [x] else []) ++ endsF n (nextF N W (n + 1) x)
theorem nextF_len : ∀ (n : Nat) (x : List Int), x ≠ [] → (nextF N W n x).length < x.length
  | 0, x, h => by
    have : x.length ≠ 0 := fun e => h (List.eq_nil_of_length_eq_zero e)
    unfold nextF
    simp
    omega
  | n + 1, x, h => by
    have hl := linkL_len (N := N) h
    unfold nextF
    rw [if_neg h]
    split
    · exact hl
    · by_cases e : linkL N x = []
      · rw [e] at hl ⊢
        cases n with
        | zero => exact hl
        | succ n => unfold nextF; rw [if_pos rfl]; exact hl
      · have := nextF_len n _ e
        omega
theorem nextF_nil (n : Nat) : nextF N W n [] = [] := by
  cases n with
  | zero => rfl
  | succ n => unfold nextF; rw [if_pos rfl]
theorem nextF_fuel : ∀ (n : Nat) (x : List Int), x.length ≤ n → nextF N W (n + 1) x = nextF N W n x
  | 0, x, h => by
    have : x = [] := List.eq_nil_of_length_eq_zero (by omega)
    subst this
    rw [nextF_nil, nextF_nil]
  | n + 1, x, h => by
    by_cases e : x = []
    · subst e; rw [nextF_nil, nextF_nil]
    · have hl := linkL_len (N := N) e
      have ih := nextF_fuel n (linkL N x) (by omega)
      unfold nextF
      rw [if_neg e, if_neg e, ih]
theorem endsF_nil (n : Nat) : endsF N W n [] = [] := by
  cases n with
  | zero => rfl
  | succ n => unfold endsF; rw [if_pos rfl]
theorem endsF_fuel : ∀ (n : Nat) (x : List Int), x.length ≤ n → endsF N W (n + 1) x = endsF N W n x
  | 0, x, h => by
    have : x = [] := List.eq_nil_of_length_eq_zero (by omega)
    subst this
    rw [endsF_nil, endsF_nil]
  | n + 1, x, h => by
    by_cases e : x = []
    · subst e; rw [endsF_nil, endsF_nil]
    · have hl := nextF_len N W (n + 1) x e
      have ih := endsF_fuel n (nextF N W (n + 1) x) (by omega)
      have hf := nextF_fuel N W (n + 1) x h
      unfold endsF
      rw [if_neg e, if_neg e, hf, ih]
theorem ends_tail (h0 : [] ∉ W) : ∀ (n : Nat) (x : List Int), x.length ≤ n → endsF N W n (nextF N W n x) = ((chainL N n x).tail).filter fun y => decide (y ∈ W)
  | 0, x, h => by
    have : x = [] := List.eq_nil_of_length_eq_zero (by omega)
    subst this
    rfl
  | n + 1, x, h => by
    by_cases e : x = []
    · subst e
      rw [nextF_nil, endsF_nil]
      unfold chainL
      rw [if_pos rfl]
      rfl
    · have hl := linkL_len (N := N) e
      have ih := ends_tail h0 n (linkL N x) (by omega)
      have hc : (chainL N (n + 1) x).tail = chainL N n (linkL N x) := by
        conv => lhs; unfold chainL
        rw [if_neg e]
        rfl
      rw [hc]
      obtain ⟨l, hd⟩ := chainL_head N n (linkL N x)
      rw [hd] at ih ⊢
      rw [List.tail_cons] at ih
      rw [List.filter_cons]
      have hnx : nextF N W (n + 1) x = if linkL N x ∈ W then linkL N x else nextF N W n (linkL N x) := by
        conv => lhs; unfold nextF
        rw [if_neg e]
      rw [hnx]
      by_cases hw : linkL N x ∈ W
      · rw [if_pos hw, if_pos (by simpa using hw), ← ih]
        have hne : linkL N x ≠ [] := fun e2 => h0 (e2 ▸ hw)
        conv => lhs; unfold endsF
        rw [if_neg hne, if_pos hw, nextF_fuel N W n _ (by omega)]
        rfl
      · rw [if_neg hw, if_neg (by simpa using hw), ← ih]
        refine endsF_fuel N W n _ ?_
        by_cases e2 : linkL N x = []
        · rw [e2, nextF_nil]; exact Nat.zero_le _
        · have := nextF_len N W n _ e2
          omega
/-- The nodes of a node's words are those of its chain that are words. -/
theorem ends_chain (h0 : [] ∉ W) (n : Nat) (x : List Int) (h : x.length ≤ n) : endsF N W n x = (chainL N n x).filter fun y => decide (y ∈ W) := by
  by_cases e : x = []
  · subst e
    rw [endsF_nil]
    obtain ⟨l, hd⟩ := chainL_head N n []
    cases n with
    | zero => simp [chainL, h0]
    | succ n => unfold chainL; simp [h0]
  · obtain ⟨m, rfl⟩ : ∃ m, n = m + 1 := ⟨n - 1, by have : x.length ≠ 0 := fun e2 => e (List.eq_nil_of_length_eq_zero e2); omega⟩
    have ht := ends_tail N W h0 (m + 1) x h
    obtain ⟨l, hd⟩ := chainL_head N (m + 1) x
    rw [hd] at ht ⊢
    rw [List.tail_cons] at ht
    rw [List.filter_cons, ← ht]
    have hl := nextF_len N W (m + 1) x e
    conv => lhs; unfold endsF
    rw [if_neg e, ← endsF_fuel N W m (nextF N W (m + 1) x) (by omega)]
    by_cases hw : x ∈ W
    · rw [if_pos hw, if_pos (by simpa using hw)]; rfl
    · rw [if_neg hw, if_neg (by simpa using hw)]; rfl
end

end Go.Proofs.Ytifcoalhkcflnaa

/- Plain laws of layer 8: what its statements ask of links, chains, steps. -/

namespace Go.Proofs.Ytifcoalhkcflnaa
set_option linter.unusedVariables false

/-- Does a text end with another one? -/
def endsB (b e : List Int) : Bool := decide (e.length ≤ b.length) && decide (b.drop (b.length - e.length) = e)
theorem endsB_iff {b e : List Int} : endsB b e = true ↔ e <:+ b := by
  unfold endsB
  rw [Bool.and_eq_true, decide_eq_true_iff, decide_eq_true_iff]
  constructor
  · rintro ⟨_, h⟩
    exact List.suffix_iff_eq_drop.2 h.symm
  · intro h
    exact ⟨h.length_le, (List.suffix_iff_eq_drop.1 h).symm⟩
section
variable {ws : List (List Int)}
/-- A link: it ends the node's bytes, stands ahead of it, and no other node that ends them is longer. -/
theorem link_law {i : Nat} {x : List Int} (hx : (nodesL ws)[i]? = some x) : ∃ (k : Nat) (y : List Int), linkI ws x = k ∧ (nodesL ws)[k]? = some y ∧ (i = 0 → k = 0) ∧ (0 < i → k < i) ∧ endsB x y = true ∧
    ∀ (j : Nat) (z : List Int), j ≠ i → (nodesL ws)[j]? = some z → endsB x z = true → z.length ≤ y.length := by
  obtain ⟨k, h1, h2⟩ := linkI_at (ws := ws) x
  refine ⟨k, _, h1, h2, fun e => ?_, fun hi => ?_, endsB_iff.2 ((lsf_suffix _ _).trans (List.tail_suffix x)), fun j z hj hz he => ?_⟩
  · subst e
    rw [nodesL_head] at hx
    obtain rfl := Option.some.inj hx
    exact nodup_at (nodesL_srt ws).nodup h2 (nodesL_head ws)
  · exact idx_len hx h2 (linkL_len (node_back hi hx))
  · have hs := endsB_iff.1 he
    refine lsf_max (List.mem_of_getElem? hz) ?_
    cases x with
    | nil =>
      rw [List.eq_nil_of_suffix_nil hs] at hz
      exact absurd (nodup_at (nodesL_srt ws).nodup hz hx) hj
    | cons a t =>
      rcases List.suffix_cons_iff.1 hs with e | h
      · subst e
        exact absurd (nodup_at (nodesL_srt ws).nodup hz hx) hj
      · exact h
/-- A chain has just the nodes that end the node's bytes. -/
theorem chain_count {x : List Int} (hx : x ∈ nodesL ws) {n : Nat} (hn : x.length ≤ n) : ((nodesL ws).filter fun y => endsB x y).length = (chainL (nodesL ws) n x).length := by
  refine List.Perm.length_eq ((List.perm_ext_iff_of_nodup ?_ ?_).2 fun y => ?_)
  · exact (nodesL_srt ws).nodup.filter _
  · have := (chainL_len (nodesL ws) n x hn).1
    rw [List.nodup_iff_pairwise_ne]
    exact this.imp fun h e => by rw [e] at h; omega
  · rw [List.mem_filter, endsB_iff, mem_chainL (nodes_pre ws).1 hx hn]
    exact ⟨fun h => ⟨h.2, h.1⟩, fun h => ⟨h.2, h.1⟩⟩
/-- The node of a text: the longest end of it that is a node. -/
theorem deep_law (b : List Int) (c : Int) : endsB (b ++ [c]) (lsf (nodesL ws) (b ++ [c])) = true ∧ (lsf (nodesL ws) (b ++ [c])).length ≤ (lsf (nodesL ws) b).length + 1 ∧ lsf (nodesL ws) (b ++ [c]) = lsf (nodesL ws) (lsf (nodesL ws) b ++ [c]) := by
  have h := lsf_step (nodes_pre ws) b c
  refine ⟨endsB_iff.2 (lsf_suffix _ _), ?_, h⟩
  rw [h]
  have := (lsf_suffix (nodesL ws) (lsf (nodesL ws) b ++ [c])).length_le
  rw [List.length_append, List.length_singleton] at this
  exact this
theorem deep_max {b z : List Int} (hz : z ∈ nodesL ws) (h : endsB b z = true) : z.length ≤ (lsf (nodesL ws) b).length := lsf_max hz (endsB_iff.1 h)
/-- Steps, one behind the other. -/
def goL (N : List (List Int)) (b : List Int) : List Int := b.foldl (fun x c => lsf N (x ++ [c])) []
theorem goL_snoc (N : List (List Int)) (b : List Int) (c : Int) : goL N (b ++ [c]) = lsf N (goL N b ++ [c]) := by simp [goL, List.foldl_append]
theorem goL_eq (b : List Int) : goL (nodesL ws) b = lsf (nodesL ws) b := by
  refine snoc_ind (P := fun b => goL (nodesL ws) b = lsf (nodesL ws) b) rfl (fun l c ih => ?_) b
  rw [goL_snoc, ih, ← lsf_step (nodes_pre ws)]
end

end Go.Proofs.Ytifcoalhkcflnaa

/- Plain laws of layer 7: the document's way of reading a trie. -/

namespace Go.Proofs.Ytifcoalhkcflnaa
set_option linter.unusedVariables false

/-- A node's bytes, by what is told above it: so many steps at most. -/
def spR (T : TrieT) : Nat → Int → List Int → List Int
  | 0, _, out => out
  | k + 1, node, out => if 0 < node ∧ node < (T.up.length : Int) ∧ node < (T.byt.length : Int) then spR T k ((T.up[node.toNat]?).getD 0) (((T.byt[node.toNat]?).getD 0) :: out) else out
def spellR (T : TrieT) (node : Int) : List Int := spR T 32 node []
def wordsFrom (T : TrieT) : Nat → Nat → List (List Int)
  | 0, _ => []
  | f + 1, w => match T.wrd.findIdx? (fun v => decide (v = (w : Int))) with
    | none => []
    | some i => spellR T i :: wordsFrom T f (w + 1)
def wordsR (T : TrieT) : List (List Int) := wordsFrom T 64 0
def rightR7 (T : TrieT) : Bool := decide (T.up.length ≤ 400 ∧ T.wrd.length ≤ 400) && (rightP false (wordsR T) && eqT (trieP (wordsR T)) T)
section
variable {ws : List (List Int)}
theorem spR_trie : ∀ (k : Nat) {j : Nat} {x out : List Int}, (nodesL ws)[j]? = some x → x.length ≤ k → spR (trieP ws) k (j : Int) out = x ++ out
  | 0, j, x, out, hx, hk => by
    have : x = [] := List.eq_nil_of_length_eq_zero (by omega)
    subst this
    rfl
  | k + 1, j, x, out, hx, hk => by
    by_cases h0 : x = []
    · subst h0
      have hj := nodup_at (nodesL_srt ws).nodup hx (nodesL_head ws)
      subst hj
      unfold spR
      rw [if_neg (fun h => by have := h.1; omega)]
      rfl
    · obtain ⟨i, hij, hup, hix⟩ := trie_up hx h0
      have hjl := (List.getElem?_eq_some_iff.1 hx).1
      obtain ⟨l1, l2, l3, l4⟩ := trie_lens (ws := ws)
      have hlen : x.dropLast.length ≤ k := by rw [List.length_dropLast]; omega
      unfold spR
      rw [if_pos ⟨by omega, by omega, by omega⟩, Int.toNat_natCast, hup, trie_byt hx, Option.getD_some, Option.getD_some, spR_trie k hix hlen]
      rw [← List.singleton_append, ← List.append_assoc, dropLast_lastB h0]
theorem node_len (h : rightP false ws = true) {j : Nat} {x : List Int} (hx : (nodesL ws)[j]? = some x) : x.length ≤ 32 := by
  obtain ⟨h1, h2, h3, _⟩ := right_spec h
  obtain ⟨w, hw, hp⟩ := node_prefix h2 (List.mem_of_getElem? hx)
  have := hp.length_le
  have := (h3 w hw).2
  omega
theorem spellR_trie (h : rightP false ws = true) {j : Nat} {x : List Int} (hx : (nodesL ws)[j]? = some x) : spellR (trieP ws) j = x := by
  unfold spellR
  rw [spR_trie 32 hx (node_len h hx), List.append_nil]
theorem wordsFrom_trie (h : rightP false ws = true) : ∀ (f w : Nat), ws.length ≤ w + f → wordsFrom (trieP ws) f w = ws.drop w
  | 0, w, hf => by rw [List.drop_eq_nil_of_le (by omega)]; rfl
  | f + 1, w, hf => by
    have hnd := (right_nodup h).1
    unfold wordsFrom
    by_cases hw : w < ws.length
    · obtain ⟨x, hx⟩ : ∃ x, ws[w]? = some x := ⟨ws[w], by simp [hw]⟩
      obtain ⟨j, j1, j2, j3, j4⟩ := word_find h hx
      cases e : (trieP ws).wrd.findIdx? (fun v => decide (v = (w : Int))) with
      | none =>
        rw [List.findIdx?_eq_none_iff] at e
        have := e _ (List.mem_of_getElem? j4)
        simp at this
      | some i =>
        obtain ⟨hi, h1, _⟩ := List.findIdx?_eq_some_iff_getElem.1 e
        have h1 := of_decide_eq_true h1
        have hil : i < (nodesL ws).length := by rw [← trie_lens.2.2.1]; exact hi
        obtain ⟨y, hy⟩ : ∃ y, (nodesL ws)[i]? = some y := ⟨(nodesL ws)[i], by simp [hil]⟩
        have hwy := trie_wrd hy
        rw [List.getElem?_eq_getElem hi, h1] at hwy
        have hpy := Option.some.inj hwy
        have hyx : y = x := by
          by_cases hm : y ∈ ws
          · obtain ⟨v, hv⟩ := List.getElem?_of_mem hm
            rw [placeS_at hnd hv] at hpy
            have : v = w := by omega
            subst this
            rw [hv] at hx
            exact Option.some.inj hx
          · rw [placeS_no hm] at hpy; omega
        subst hyx
        dsimp only
        rw [spellR_trie h hy, wordsFrom_trie h f (w + 1) (by omega)]
        rw [List.drop_eq_getElem_cons hw]
        congr 1
        rw [List.getElem?_eq_getElem hw] at hx
        exact (Option.some.inj hx).symm
    · have e : (trieP ws).wrd.findIdx? (fun v => decide (v = (w : Int))) = none := by
        rw [List.findIdx?_eq_none_iff]
        intro v hv
        obtain ⟨i, hi⟩ := List.getElem?_of_mem hv
        have hil := (List.getElem?_eq_some_iff.1 hi).1
        rw [trie_lens.2.2.1] at hil
        obtain ⟨y, hy⟩ : ∃ y, (nodesL ws)[i]? = some y := ⟨(nodesL ws)[i], by simp [hil]⟩
        rw [trie_wrd hy] at hi
        have hpy := Option.some.inj hi
        apply decide_eq_false
        intro e
        rw [e] at hpy
        by_cases hm : y ∈ ws
        · obtain ⟨u, hu⟩ := List.getElem?_of_mem hm
          rw [placeS_at hnd hu] at hpy
          have := (List.getElem?_eq_some_iff.1 hu).1
          omega
        · rw [placeS_no hm] at hpy; omega
      rw [e, List.drop_eq_nil_of_le (by omega)]
theorem wordsR_trie (h : rightP false ws = true) : wordsR (trieP ws) = ws := by
  unfold wordsR
  rw [wordsFrom_trie h 64 0 (by have := (right_spec h).1; omega), List.drop_zero]
end
/-- The document's trie that may be is the program's. -/
theorem rightR7_eq (T : TrieT) : rightR7 T = (readP T).isSome := by
  cases e : readP T with
  | some r =>
    obtain ⟨sp, ws⟩ := r
    obtain ⟨h1, rfl, rfl⟩ := readP_iff.1 e
    have hn := (right_nodes h1).2
    unfold rightR7
    rw [wordsR_trie h1, h1, eqT_iff.2 rfl, decide_eq_true ⟨by rw [trie_lens.1]; exact hn, by rw [trie_lens.2.2.1]; exact hn⟩]
    rfl
  | none =>
    cases h : rightR7 T with
    | false => rfl
    | true =>
      exfalso
      unfold rightR7 at h
      rw [Bool.and_eq_true, Bool.and_eq_true] at h
      have h2 := eqT_iff.1 h.2.2
      have h3 := readP_trie h.2.1
      rw [h2, e] at h3
      cases h3
theorem readR7 {T : TrieT} {sp ws : List (List Int)} (h : readP T = some (sp, ws)) : wordsR T = ws ∧ ∀ (j : Nat) (x : List Int), sp[j]? = some x → spellR T j = x := by
  obtain ⟨h1, rfl, rfl⟩ := readP_iff.1 h
  exact ⟨wordsR_trie h1, fun j x hx => spellR_trie h1 hx⟩
/-- A kid is the node of its bytes. -/
theorem kid_find {ws : List (List Int)} (h : rightP false ws = true) {j : Nat} {x : List Int} (hx : (nodesL ws)[j]? = some x) {c : Int} {r : Int} {ok : Bool} (hk : KidR (trieP ws) j c r ok) : findP (nodesL ws) (x ++ [c]) = (r, ok) := by
  have hnd := (nodesL_srt ws).nodup
  cases ok with
  | true =>
    obtain ⟨k, rfl, k1, k2, k3, k4⟩ := hk.1 rfl
    rw [trie_lens.1] at k2
    obtain ⟨y, hy⟩ : ∃ y, (nodesL ws)[k]? = some y := ⟨(nodesL ws)[k], by simp⟩
    have y0 := node_back k1 hy
    obtain ⟨i, _, hup, hix⟩ := trie_up hy y0
    rw [hup] at k3
    have e : i = j := by have := Option.some.inj k3; omega
    subst e
    rw [hx] at hix
    have e1 := Option.some.inj hix
    rw [trie_byt hy] at k4
    have e2 := Option.some.inj k4
    have : x ++ [c] = y := by rw [e1, ← e2, dropLast_lastB y0]
    rw [this]
    exact findP_at hnd hy
  | false =>
    obtain ⟨rfl, hno⟩ := hk.2 rfl
    refine findP_no (fun hm => ?_)
    obtain ⟨k, hk2⟩ := List.getElem?_of_mem hm
    have k0 : x ++ [c] ≠ [] := by simp
    obtain ⟨i, _, hup, hix⟩ := trie_up hk2 k0
    rw [List.dropLast_concat] at hix
    have e := nodup_at hnd hix hx
    subst e
    have hkl := (List.getElem?_eq_some_iff.1 hk2).1
    refine hno k ⟨?_, by rw [trie_lens.1]; exact hkl, hup, ?_⟩
    · cases k with
      | zero => rw [nodesL_head] at hk2; exact absurd (Option.some.inj hk2).symm k0
      | succ k => omega
    · rw [trie_byt hk2]; simp [lastB]
/-- Where the document puts a text in. -/
theorem putS_at : ∀ {l : List (List Int)} {b : List Int} {k : Nat}, k ≤ l.length → (∀ (i : Nat) (y : List Int), i < k → l[i]? = some y → ltS y b = true) → (∀ y, l[k]? = some y → ltS y b = false) → putS l b = if l[k]? = some b then l else l.take k ++ b :: l.drop k
  | [], b, k, hk, _, _ => by
    have : k = 0 := by simpa using hk
    subst this
    simp [putS]
  | y :: ys, b, 0, _, _, h2 => by
    have h := h2 y rfl
    unfold putS
    rw [if_neg (by rw [h]; simp)]
    by_cases e : y = b
    · rw [if_pos e, if_pos (by rw [e]; rfl)]
    · rw [if_neg e, if_neg (by simpa using e)]
      rfl
  | y :: ys, b, k + 1, hk, h1, h2 => by
    have h := h1 0 y (by omega) rfl
    have ih := putS_at (l := ys) (b := b) (k := k) (by simpa using hk) (fun i z hi hz => h1 (i + 1) z (by omega) (by simpa using hz)) (fun z hz => h2 z (by simpa using hz))
    unfold putS
    rw [if_pos h, ih]
    simp only [List.getElem?_cons_succ, List.take_succ_cons, List.drop_succ_cons]
    split
    · rfl
    · rfl
/-- A text lesser than another one of its length: by the first byte in which they differ. -/
theorem lexB_at : ∀ {x y : List Int} {i : Nat} {a b : Int}, x.take i = y.take i → x[i]? = some a → y[i]? = some b → a ≠ b → lexB x y = decide (a < b)
  | [], _, i, a, b, _, h, _, _ => by simp at h
  | _ :: _, [], i, a, b, _, _, h, _ => by simp at h
  | p :: x, q :: y, 0, a, b, _, ha, hb, hn => by
    simp at ha hb
    subst ha hb
    unfold lexB
    by_cases h : p < q
    · rw [if_pos h, decide_eq_true h]
    · rw [if_neg h, if_pos (by omega), decide_eq_false h]
  | p :: x, q :: y, i + 1, a, b, h, ha, hb, hn => by
    simp only [List.take_succ_cons, List.cons.injEq] at h
    obtain ⟨rfl, h⟩ := h
    have ih := lexB_at h (by simpa using ha) (by simpa using hb) hn
    unfold lexB
    rw [if_neg (by omega), if_neg (by omega)]
    exact ih
theorem ltS_eq_len {x y : List Int} (h : x.length = y.length) : ltS x y = lexB x y := by unfold ltS; rw [if_neg (by omega), if_neg (by omega)]
theorem ltS_ne_len {x y : List Int} (h : x.length ≠ y.length) : ltS x y = decide (x.length < y.length) := by
  unfold ltS
  by_cases e : x.length < y.length
  · rw [if_pos e, decide_eq_true e]
  · rw [if_neg e, if_pos (by omega), decide_eq_false e]
theorem placeS_first {l : List (List Int)} {b : List Int} {i : Nat} (h : l[i]? = some b) (hn : b ∉ l.take i) : placeS l b = i := by
  have hj := (List.getElem?_eq_some_iff.1 h)
  have hjl := hj.1
  unfold placeS
  rw [if_pos (List.mem_of_getElem? h)]
  have e : l = l.take i ++ b :: l.drop (i + 1) := by rw [← hj.2]; simp
  have : l.idxOf b = i := by
    rw [e, List.idxOf_append, if_neg hn, List.idxOf_cons_self, List.length_take]
    omega
  rw [this]

end Go.Proofs.Ytifcoalhkcflnaa

/- Links, chains and edges by numbers (layer 8): plain. -/


namespace Go.Proofs.Ytifcoalhkcflnaa
open Go Go.RowKit Go.Sort
set_option linter.unusedVariables false
set_option linter.unusedSimpArgs false

/-- The edges of the first nodes behind the root. -/
def edgeF (U B : List Int) : Nat → Int × Int → Option Int
  | 0, _ => none
  | j + 1, q => if q = ((U[j + 1]?).getD 0, (B[j + 1]?).getD 0) then some ((j : Int) + 1) else edgeF U B j q
theorem edgeF_some {U B : List Int} {q : Int × Int} {k : Int} : ∀ {j : Nat}, edgeF U B j q = some k → ∃ i : Nat, 1 ≤ i ∧ i ≤ j ∧ k = i ∧ q = ((U[i]?).getD 0, (B[i]?).getD 0)
  | 0, h => by simp [edgeF] at h
  | j + 1, h => by
    unfold edgeF at h
    split at h
    · rename_i hq
      exact ⟨j + 1, by omega, Nat.le_refl _, by have := Option.some.inj h; omega, hq⟩
    · obtain ⟨i, h1, h2, h3⟩ := edgeF_some h
      exact ⟨i, h1, by omega, h3⟩
theorem edgeF_none {U B : List Int} {q : Int × Int} : ∀ {j : Nat}, edgeF U B j q = none → ∀ i : Nat, 1 ≤ i → i ≤ j → q ≠ ((U[i]?).getD 0, (B[i]?).getD 0)
  | 0, h, i, h1, h2 => by omega
  | j + 1, h, i, h1, h2 => by
    unfold edgeF at h
    split at h
    · cases h
    · rename_i hq
      by_cases e : i = j + 1
      · subst e; exact hq
      · exact edgeF_none h i h1 (by omega)

section
variable {ws : List (List Int)}
theorem node_zero {i : Nat} {x : List Int} (hx : (nodesL ws)[i]? = some x) : i = 0 ↔ x = [] := by
  have h0 := nodesL_head ws
  constructor
  · rintro rfl
    rw [h0] at hx
    exact (Option.some.inj hx).symm
  · rintro rfl
    have h1 := placeS_at (nodesL_srt ws).nodup hx
    have h2 := placeS_at (nodesL_srt ws).nodup h0
    omega
theorem node_inj {i k : Nat} {x : List Int} (hi : (nodesL ws)[i]? = some x) (hk : (nodesL ws)[k]? = some x) : i = k := by
  have h1 := placeS_at (nodesL_srt ws).nodup hi
  have h2 := placeS_at (nodesL_srt ws).nodup hk
  omega
theorem trie_row {i : Nat} {y : List Int} (hy : (nodesL ws)[i]? = some y) : (trieP ws).up[i]? = some (placeS (nodesL ws) y.dropLast) ∧ (trieP ws).byt[i]? = some (lastB y) ∧ (trieP ws).dep[i]? = some (y.length : Int) ∧ (trieP ws).wrd[i]? = some (placeS ws y) := by
  simp [trieP, hy]
theorem up_mem {y : List Int} (hy : y ∈ nodesL ws) : y.dropLast ∈ nodesL ws := (mem_nodesL ws).2 ((mem_nodesL ws).1 hy).up
theorem snoc_last {y : List Int} (h : y ≠ []) : y = y.dropLast ++ [lastB y] := by
  obtain ⟨q, hq⟩ : ∃ q, y.length = q + 1 := ⟨y.length - 1, by have : y.length ≠ 0 := fun e => h (List.eq_nil_of_length_eq_zero e); omega⟩
  unfold lastB
  rw [List.getLast?_eq_some_getLast h]
  exact (List.dropLast_concat_getLast h).symm
/-- What the edges say: the node of the bytes and one more, if it is one. -/
theorem edge_is {z : Nat} {x : List Int} (hx : (nodesL ws)[z]? = some x) (c : Int) :
    edgeF (trieP ws).up (trieP ws).byt ((nodesL ws).length - 1) ((z : Int), c) = if x ++ [c] ∈ nodesL ws then some (placeS (nodesL ws) (x ++ [c])) else none := by
  have hnd := (nodesL_srt ws).nodup
  cases e : edgeF (trieP ws).up (trieP ws).byt ((nodesL ws).length - 1) ((z : Int), c) with
  | some k =>
    obtain ⟨i, h1, h2, rfl, hq⟩ := edgeF_some e
    obtain ⟨y, hy⟩ : ∃ y, (nodesL ws)[i]? = some y := ⟨(nodesL ws)[i]'(by omega), by simp⟩
    obtain ⟨u1, u2, _⟩ := trie_row hy
    rw [u1, u2] at hq
    simp only [Option.getD_some, Prod.mk.injEq] at hq
    have hy0 : y ≠ [] := fun e2 => by have := (node_zero hy).2 e2; omega
    obtain ⟨j, hj⟩ := List.getElem?_of_mem (up_mem (List.mem_of_getElem? hy))
    have hp := placeS_at hnd hj
    have hjz : j = z := by omega
    subst hjz
    rw [hx] at hj
    have hxy : x ++ [c] = y := by rw [Option.some.inj hj, hq.2]; exact (snoc_last hy0).symm
    rw [hxy, if_pos (List.mem_of_getElem? hy), placeS_at hnd hy]
  | none =>
    rw [if_neg]
    intro hm
    obtain ⟨i, hi⟩ := List.getElem?_of_mem hm
    have hil := (List.getElem?_eq_some_iff.1 hi).1
    have hi0 : i ≠ 0 := fun e2 => by have := (node_zero hi).1 e2; simp at this
    obtain ⟨u1, u2, _⟩ := trie_row hi
    refine edgeF_none e i (by omega) (by omega) ?_
    rw [u1, u2]
    simp only [Option.getD_some, Prod.mk.injEq, List.dropLast_concat]
    refine ⟨(placeS_at hnd hx).symm, ?_⟩
    simp [lastB]

/-- A node's chain, by numbers, over a row of links. -/
def chN (L : List Int) : Nat → Nat → List Nat
  | 0, z => [z]
  | f + 1, z => if z = 0 then [z] else z :: chN L f ((L[z]?).getD 0).toNat
/-- The first links are the nodes'. -/
def LinkOK (ws : List (List Int)) (L : List Int) (i : Nat) : Prop := ∀ (j : Nat) (x : List Int), j < i → (nodesL ws)[j]? = some x → L[j]? = some (linkI ws x)
theorem LinkOK.at_ {L : List Int} {i z : Nat} (h : LinkOK ws L i) {x : List Int} (hz : z < i) (hx : (nodesL ws)[z]? = some x) (h0 : z ≠ 0) : ∃ k : Nat, L[z]? = some (k : Int) ∧ k < z ∧ (nodesL ws)[k]? = some (linkL (nodesL ws) x) := by
  obtain ⟨k, h1, h2⟩ := linkI_at (ws := ws) x
  have hl := h z x hz hx
  rw [h1] at hl
  refine ⟨k, hl, idx_len hx h2 (linkL_len fun e => h0 ((node_zero hx).2 e)), h2⟩
theorem ch_chain {L : List Int} {i : Nat} (h : LinkOK ws L i) : ∀ {f g z : Nat} {x : List Int}, z < i → z ≤ f → (nodesL ws)[z]? = some x → x.length ≤ g → (chN L f z).map (fun k => (nodesL ws)[k]?) = (chainL (nodesL ws) g x).map some
  | 0, g, z, x, hz, hf, hx, hg => by
    obtain rfl : z = 0 := by omega
    have hx0 := (node_zero hx).1 rfl
    subst hx0
    cases g <;> simp [chN, chainL, hx]
  | f + 1, g, z, x, hz, hf, hx, hg => by
    unfold chN
    by_cases h0 : z = 0
    · subst h0
      have hx0 := (node_zero hx).1 rfl
      subst hx0
      cases g <;> simp [chainL, hx]
    · have hx0 : x ≠ [] := fun e => h0 ((node_zero hx).2 e)
      obtain ⟨k, h1, h2, h3⟩ := h.at_ hz hx h0
      obtain ⟨g', rfl⟩ : ∃ g', g = g' + 1 := ⟨g - 1, by have : x.length ≠ 0 := fun e => hx0 (List.eq_nil_of_length_eq_zero e); omega⟩
      unfold chainL
      rw [if_neg h0, if_neg hx0, h1, List.map_cons, List.map_cons, hx, Option.getD_some, Int.toNat_natCast, ch_chain (g := g') h (by omega) (by omega) h3 (by have := linkL_len (N := nodesL ws) hx0; omega)]
theorem ch_split {L : List Int} {i f g z0 : Nat} (h : LinkOK ws L i) {x : List Int} (hz : z0 < i) (hf : z0 ≤ f) (hx : (nodesL ws)[z0]? = some x) (hg : x.length ≤ g) {p : List Nat} {r : List Nat} (hs : chN L f z0 = p ++ r) :
    ∃ l1 l2, chainL (nodesL ws) g x = l1 ++ l2 ∧ p.map (fun k => (nodesL ws)[k]?) = l1.map some ∧ r.map (fun k => (nodesL ws)[k]?) = l2.map some := by
  have hc := ch_chain h hz hf hx hg
  rw [hs, List.map_append] at hc
  obtain ⟨l1, l2, h1, h2, h3⟩ := List.map_eq_append_iff.1 hc.symm
  exact ⟨l1, l2, h1, h2.symm, h3.symm⟩
theorem find_none {c : Int} {p : List Nat} {l1 : List (List Int)} (hp : p.map (fun k => (nodesL ws)[k]?) = l1.map some) (hn : ∀ y ∈ p, edgeF (trieP ws).up (trieP ws).byt ((nodesL ws).length - 1) ((y : Int), c) = none) : ∀ y ∈ l1, ¬ (y ++ [c] ∈ nodesL ws) := by
  intro y hy hm
  have : some y ∈ p.map (fun k => (nodesL ws)[k]?) := by rw [hp]; exact List.mem_map_of_mem hy
  obtain ⟨k, hk, hk2⟩ := List.mem_map.1 this
  have h1 := hn k hk
  rw [edge_is hk2, if_pos hm] at h1
  cases h1
/-- The step, where an edge is found. -/
theorem step_some {L : List Int} {i f z0 z : Nat} (h : LinkOK ws L i) {x : List Int} (hz : z0 < i) (hf : z0 ≤ f) (hx : (nodesL ws)[z0]? = some x) {p r : List Nat} {c k : Int} (hs : chN L f z0 = p ++ [z] ++ r)
    (hn : ∀ y ∈ p, edgeF (trieP ws).up (trieP ws).byt ((nodesL ws).length - 1) ((y : Int), c) = none) (hk : edgeF (trieP ws).up (trieP ws).byt ((nodesL ws).length - 1) ((z : Int), c) = some k) : k = placeS (nodesL ws) (lsf (nodesL ws) (x ++ [c])) := by
  obtain ⟨l0, l2, h1, h2, _⟩ := ch_split h hz hf hx (Nat.le_refl _) hs
  rw [List.map_append] at h2
  obtain ⟨l1, ly, rfl, h3, h4⟩ := List.map_eq_append_iff.1 h2.symm
  obtain ⟨y, rfl, hy⟩ : ∃ y, ly = [y] ∧ (nodesL ws)[z]? = some y := by
    cases ly with
    | nil => simp at h4
    | cons y t =>
      cases t with
      | nil => exact ⟨y, rfl, by simpa using h4.symm⟩
      | cons _ _ => simp at h4
  rw [edge_is hy] at hk
  have hm : y ++ [c] ∈ nodesL ws := by
    by_cases e : y ++ [c] ∈ nodesL ws
    · exact e
    · rw [if_neg e] at hk; cases hk
  rw [if_pos hm] at hk
  rw [step_chain (nodes_pre ws) c (List.mem_of_getElem? hx) (Nat.le_refl _), h1]
  have hf1 : l1.find? (fun y => decide (y ++ [c] ∈ nodesL ws)) = none := by
    rw [List.find?_eq_none]
    intro q hq
    simpa using find_none h3.symm hn q hq
  rw [List.append_assoc, List.find?_append, hf1]
  simp [hm]
  exact (Option.some.inj hk).symm
/-- .. where none is. -/
theorem step_none {L : List Int} {i f z0 : Nat} (h : LinkOK ws L i) {x : List Int} (hz : z0 < i) (hf : z0 ≤ f) (hx : (nodesL ws)[z0]? = some x) {c : Int}
    (hn : ∀ y ∈ chN L f z0, edgeF (trieP ws).up (trieP ws).byt ((nodesL ws).length - 1) ((y : Int), c) = none) : (0 : Int) = placeS (nodesL ws) (lsf (nodesL ws) (x ++ [c])) := by
  have hc := ch_chain h hz hf hx (Nat.le_refl _)
  rw [step_chain (nodes_pre ws) c (List.mem_of_getElem? hx) (Nat.le_refl _)]
  have hf1 : (chainL (nodesL ws) x.length x).find? (fun y => decide (y ++ [c] ∈ nodesL ws)) = none := by
    rw [List.find?_eq_none]
    intro q hq
    simpa using find_none hc hn q hq
  rw [hf1]
  have := placeS_at (nodesL_srt ws).nodup (nodesL_head ws)
  simp [this]
theorem linksP_at {j : Nat} {x : List Int} (hx : (nodesL ws)[j]? = some x) : (linksP ws)[j]? = some (linkI ws x) := by simp [linksP, hx]
theorem linksOK (ws : List (List Int)) (i : Nat) : LinkOK ws (linksP ws) i := fun j x _ hx => linksP_at hx
theorem linkI_up {j u : Nat} {x : List Int} (hx : (nodesL ws)[j]? = some x) (h0 : j ≠ 0) (hu : (trieP ws).up[j]? = some (u : Int)) :
    ∃ y, (nodesL ws)[u]? = some y ∧ u < j ∧ (trieP ws).byt[j]? = some (lastB x) ∧ x = y ++ [lastB x] ∧ (u = 0 → linkI ws x = 0) ∧ (u ≠ 0 → ∃ (k : Nat) (v : List Int), linkI ws y = k ∧ (nodesL ws)[k]? = some v ∧ linkI ws x = placeS (nodesL ws) (lsf (nodesL ws) (v ++ [lastB x]))) := by
  have hx0 : x ≠ [] := fun e => h0 ((node_zero hx).2 e)
  obtain ⟨u1, u2, _⟩ := trie_row hx
  obtain ⟨q, hq⟩ := List.getElem?_of_mem (up_mem (List.mem_of_getElem? hx))
  have hp := placeS_at (nodesL_srt ws).nodup hq
  rw [u1, hp] at hu
  obtain rfl : q = u := by have := Option.some.inj hu; omega
  have hxs := snoc_last hx0
  refine ⟨x.dropLast, hq, idx_len hx hq (by rw [List.length_dropLast]; have : x.length ≠ 0 := fun e => hx0 (List.eq_nil_of_length_eq_zero e); omega), u2, hxs, fun e => ?_, fun e => ?_⟩
  · have hd : x.dropLast = [] := (node_zero hq).1 e
    rw [hd] at hxs
    unfold linkI
    rw [hxs]
    show placeS (nodesL ws) (linkL (nodesL ws) ([] ++ [lastB x])) = 0
    rw [List.nil_append, link_one]
    exact placeS_at (nodesL_srt ws).nodup (nodesL_head ws)
  · have hd : x.dropLast ≠ [] := fun e2 => e ((node_zero hq).2 e2)
    obtain ⟨k, h1, h2⟩ := linkI_at (ws := ws) x.dropLast
    refine ⟨k, _, h1, h2, ?_⟩
    rw [← link_up hd, ← hxs]
    rfl
end

end Go.Proofs.Ytifcoalhkcflnaa

/- The sort of texts by a function, laid at this program: numbers, and the bodies held against those of the library. -/



namespace Go.Proofs.Ytifcoalhkcflnaa
open Go.Shelf
def sortStr_ren : Go.Shelf.Ren := ⟨fun | 6 => 148 | 15 => 112 | 14 => 156 | 28 => 135 | 29 => 136 | 20 => 158 | 21 => 159 | 22 => 160 | 23 => 161 | 24 => 162 | 25 => 163 | 26 => 164 | 27 => 165 | 46 => 167 | 47 => 144 | 48 => 145 | 49 => 168 | 50 => 169 | 57 => 170 | n => n, fun | 22 => 113 | 24 => 9 | 25 => 200 | 3 => 3 | 39 => 157 | 0 => 0 | 53 => 174 | 55 => 176 | 4 => 4 | 46 => 168 | 45 => 167 | 50 => 57 | 5 => 5 | 9 => 9 | 66 => 193 | 70 => 197 | 76 => 207 | 77 => 208 | n => n, fun | n => n⟩
theorem sortStr : Go.Proofs.SlLaysF.n6 Try.prog sortStr_ren := {
  mixed := by kernel_rfl
  f6 := ⟨Try.f148.name, by decide, Try.func148.trans (congrArg some (by kernel_rfl))⟩
  f14 := ⟨Try.f156.name, by decide, Try.func156.trans (congrArg some (by kernel_rfl))⟩
  f15 := Try.func112.trans (congrArg some (by kernel_rfl))
  f20 := ⟨Try.f158.name, by decide, Try.func158.trans (congrArg some (by kernel_rfl))⟩
  f21 := ⟨Try.f159.name, by decide, Try.func159.trans (congrArg some (by kernel_rfl))⟩
  f22 := ⟨Try.f160.name, by decide, Try.func160.trans (congrArg some (by kernel_rfl))⟩
  f23 := ⟨Try.f161.name, by decide, Try.func161.trans (congrArg some (by kernel_rfl))⟩
  f24 := ⟨Try.f162.name, by decide, Try.func162.trans (congrArg some (by kernel_rfl))⟩
  f25 := ⟨Try.f163.name, by decide, Try.func163.trans (congrArg some (by kernel_rfl))⟩
  f26 := ⟨Try.f164.name, by decide, Try.func164.trans (congrArg some (by kernel_rfl))⟩
  f27 := ⟨Try.f165.name, by decide, Try.func165.trans (congrArg some (by kernel_rfl))⟩
  f28 := Try.func135.trans (congrArg some (by kernel_rfl))
  f29 := Try.func136.trans (congrArg some (by kernel_rfl))
  f46 := ⟨Try.f167.name, by decide, Try.func167.trans (congrArg some (by kernel_rfl))⟩
  f47 := Try.func144.trans (congrArg some (by kernel_rfl))
  f48 := Try.func145.trans (congrArg some (by kernel_rfl))
  f49 := ⟨Try.f168.name, by decide, Try.func168.trans (congrArg some (by kernel_rfl))⟩
  f50 := ⟨Try.f169.name, by decide, Try.func169.trans (congrArg some (by kernel_rfl))⟩
  f57 := ⟨Try.f170.name, by decide, Try.func170.trans (congrArg some (by kernel_rfl))⟩
  t0 := Try.underlying0
  a0 := Try.isAgg0
  z0 := Try.sizeOf0
  v0 := Try.zeroValue0
  t3 := Try.underlying3
  a3 := Try.isAgg3
  z3 := Try.sizeOf3
  v3 := Try.zeroValue3
  t4 := Try.underlying4
  a4 := Try.isAgg4
  z4 := Try.sizeOf4
  v4 := Try.zeroValue4
  t5 := Try.underlying5
  a5 := Try.isAgg5
  z5 := Try.sizeOf5
  v5 := Try.zeroValue5
  t9 := Try.underlying9
  a9 := Try.isAgg9
  z9 := Try.sizeOf9
  v9 := Try.zeroValue9
  t22 := Try.underlying113
  a22 := Try.isAgg113
  z22 := Try.sizeOf113
  v22 := Try.zeroValue113
  a24 := Try.isAgg9
  z24 := Try.sizeOf9
  t25 := Try.underlying200
  a25 := Try.isAgg200
  z25 := Try.sizeOf200
  v25 := Try.zeroValue200
  t39 := Try.underlying157
  a39 := Try.isAgg157
  z39 := Try.sizeOf157
  v39 := Try.zeroValue157
  t45 := Try.underlying167
  a45 := Try.isAgg167
  z45 := Try.sizeOf167
  v45 := Try.zeroValue167
  t46 := Try.underlying168
  a46 := Try.isAgg168
  z46 := Try.sizeOf168
  v46 := Try.zeroValue168
  t50 := Try.underlying57
  a50 := Try.isAgg57
  z50 := Try.sizeOf57
  v50 := Try.zeroValue57
  t53 := Try.underlying174
  a53 := Try.isAgg174
  z53 := Try.sizeOf174
  v53 := Try.zeroValue174
  t55 := Try.underlying176
  a55 := Try.isAgg176
  z55 := Try.sizeOf176
  v55 := Try.zeroValue176
  t66 := Try.underlying193
  a66 := Try.isAgg193
  z66 := Try.sizeOf193
  v66 := Try.zeroValue193
  t70 := Try.underlying197
  a70 := Try.isAgg197
  z70 := Try.sizeOf197
  v70 := Try.zeroValue197
  t76 := Try.underlying207
  a76 := Try.isAgg207
  z76 := Try.sizeOf207
  v76 := Try.zeroValue207
  t77 := Try.underlying208
  a77 := Try.isAgg208
  z77 := Try.sizeOf208
  v77 := Try.zeroValue208 }
end Go.Proofs.Ytifcoalhkcflnaa

/- Texts compared by length, then by their bytes (layer 7): walked; the sort's order. -/





namespace Go.Proofs.Ytifcoalhkcflnaa
open Go.RowKit Go.Sort Go.Shelf
set_option linter.unusedVariables false

def cmpStr_ren : Go.Shelf.Ren := ⟨fun | 106 => 150 | 213 => 157 | 265 => 166 | n => n, fun | 3 => 3 | 9 => 9 | n => n, fun | n => n⟩
theorem cmpStr : Go.Proofs.Lays.n106 Try.prog cmpStr_ren := {
  mixed := by kernel_rfl
  f106 := Try.func150.trans (congrArg some (by kernel_rfl))
  f213 := Try.func157.trans (congrArg some (by kernel_rfl))
  f265 := Try.func166.trans (congrArg some (by kernel_rfl))
  t3 := Try.underlying3
  a3 := Try.isAgg3
  z3 := Try.sizeOf3
  v3 := Try.zeroValue3
  t9 := Try.underlying9
  a9 := Try.isAgg9
  z9 := Try.sizeOf9
  v9 := Try.zeroValue9 }
theorem scmp_any (a b : ByteArray) (w : World) : Calls Try.prog 150 #[.string a, .string b] w fun e w' => e = .returned (.int .i64 (Lib.compareBytes a.data.toList b.data.toList)) ∧ w = w' :=
  (Any.strings_Compare (P := Try.prog) (ρ := cmpStr_ren) cmpStr a b w).mono fun e w' ⟨h1, h2⟩ => ⟨h1, h2.symm⟩

abbrev Byt := List UInt8
def strB (l : Byt) : ByteArray := ⟨l.toArray⟩
abbrev strV (l : Byt) : Value := .string (strB l)
def toI (l : Byt) : List Int := l.map fun b => (b.toNat : Int)
theorem toI_length (l : Byt) : (toI l).length = l.length := by simp [toI]
theorem toI_inj : ∀ {x y : Byt}, toI x = toI y → x = y
  | [], [], _ => rfl
  | [], _ :: _, h => by simp [toI] at h
  | _ :: _, [], h => by simp [toI] at h
  | a :: x, b :: y, h => by
    simp only [toI, List.map_cons, List.cons.injEq] at h
    have h1 : a = b := UInt8.toNat_inj.1 (by omega)
    rw [h1, toI_inj h.2]
def cfS (a b : Byt) : Int := orL [cmpI a.length b.length, Lib.compareBytes a b]
theorem compare_lex : ∀ {x y : Byt}, x.length = y.length → (decide (Lib.compareBytes x y < 0) = lexB (toI x) (toI y))
  | [], [], _ => rfl
  | [], _ :: _, h => by simp at h
  | _ :: _, [], h => by simp at h
  | a :: x, b :: y, h => by
    have ih := compare_lex (x := x) (y := y) (by simpa using h)
    have e1 : (a < b) = ((a.toNat : Int) < b.toNat) := by rw [UInt8.lt_iff_toNat_lt]; exact propext (by omega)
    have e2 : (b < a) = ((b.toNat : Int) < a.toNat) := by rw [UInt8.lt_iff_toNat_lt]; exact propext (by omega)
    have h1 : toI (a :: x) = (a.toNat : Int) :: toI x := rfl
    have h2 : toI (b :: y) = (b.toNat : Int) :: toI y := rfl
    rw [h1, h2]
    unfold Lib.compareBytes lexB
    simp only [e1, e2]
    by_cases g1 : (a.toNat : Int) < b.toNat
    · simp [g1]
    · by_cases g2 : (b.toNat : Int) < a.toNat
      · simp [g1, g2]
      · rw [if_neg g1, if_neg g2, if_neg g1, if_neg g2]
        exact ih
theorem ltOf_cfS (x y : Byt) : ltOf cfS x y = ltS (toI x) (toI y) := by
  unfold ltOf cfS ltS
  rw [toI_length, toI_length]
  by_cases h1 : x.length < y.length
  · rw [if_pos h1]
    have : cmpI (x.length : Int) (y.length : Int) = -1 := by unfold cmpI; rw [if_pos (by omega)]
    simp [orL, this]
  · rw [if_neg h1]
    by_cases h2 : y.length < x.length
    · rw [if_pos h2]
      have : cmpI (x.length : Int) (y.length : Int) = 1 := by unfold cmpI; rw [if_neg (by omega), if_pos (by omega)]
      simp [orL, this]
    · rw [if_neg h2, ← compare_lex (by omega)]
      have : cmpI (x.length : Int) (y.length : Int) = 0 := by unfold cmpI; rw [if_neg (by omega), if_neg (by omega)]
      rw [this]
      by_cases e : Lib.compareBytes x y = 0
      · simp [orL, e]
      · simp [orL, e]
theorem cfS_swo : SWO (ltOf cfS) where
  irrefl x := by rw [ltOf_cfS, ltS_irrefl]
  trans x y z h1 h2 := by rw [ltOf_cfS] at h1 h2 ⊢; exact ltS_trans h1 h2
  ntrans x y z h1 h2 := by
    rw [ltOf_cfS] at h1 h2 ⊢
    cases e : ltS (toI x) (toI z) with
    | false => rfl
    | true =>
      exfalso
      cases e1 : ltS (toI y) (toI x) with
      | true => rw [ltS_trans e1 e] at h2; cases h2
      | false => rw [ltS_total h1 e1] at e; rw [e] at h2; cases h2
theorem cfS_total (x y : Byt) (h1 : ltOf cfS x y = false) (h2 : ltOf cfS y x = false) : x = y := by
  rw [ltOf_cfS] at h1 h2
  exact toI_inj (ltS_total h1 h2)

theorem begCmp_any (a b : Byt) (w : World) :
    Calls Try.prog 149 #[strV a, strV b] w fun e w' => e = .returned (.int .i64 (cfS a b)) ∧ ∃ q os, w' = grow (w.drewN q) os := by
  have HE : Hid (cfS a b = orL [cmpI a.length b.length, Lib.compareBytes a b]) := rfl
  have hsz1 : (strB a).size = a.length := by simp [strB, ByteArray.size]
  have hsz2 : (strB b).size = b.length := by simp [strB, ByteArray.size]
  have hc := scmp_any (strB a) (strB b)
  have e1 : (strB a).data.toList = a := by simp [strB]
  have e2 : (strB b).data.toList = b := by simp [strB]
  rw [e1, e2] at hc
  obtain ⟨sa, hsa⟩ : ∃ s, strB a = s := ⟨_, rfl⟩
  obtain ⟨sb, hsb⟩ : ∃ s, strB b = s := ⟨_, rfl⟩
  unfold strV
  rw [hsa] at hsz1 hc ⊢
  rw [hsb] at hsz2 hc ⊢
  have HC := Lib.hid hc
  have H1 := Lib.hid hsz1
  have H2 := Lib.hid hsz2
  clear hc hsz1 hsz2 e1 e2 hsa hsb
  go_enter Try.func149, Try.ntmps149
  go_wp2_with fail
  refine (compare_any _ _ _).mono ?_
  rintro e w1 ⟨rfl, rfl⟩
  go_wp2_with fail
  refine (HC.out _).mono ?_
  rintro e w1 ⟨rfl, rfl⟩
  go_wp2_with fail
  rw [H1.out, H2.out]
  refine (or_any _ _ _ [cmpI a.length b.length, Lib.compareBytes a b] _ (Sl1.lay _ _ [cmpI a.length b.length, Lib.compareBytes a b] _ _ (by simp)) (by simp)).mono ?_
  rintro e w3 ⟨rfl, rfl⟩
  go_wp2
  go_ret
  exact ⟨by rw [HE.out]; rfl, 0, #[_], rfl⟩

end Go.Proofs.Ytifcoalhkcflnaa

/- Maps of texts to numbers that a call makes (layer 7): how they are asked and written. -/







namespace Go.Proofs.Ytifcoalhkcflnaa
open Go.RowKit Go.Sort Go.Maps Go.WideAt Go.WideMaps
set_option linter.unusedVariables false

def ofI (xs : List Int) : Byt := xs.map fun n => UInt8.ofNat n.toNat
theorem strOf_eq (xs : List Int) : strOfNums xs = strB (ofI xs) := rfl
theorem toI_ofI {xs : List Int} (h : ∀ x ∈ xs, 0 ≤ x ∧ x ≤ 255) : toI (ofI xs) = xs := by
  unfold toI ofI
  rw [List.map_map]
  conv => rhs; rw [← List.map_id xs]
  apply List.map_congr_left
  intro x hx
  have := h x hx
  simp only [Function.comp, id, UInt8.toNat_ofNat']
  omega
theorem ofI_toI (l : Byt) : ofI (toI l) = l := toI_inj (toI_ofI fun x hx => by
  unfold toI at hx
  obtain ⟨b, _, rfl⟩ := List.mem_map.1 hx
  have := b.toNat_lt
  omega)
theorem strB_size (l : Byt) : (strB l).size = l.length := by simp [strB, ByteArray.size]

theorem str_law : Keyed Try.prog 9 := Keyed.of_law (string_law Try.underlying9)
theorem str_key (l : Byt) (h : l.length ≤ maxLen) : keyOf Try.prog 9 (strV l) = some (.string l) := by
  have := keyOf_string_mk (P := Try.prog) Try.underlying9 (s := strB l) (by rw [strB_size]; exact h)
  have e : (strB l).data.toList = l := by simp [strB]
  rw [e] at this
  exact this
theorem zero_int7 (w : World) : (zeroValue 3).run Try.prog w = .ok (.int .i64 0) w := by kernel_rfl

/-- A map of the call's own, of texts to numbers: what it says of each. -/
def MS (W : World) (b n : Nat) (f : Byt → Option Int) : Prop :=
  ∃ D : DataW Unit, W.ownsMap Try.prog 9 (plainElem Try.prog 3) b n D ∧ IsMap D ∧ ∀ l : Byt, Maps.has D (.string l) = (f l).isSome ∧ ∀ m, f l = some m → D.atKey (.string l) (.lit (.int .i64 0)) = .lit (.int .i64 m)
theorem MS.start {b : Nat} (w : World) (hD : w.ownsMap Try.prog 9 (plainElem Try.prog 3) b 0 (.map [] : DataW Unit)) : MS w b 0 (fun _ => none) :=
  ⟨_, hD, isMap_empty, fun l => ⟨rfl, fun m h => by cases h⟩⟩
theorem MS.kept {W W' : World} {b n : Nat} {f : Byt → Option Int} {row : Option Nat} (h : MS W b n f) (hg : W.grownBy W' row) (hne : row ≠ some b) : MS W' b n f := by
  obtain ⟨D, h1, h2⟩ := h
  exact ⟨D, h1.kept hg (fun e => hne e.symm), h2⟩
theorem MS.alloc {W : World} {b n : Nat} {f : Byt → Option Int} (h : MS W b n f) (o : Obj) : MS (W.alloc o) b n f := by
  obtain ⟨D, h1, h2⟩ := h
  exact ⟨D, h1.alloc o, h2⟩
theorem MS.mono {W : World} {b n m : Nat} {f : Byt → Option Int} (h : MS W b n f) (hm : n ≤ m) : MS W b m f := by
  obtain ⟨D, h1, h2⟩ := h
  exact ⟨D, h1.mono hm, h2⟩

section
variable {w : World} {ops : Array Oper} {rest : List Oper} {o : Oper} {a : Act} {Q : Exit → Act → World → Prop} {b n : Nat} {f : Byt → Option Int}
theorem wpList_ms_ok (hg : o.guard = none) (m x : Operand) (hop : o.op = Op.lookup 177 m x true) (hm : a.eval m = .map (some b)) (hown : MS w b n f) (l : Byt) (hx : a.eval x = strV l) (hl : l.length ≤ maxLen)
    (hK : ∀ c : Int, (∀ q, f l = some q → c = q) → wpList Try.prog ops Q rest (a.put o.dst (.tuple #[.int .i64 c, .bool (f l).isSome])) w) : wpList Try.prog ops Q (o :: rest) a w := by
  obtain ⟨D, h1, h2, h3⟩ := hown
  refine wpList_lookup_own_ok_int _ hg m x 177 hop 9 3 .i64 str_law Try.underlying177 Try.underlying3 (zero_int7 _) b n D hm h1 _ _ hx (str_key l hl) ?_
  intro c hat _
  rw [(h3 l).1]
  exact hK c fun q hq => by have := hat.symm.trans ((h3 l).2 q hq); simpa using this
theorem wpList_ms_get (hg : o.guard = none) (m x : Operand) (hop : o.op = Op.lookup 177 m x false) (hm : a.eval m = .map (some b)) (hown : MS w b n f) (l : Byt) (hx : a.eval x = strV l) (hl : l.length ≤ maxLen)
    (hK : ∀ c : Int, (∀ q, f l = some q → c = q) → wpList Try.prog ops Q rest (a.put o.dst (.int .i64 c)) w) : wpList Try.prog ops Q (o :: rest) a w := by
  obtain ⟨D, h1, h2, h3⟩ := hown
  refine wpList_lookup_own_int _ hg m x 177 hop 9 3 .i64 str_law Try.underlying177 Try.underlying3 (zero_int7 _) b n D hm h1 _ _ hx (str_key l hl) ?_
  intro c hat _
  exact hK c fun q hq => by have := hat.symm.trans ((h3 l).2 q hq); simpa using this
theorem MS.put_ {D : DataW Unit} {v : Int} {l : Byt} (h2 : IsMap D) (h3 : ∀ l : Byt, Maps.has D (.string l) = (f l).isSome ∧ ∀ m, f l = some m → D.atKey (.string l) (.lit (.int .i64 0)) = .lit (.int .i64 m)) (hl : l.length ≤ maxLen) :
    IsMap (D.put (.string l) (.lit (.int .i64 v))) ∧ ∀ k : Byt, Maps.has (D.put (.string l) (.lit (.int .i64 v))) (.string k) = (if k = l then some v else f k).isSome ∧ ∀ m, (if k = l then some v else f k) = some m → (D.put (.string l) (.lit (.int .i64 v))).atKey (.string k) (.lit (.int .i64 0)) = .lit (.int .i64 m) := by
  have hkk := str_law.key (str_key l hl)
  refine ⟨h2.put _ _, fun k => ?_⟩
  by_cases e : k = l
  · subst e
    rw [if_pos rfl]
    refine ⟨by rw [has_put_same h2 hkk]; rfl, fun m hm => ?_⟩
    obtain rfl := Option.some.inj hm
    rw [atKey_put_same h2 hkk]
  · have e' : (Lit.string k) ≠ Lit.string l := fun h => e (by injection h)
    rw [if_neg e]
    exact ⟨by rw [has_put_other e', (h3 k).1], fun m hm => by rw [atKey_put_other e', (h3 k).2 m hm]⟩
theorem wpList_ms_put (hg : o.guard = none) (m x y : Operand) (hop : o.op = Op.mapUpdate 177 m x y) (hm : a.eval m = .map (some b)) (hown : MS w b n f) (hn : n < maxLen) (l : Byt) (v : Int) (hv : (Lit.int .i64 v).wf = true) (hx : a.eval x = strV l) (hy : a.eval y = .int .i64 v) (hl : l.length ≤ maxLen)
    (hK : ∀ w', MS w' b (n + 1) (fun k => if k = l then some v else f k) → w.grownBy w' (some b) → wpList Try.prog ops Q rest (a.put o.dst undef) w') : wpList Try.prog ops Q (o :: rest) a w := by
  obtain ⟨D, h1, h2, h3⟩ := hown
  obtain ⟨q1, q2⟩ := MS.put_ (f := f) (v := v) h2 h3 hl
  refine wpList_mapUpdate_own _ hg m x y 177 hop 9 3 str_law Try.underlying177 _ b n D hm h1 hn _ _ _ hx hy (str_key l hl) _ [] (plainElem_int Try.underlying3 hv) ?_
  intro w' hw hgr
  exact hK w' ⟨_, hw, q1, q2⟩ hgr
theorem wpList_ms_ins (hg : o.guard = none) (m x y : Operand) (hop : o.op = Op.insert 177 m x y) (hm : a.eval m = .map (some b)) (hown : MS w b n f) (hn : n < maxLen) (l : Byt) (v : Int) (hv : (Lit.int .i64 v).wf = true) (hx : a.eval x = strV l) (hy : a.eval y = .int .i64 v) (hl : l.length ≤ maxLen)
    (hK : ∀ w', MS w' b (n + 1) (fun k => if k = l then some v else f k) → w.grownBy w' (some b) → wpList Try.prog ops Q rest (a.put o.dst undef) w') : wpList Try.prog ops Q (o :: rest) a w := by
  obtain ⟨D, h1, h2, h3⟩ := hown
  obtain ⟨q1, q2⟩ := MS.put_ (f := f) (v := v) h2 h3 hl
  refine wpList_plain hg fun K' hK' => ?_
  obtain ⟨w', hrun, r1, r2⟩ := h1.update str_law Try.underlying177 hn (str_key l hl) (plainElem_int Try.underlying3 hv)
  unfold Oper.wp
  simp [execOp, hop, hm, hx, hy, hrun, Result.andThen]
  exact hK' _ _ (hK w' ⟨_, r1, q1, q2⟩ r2)
end

end Go.Proofs.Ytifcoalhkcflnaa

/- The beginnings of words, sorted (layer 7): walked. -/



namespace Go.Proofs.Ytifcoalhkcflnaa
open Go.RowKit Go.Sort
set_option linter.unusedVariables false
set_option linter.unusedSimpArgs false

/-! ### plain -/
def accB (l : List Byt) (b : Byt) : List Byt := if b ∈ l then l else l ++ [b]
def begWd (l : List Byt) (x : Byt) (k : Nat) : List Byt := (List.range k).foldl (fun l j => accB l (x.take (j + 1))) l
def begAll (ws : List Byt) : List Byt := ws.foldl (fun l x => begWd l x x.length) [[]]
theorem begWd_succ (l : List Byt) (x : Byt) (k : Nat) : begWd l x (k + 1) = accB (begWd l x k) (x.take (k + 1)) := by simp [begWd, List.range_succ, List.foldl_append]
theorem begAll_snoc (ws : List Byt) (x : Byt) : begAll (ws ++ [x]) = begWd (begAll ws) x x.length := by simp [begAll, List.foldl_append]
theorem mem_accB {l : List Byt} {b x : Byt} : x ∈ accB l b ↔ x ∈ l ∨ x = b := by
  unfold accB
  split
  · constructor
    · exact .inl
    · rintro (h | rfl) <;> assumption
  · simp
theorem accB_nodup {l : List Byt} {b : Byt} (h : l.Nodup) : (accB l b).Nodup := by
  unfold accB
  split
  · exact h
  · rename_i hb
    rw [List.nodup_append]
    refine ⟨h, by simp, fun a ha c hc e => ?_⟩
    simp at hc
    subst hc
    subst e
    exact hb ha
theorem accB_len (l : List Byt) (b : Byt) : l.length ≤ (accB l b).length ∧ (accB l b).length ≤ l.length + 1 := by
  unfold accB
  split <;> simp
theorem begWd_len (l : List Byt) (x : Byt) : ∀ k, l.length ≤ (begWd l x k).length ∧ (begWd l x k).length ≤ l.length + k
  | 0 => by simp [begWd]
  | k + 1 => by
    have h1 := begWd_len l x k
    have h2 := accB_len (begWd l x k) (x.take (k + 1))
    rw [begWd_succ]; omega
theorem begWd_spec {l : List Byt} (x : Byt) (h : l.Nodup) : ∀ k, (begWd l x k).Nodup ∧ ∀ y, y ∈ begWd l x k ↔ y ∈ l ∨ ∃ j, 1 ≤ j ∧ j ≤ k ∧ y = x.take j
  | 0 => by
    refine ⟨by simpa [begWd] using h, fun y => ?_⟩
    constructor
    · intro hy; exact .inl (by simpa [begWd] using hy)
    · rintro (hy | ⟨j, h1, h2, _⟩)
      · simpa [begWd] using hy
      · omega
  | k + 1 => by
    obtain ⟨h1, h2⟩ := begWd_spec x h k
    rw [begWd_succ]
    refine ⟨accB_nodup h1, fun y => ?_⟩
    rw [mem_accB, h2]
    constructor
    · rintro ((hy | ⟨j, a1, a2, a3⟩) | hy)
      · exact .inl hy
      · exact .inr ⟨j, a1, by omega, a3⟩
      · exact .inr ⟨k + 1, by omega, by omega, hy⟩
    · rintro (hy | ⟨j, a1, a2, a3⟩)
      · exact .inl (.inl hy)
      · by_cases e : j = k + 1
        · subst e; exact .inr a3
        · exact .inl (.inr ⟨j, a1, by omega, a3⟩)
theorem begAll_spec (ws : List Byt) : (begAll ws).Nodup ∧ ∀ y, y ∈ begAll ws ↔ y = [] ∨ ∃ x ∈ ws, ∃ k, 1 ≤ k ∧ k ≤ x.length ∧ y = x.take k := by
  refine snoc_ind (P := fun ws => (begAll ws).Nodup ∧ ∀ y, y ∈ begAll ws ↔ y = [] ∨ ∃ x ∈ ws, ∃ k, 1 ≤ k ∧ k ≤ x.length ∧ y = x.take k) (by simp [begAll]) (fun ws x ⟨h1, h2⟩ => ?_) ws
  rw [begAll_snoc]
  obtain ⟨g1, g2⟩ := begWd_spec x h1 x.length
  refine ⟨g1, fun y => ?_⟩
  rw [g2, h2]
  constructor
  · rintro ((h | ⟨z, hz, r⟩) | ⟨j, a1, a2, a3⟩)
    · exact .inl h
    · exact .inr ⟨z, by simp [hz], r⟩
    · exact .inr ⟨x, by simp, j, a1, a2, a3⟩
  · rintro (h | ⟨z, hz, k, a1, a2, a3⟩)
    · exact .inl (.inl h)
    · rcases List.mem_append.1 hz with hz | hz
      · exact .inl (.inr ⟨z, hz, k, a1, a2, a3⟩)
      · simp at hz; subst hz; exact .inr ⟨k, a1, a2, a3⟩
def byteSum (ws : List Byt) : Nat := (ws.map List.length).sum
theorem begAll_len (ws : List Byt) : (begAll ws).length ≤ 1 + byteSum ws := by
  refine snoc_ind (P := fun ws => (begAll ws).length ≤ 1 + byteSum ws) (by simp [begAll, byteSum]) (fun ws x h => ?_) ws
  rw [begAll_snoc]
  have := (begWd_len (begAll ws) x x.length).2
  have e : byteSum (ws ++ [x]) = byteSum ws + x.length := by simp [byteSum]
  omega
theorem toI_take (x : Byt) (k : Nat) : toI (x.take k) = (toI x).take k := by simp [toI, List.map_take]
/-- Sorted, they are the nodes. -/
theorem sorted_nodes {wss : List (List Int)} (hb : ∀ w ∈ wss, ∀ x ∈ w, 0 ≤ x ∧ x ≤ 255) {l : List Byt} (h1 : l.Perm (begAll (wss.map ofI))) (h2 : SrtS (l.map toI)) : l.map toI = nodesL wss := by
  refine nodesL_unique h2 fun x => ?_
  rw [List.mem_map]
  constructor
  · rintro ⟨y, hy, rfl⟩
    rw [h1.mem_iff, (begAll_spec _).2] at hy
    rcases hy with rfl | ⟨z, hz, k, a1, a2, rfl⟩
    · exact .inl rfl
    · obtain ⟨w, hw, rfl⟩ := List.mem_map.1 hz
      refine .inr ⟨w, hw, k, a1, by simpa [ofI] using a2, ?_⟩
      rw [toI_take, toI_ofI (hb w hw)]
  · rintro (rfl | ⟨w, hw, k, a1, a2, rfl⟩)
    · exact ⟨[], by rw [h1.mem_iff, (begAll_spec _).2]; exact .inl rfl, rfl⟩
    · refine ⟨(ofI w).take k, ?_, by rw [toI_take, toI_ofI (hb w hw)]⟩
      rw [h1.mem_iff, (begAll_spec _).2]
      exact .inr ⟨ofI w, List.mem_map.2 ⟨w, hw, rfl⟩, k, a1, by simpa [ofI] using a2, rfl⟩

end Go.Proofs.Ytifcoalhkcflnaa

/- Texts sorted; the beginnings of words (layer 7): walked. -/

namespace Go.Proofs.Ytifcoalhkcflnaa
open Go.RowKit Go.Sort Go.Shelf
set_option linter.unusedVariables false
set_option linter.unusedSimpArgs false

theorem below_sortWorld {α : Type} [Inhabited α] (enc : α → Value) {B : Nat} {w0 W : World} (h : Below B w0 W) (g off n : Nat) (d : Array α) (os : Array Obj) (hg : B ≤ g) (hBW : B ≤ W.heap.size) : Below B w0 (sortWorld enc W g off n d os) := by
  have hsz : (sortWorld enc W g off n d os).heap.size = W.heap.size + os.size := by simp [sortWorld, putRow, mapBlock, Go.Sort.grow, Go.Sort.ahead]
  refine ⟨h.os, h.tape, h.output, by rw [hsz]; have := h.size; omega, fun k hk => ?_⟩
  have hk2 : k < W.heap.size := by omega
  refine Eq.trans ?_ (h.block k hk)
  show ((W.heap.modify g _) ++ os)[k]? = _
  rw [Array.getElem?_append_left (by simpa using hk2), Array.getElem?_modify, if_neg (by omega)]

theorem sortStr_any (g cap : Nat) (l : List Byt) (w : World) (hg : g < w.heap.size) (hc : ∀ i x, l[i]? = some x → w.cell? ⟨g, i, none⟩ = some (strV x) ∧ w.frozen? ⟨g, i, none⟩ = false) (hl : l.length < 4611686018427387904) :
    Calls Try.prog 148 #[.slice (some ⟨g, 0, none⟩) l.length cap, .func (.func 149) #[] #[]] w fun e w' => e = .returned (.tuple #[]) ∧
      ∃ l' : List Byt, l'.Perm l ∧ l'.Pairwise (fun a b => ltS (toI b) (toI a) = false) ∧ Sl1 strV w' (some ⟨g, 0, none⟩) l.length l' ∧ ∀ B w0, Below B w0 w → B ≤ g → B ≤ w.heap.size → Below B w0 w' := by
  have hH : Holds strV w g 0 l.toArray := fun j hj => by
    have hj' : j < l.length := by simpa using hj
    obtain ⟨h1, h2⟩ := hc j l[j] (by simp)
    rw [Nat.zero_add]
    refine ⟨?_, h2⟩
    rw [h1, getElem!_pos l.toArray j hj]
    simp
  have h := Any.slices_SortFunc_total (P := Try.prog) (ρ := sortStr_ren) sortStr strV (fun _ => rfl) cfS cfS_swo 149 #[] g 0 cap l.toArray w (enters_of Try.func149 (by kernel_rfl) rfl)
    (fun m os dk hs x y => by
      have := begCmp_any x y (sortWorld strV w g 0 m dk os)
      exact this)
    hH hg (by simpa using hl) cfS_total
  have hsz : l.toArray.size = l.length := by simp
  rw [hsz] at h
  refine Calls.mono h ?_
  rintro e w' ⟨he, n, os, rfl⟩
  have hperm : (l.mergeSort fun x y => !(ltOf cfS) y x).Perm l := List.mergeSort_perm l _
  have hsorted : (l.mergeSort fun x y => !(ltOf cfS) y x).Pairwise (fun x y => (!(ltOf cfS) y x) = true) := by
    refine List.pairwise_mergeSort (le := fun x y => !(ltOf cfS) y x) (fun a b c h1 h2 => ?_) (fun a b => ?_) l
    · simp only [Bool.not_eq_true', Bool.not_eq_eq_eq_not, Bool.not_true] at h1 h2 ⊢
      exact cfS_swo.ntrans _ _ _ h2 h1
    · cases e1 : ltOf cfS b a with
      | false => simp
      | true =>
        cases e2 : ltOf cfS a b with
        | false => simp
        | true => exact absurd (cfS_swo.trans _ _ _ e1 e2) (by rw [cfS_swo.irrefl]; simp)
  refine ⟨he, _, hperm, hsorted.imp fun {a b} h => ?_, ⟨hperm.length_eq, .inr ⟨g, 0, rfl, lt_sortWorld _ _ _ _ _ _ _ hg, fun i x hx => ?_⟩⟩, fun B w0 hb h1 h2 => below_sortWorld _ hb _ _ _ _ _ h1 h2⟩
  · rw [← ltOf_cfS]
    simpa using h
  · have hH2 := holds_sortWorld strV w g 0 n l.toArray (l.mergeSort fun x y => !(ltOf cfS) y x).toArray os hg hH (by simp [hperm.length_eq])
    have hi := (List.getElem?_eq_some_iff.1 hx)
    have := (hH2 i (by simpa using hi.1)).1
    rw [getElem!_pos _ i (by simpa using hi.1)] at this
    simp only [List.getElem_toArray] at this
    rw [hi.2] at this
    rwa [Nat.zero_add] at this ⊢

end Go.Proofs.Ytifcoalhkcflnaa
