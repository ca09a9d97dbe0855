/- Parts of the proof, one behind the other: Tq, Cp, H2, U1, U2, U3, U4, U5, U6, U7. No condition but what each theorem states. -/
import Derived.Shelf.SlGeneric
import Derived.Shelf.SlLaysF
import Derived.Test.YtglfdclpjmhoiaaGreatProg
import Derived.Shelf.Small.Strs
import Derived.Shelf.SlSortCmp.NoneTotal
import Derived.Maps.Own
import Derived.Maps.OwnOps
import Derived.Maps.OwnSet
import Derived.Maps.Views
import Derived.StringKeys
import Derived.Deep.CutBlock
import Derived.Test.YtglfdclpjmhoiaaGreatZK1
import Derived.Test.YtglfdclpjmhoiaaGreatZK3
set_option linter.unusedVariables false
set_option linter.unusedSimpArgs false

/- Plain laws of layer 7: which tries may be; a trie read. -/

namespace Go.Proofs.YtglfdclpjmhoiaaGreat

theorem whichL_neg {fold : Bool} {x : List Int} {acc : List (List Int)} : whichL fold x acc < 0 ↔ ∀ y ∈ acc, foldL fold y ≠ foldL fold x := by
 unfold whichL whichO
 cases e : acc.findIdx? (fun w => sameL fold x w) with
 | none =>
  rw [List.findIdx?_eq_none_iff] at e
  constructor
  ·
   intro _ y hy h
   have := e y hy
   unfold sameL at this
   simp at this
   exact this h.symm
  · intro _; dsimp only; omega
 | some k =>
  constructor
  · intro h; dsimp only at h; omega
  ·
   intro h
   obtain ⟨hk, h1, _⟩ := List.findIdx?_eq_some_iff_getElem.1 e
   unfold sameL at h1
   simp at h1
   exact absurd h1.symm (h _ (List.getElem_mem hk))
theorem makeL_spec (fold : Bool) (l : List (List Int)) : (makeL fold l).Nodup ∧ ∀ y ∈ makeL fold l, foldL fold y = y := by
 refine snoc_ind (P := fun l => (makeL fold l).Nodup ∧ ∀ y ∈ makeL fold l, foldL fold y = y) (by simp [makeL]) (fun l x ⟨h1, h2⟩ => ?_) l
 rw [makeL_snoc]
 unfold addW
 by_cases h : whichL fold x (makeL fold l) < 0
 ·
  rw [if_pos h]
  have hn := whichL_neg.1 h
  refine ⟨?_, fun y hy => ?_⟩
  ·
   rw [List.nodup_append]
   refine ⟨h1, by simp, fun a ha b hb e => ?_⟩
   simp at hb
   subst hb
   subst e
   exact hn _ ha (foldL_foldL _ _)
  ·
   rcases List.mem_append.1 hy with hy | hy
   · exact h2 y hy
   · simp at hy; subst hy; exact foldL_foldL _ _
 · rw [if_neg h]; exact ⟨h1, h2⟩
theorem makeL_self : ∀ (l : List (List Int)), l.Nodup → makeL false l = l := by
 refine snoc_ind (P := fun l => l.Nodup → makeL false l = l) (by simp [makeL]) (fun l x ih h => ?_)
 rw [List.nodup_append] at h
 rw [makeL_snoc, ih h.1]
 unfold addW
 rw [if_pos (whichL_neg.2 fun y hy e => ?_)]
 · simp [foldL]
 ·
  simp [foldL] at e
  exact h.2.2 y hy x (by simp) e
theorem right_spec {fold : Bool} {wss : List (List Int)} (h : rightP fold wss = true) : wss.length ≤ 64 ∧ wss ≠ [] ∧ (∀ x ∈ wss, x.length ≠ 0 ∧ x.length ≤ 32) ∧ bsum wss ≤ 600 ∧ nodesR fold wss ≤ 400 ∧ makeL fold wss = wss := by
 rw [right_eq] at h
 unfold rightR at h
 rw [Bool.and_eq_true] at h
 have h1 : checkR fold wss = 0 := of_decide_eq_true h.1
 have h2 : makeL fold wss = wss := of_decide_eq_true h.2
 unfold checkR at h1
 by_cases a1 : wss.length = 0
 · rw [if_pos a1] at h1; cases h1
 ·
  rw [if_neg a1] at h1
  by_cases a2 : wss.length > 64
  · rw [if_pos a2] at h1; cases h1
  ·
   rw [if_neg a2] at h1
   by_cases a3 : ∃ x ∈ wss, x.length = 0
   · rw [if_pos a3] at h1; cases h1
   ·
    rw [if_neg a3] at h1
    by_cases a4 : ∃ x ∈ wss, x.length > 32
    · rw [if_pos a4] at h1; cases h1
    ·
     rw [if_neg a4] at h1
     by_cases a5 : bsum wss > 600
     · rw [if_pos a5] at h1; cases h1
     ·
      rw [if_neg a5] at h1
      by_cases a6 : nodesR fold wss > 400
      · rw [if_pos a6] at h1; cases h1
      · exact ⟨by omega, fun e => a1 (by rw [e]; rfl), fun x hx => ⟨fun e => a3 ⟨x, hx, e⟩, Nat.not_lt.1 fun e => a4 ⟨x, hx, e⟩⟩, by omega, by omega, h2⟩

theorem right_nodup {fold : Bool} {wss : List (List Int)} (h : rightP fold wss = true) : wss.Nodup ∧ ∀ w ∈ wss, foldL fold w = w := by
 have := makeL_spec fold wss
 rwa [(right_spec h).2.2.2.2.2] at this
/-- How many nodes there are. -/
theorem nodesL_count (fold : Bool) {wss : List (List Int)} (hf : ∀ w ∈ wss, foldL fold w = w) : ((nodesL wss).length : Int) = nodesR fold wss := by
 obtain ⟨h1, h2⟩ := count_eq fold wss
 have hp : (nodesL wss).Perm (prun (begL fold wss)).1 := by
  rw [List.perm_ext_iff_of_nodup (nodesL_srt wss).nodup (rep_run (begL fold wss)).nodup]
  intro x
  rw [mem_nodesL, h2, IsBeg.iff]
  unfold Begs
  constructor
  ·
   rintro (h | ⟨h0, w, hw, hp⟩)
   · exact .inl h
   · exact .inr ⟨w, hw, by rw [hf w hw]; exact hp⟩
  ·
   rintro (h | ⟨w, hw, hp⟩)
   · exact .inl h
   ·
    by_cases e : x = []
    · exact .inl e
    · exact .inr ⟨e, w, hw, by rw [hf w hw] at hp; exact hp⟩
 rw [hp.length_eq]
 exact h1

theorem right_false {fold : Bool} {wss : List (List Int)} (h : rightP fold wss = true) : rightP false wss = true := by
 obtain ⟨h1, h2, h3, h4, h5, h6⟩ := right_spec h
 obtain ⟨g1, g2⟩ := right_nodup h
 have e1 : nodesR false wss = nodesR fold wss := by rw [← nodesL_count fold g2, ← nodesL_count false (fun w _ => by simp [foldL])]
 rw [right_eq]
 unfold rightR
 rw [Bool.and_eq_true]
 refine ⟨decide_eq_true ?_, decide_eq_true (makeL_self wss g1)⟩
 unfold checkR
 rw [if_neg (fun e => h2 (List.eq_nil_of_length_eq_zero e)), if_neg (by omega), if_neg (fun ⟨x, hx, e⟩ => (h3 x hx).1 e), if_neg (fun ⟨x, hx, e⟩ => by have := (h3 x hx).2; omega), if_neg (by omega), if_neg (by rw [e1]; omega)]

/-! ### a trie read -/
/-- The bytes of the first nodes. -/
def spTo (T : TrieT) : Nat → Option (List (List Int))
 | 0 => none
 | 1 => some [[]]
 | i + 2 => (spTo T (i + 1)).bind fun l => match T.up[i + 1]?, T.byt[i + 1]? with
  | some u, some c => if 0 ≤ u ∧ u < (i : Int) + 1 then (l[u.toNat]?).map fun p => l ++ [p ++ [c]] else none
  | _, _ => none
def spO (T : TrieT) : Option (List (List Int)) :=
 if 1 ≤ T.up.length ∧ T.up.length ≤ 400 ∧ T.byt.length = T.up.length ∧ T.dep.length = T.up.length ∧ T.wrd.length = T.up.length then spTo T T.up.length else none
theorem spTo_length {T : TrieT} : ∀ {i : Nat} {l : List (List Int)}, spTo T i = some l → l.length = i
 | 0, l, h => by cases h
 | 1, l, h => by simp [spTo] at h; simp [← h]
 | i + 2, l, h => by
  unfold spTo at h
  obtain ⟨l0, h0, h⟩ := Option.bind_eq_some_iff.1 h
  have ih := spTo_length h0
  split at h
  ·
   split at h
   ·
    obtain ⟨p, hp, rfl⟩ := Option.map_eq_some_iff.1 h
    simp [ih]
   · cases h
  · cases h
/-- What is numbered: of each word's number its node (0: none yet), how many. -/
def nuTo (T : TrieT) (n : Nat) : Nat → Option (List Int × Int)
 | 0 => some (List.replicate n 0, 0)
 | i + 1 => (nuTo T n i).bind fun s => match T.wrd[i]? with
  | some w => if w = -1 then some s else if w < 0 ∨ (n : Int) ≤ w ∨ i = 0 ∨ (s.1[w.toNat]?).getD 0 ≠ 0 then none else some (s.1.set w.toNat i, s.2 + 1)
  | none => none
def wdTo (sp : List (List Int)) (at_ : List Int) : Nat → Option (List (List Int))
 | 0 => some []
 | k + 1 => (wdTo sp at_ k).bind fun l => match at_[k]? with
  | some i => if i = 0 then none else (sp[i.toNat]?).map fun x => l ++ [x]
  | none => none
def nuO (T : TrieT) (sp : List (List Int)) : Option (List (List Int)) := (nuTo T sp.length T.wrd.length).bind fun s => wdTo sp s.1 s.2.toNat
def eqT (T U : TrieT) : Bool := decide (T.up = U.up) && decide (T.dep = U.dep) && decide (T.wrd = U.wrd) && decide (T.byt = U.byt)
theorem eqT_iff {T U : TrieT} : eqT T U = true ↔ T = U := by
 obtain ⟨a, b, c, d⟩ := T
 obtain ⟨a', b', c', d'⟩ := U
 simp [eqT, and_assoc]
def readP (T : TrieT) : Option (List (List Int) × List (List Int)) :=
 (spO T).bind fun sp => (nuO T sp).bind fun ws => if (rightP false ws && eqT (trieP ws) T) = true then some (sp, ws) else none

section
variable {ws : List (List Int)}
theorem foldL_false (w : List Int) : foldL false w = w := by simp [foldL]
theorem right_nodes (h : rightP false ws = true) : 1 ≤ (nodesL ws).length ∧ (nodesL ws).length ≤ 400 := by
 have h1 := (right_spec h).2.2.2.2.1
 have h2 := nodesL_count false (wss := ws) (fun w _ => foldL_false w)
 have h3 : (nodesL ws).length ≠ 0 := fun e => nodesL_ne ws (List.eq_nil_of_length_eq_zero e)
 omega
/-- The node above stands ahead. -/
theorem up_lt {i : Nat} {x : List Int} (h : (nodesL ws)[i]? = some x) (h0 : x ≠ []) : ∃ j, j < i ∧ (nodesL ws)[j]? = some x.dropLast ∧ placeS (nodesL ws) x.dropLast = j := by
 have hs := nodesL_srt ws
 have hm : x.dropLast ∈ nodesL ws := (mem_nodesL ws).2 ((mem_nodesL ws).1 (List.mem_of_getElem? h)).up
 obtain ⟨j, hj⟩ := List.getElem?_of_mem hm
 refine ⟨j, ?_, hj, placeS_at hs.nodup hj⟩
 have hlen : x.dropLast.length < x.length := by
  rw [List.length_dropLast]
  have : x.length ≠ 0 := fun e => h0 (List.eq_nil_of_length_eq_zero e)
  omega
 have hi' := (List.getElem?_eq_some_iff.1 h)
 have hj' := (List.getElem?_eq_some_iff.1 hj)
 rcases Nat.lt_or_ge j i with hlt | hge
 · exact hlt
 ·
  exfalso
  rcases Nat.lt_or_ge i j with hlt | hge2
  ·
   have hp := List.pairwise_iff_getElem.1 hs i j hi'.1 hj'.1 hlt
   rw [hi'.2, hj'.2] at hp
   have := ltS_len hp
   omega
  ·
   have e : i = j := by omega
   subst e
   rw [h] at hj
   have := congrArg List.length (Option.some.inj hj)
   omega
theorem dropLast_lastB {x : List Int} (h : x ≠ []) : x.dropLast ++ [lastB x] = x := by
 unfold lastB
 rw [List.getLast?_eq_some_getLast h, Option.getD_some]
 exact List.dropLast_concat_getLast h
theorem nodes_ne {i : Nat} {x : List Int} (h : (nodesL ws)[i + 1]? = some x) : x ≠ [] := by
 intro e
 subst e
 have h0 := nodesL_head ws
 have hn := (nodesL_srt ws).nodup
 have := nodup_at hn h0 h
 omega
theorem spTo_trie : ∀ i, 1 ≤ i → i ≤ (nodesL ws).length → spTo (trieP ws) i = some ((nodesL ws).take i)
 | 0, h, _ => by omega
 | 1, _, _ => by
  have h0 := nodesL_head ws
  revert h0
  cases nodesL ws with
  | nil => intro h; cases h
  | cons a l => intro h; simp at h; simp [spTo, h]
 | i + 2, _, h => by
  have ih := spTo_trie (i + 1) (by omega) (by omega)
  obtain ⟨x, hx⟩ : ∃ x, (nodesL ws)[i + 1]? = some x := ⟨(nodesL ws)[i + 1]'(by omega), by simp⟩
  have h0 := nodes_ne hx
  obtain ⟨j, hj, hjx, hpl⟩ := up_lt hx h0
  unfold spTo
  rw [ih, Option.bind_some]
  have e1 : (trieP ws).up[i + 1]? = some (j : Int) := by simp [trieP, hx, hpl]
  have e2 : (trieP ws).byt[i + 1]? = some (lastB x) := by simp [trieP, hx]
  rw [e1, e2]
  dsimp only
  rw [if_pos ⟨by omega, by omega⟩, Int.toNat_natCast, List.getElem?_take, if_pos hj, hjx, Option.map_some, dropLast_lastB h0, take_step hx]
theorem spO_trie (h : rightP false ws = true) : spO (trieP ws) = some (nodesL ws) := by
 obtain ⟨h1, h2⟩ := right_nodes h
 unfold spO
 have e : (trieP ws).up.length = (nodesL ws).length := by simp [trieP]
 rw [if_pos ⟨by rw [e]; exact h1, by rw [e]; exact h2, by simp [trieP], by simp [trieP], by simp [trieP]⟩, e, spTo_trie _ h1 (Nat.le_refl _), List.take_length]

/-- The word's node, if it stands ahead of i. -/
def atW (ws : List (List Int)) (i w : Nat) : Int := match ws[w]? with
 | some x => if (nodesL ws).idxOf x < i then ((nodesL ws).idxOf x : Int) else 0
 | none => 0
theorem word_node {w : Nat} {x : List Int} (hx : ws[w]? = some x) (h0 : x ≠ []) : ∃ j, 1 ≤ j ∧ (nodesL ws)[j]? = some x ∧ (nodesL ws).idxOf x = j := by
 have hm : x ∈ nodesL ws := (mem_nodesL ws).2 (IsBeg.iff.2 (.inr ⟨h0, x, List.mem_of_getElem? hx, List.prefix_refl _⟩))
 obtain ⟨j, hj⟩ := List.getElem?_of_mem hm
 refine ⟨j, ?_, hj, ?_⟩
 ·
  by_cases e : j = 0
  ·
   subst e
   rw [nodesL_head] at hj
   exact absurd (Option.some.inj hj).symm h0
  · omega
 ·
  have := List.Nodup.idxOf_getElem (nodesL_srt ws).nodup j (List.getElem?_eq_some_iff.1 hj).1
  rwa [(List.getElem?_eq_some_iff.1 hj).2] at this
/-- How many words' nodes stand ahead of i. -/
def manyW (ws : List (List Int)) (i : Nat) : Int := ((ws.filter fun x => decide ((nodesL ws).idxOf x < i)).length : Int)
theorem words_lt (h : rightP false ws = true) : ws.length < (nodesL ws).length := by
 obtain ⟨g1, _⟩ := right_nodup h
 have h3 := (right_spec h).2.2.1
 have hp : ([] :: ws).Nodup := by
  rw [List.nodup_cons]
  exact ⟨fun hm => (h3 _ hm).1 rfl, g1⟩
 have hs : ([] :: ws) ⊆ nodesL ws := fun x hx => by
  rw [mem_nodesL, IsBeg.iff]
  rcases List.mem_cons.1 hx with e | hx
  · exact .inl e
  · exact .inr ⟨fun e => by subst e; exact (h3 _ hx).1 rfl, x, hx, List.prefix_refl _⟩
 have := hp.length_le_of_subset hs
 rw [List.length_cons] at this
 omega
theorem atW_at {i w : Nat} (hw : w < ws.length) (h : rightP false ws = true) : ∃ j x, 1 ≤ j ∧ ws[w]? = some x ∧ (nodesL ws)[j]? = some x ∧ atW ws i w = if j < i then (j : Int) else 0 := by
 obtain ⟨x, hx⟩ : ∃ x, ws[w]? = some x := ⟨ws[w]'hw, by simp⟩
 have h3 := ((right_spec h).2.2.1 x (List.mem_of_getElem? hx)).1
 obtain ⟨j, hj, hjx, hid⟩ := word_node hx (fun e => h3 (by rw [e]; rfl))
 refine ⟨j, x, hj, hx, hjx, ?_⟩
 unfold atW
 rw [hx]
 dsimp only
 rw [hid]
theorem nuTo_trie (h : rightP false ws = true) : ∀ i, i ≤ (nodesL ws).length → nuTo (trieP ws) (nodesL ws).length i = some ((List.range (nodesL ws).length).map (fun w => atW ws i w), manyW ws i)
 | 0, _ => by
  unfold nuTo
  have e1 : (fun w => atW ws 0 w) = fun _ => 0 := by
   funext w
   unfold atW
   split <;> simp
  have e2 : manyW ws 0 = 0 := by simp [manyW]
  rw [e1, e2]
  simp [List.map_const']
 | i + 1, hi => by
  have ih := nuTo_trie h i (by omega)
  obtain ⟨g1, _⟩ := right_nodup h
  have hns := (nodesL_srt ws).nodup
  obtain ⟨x, hx⟩ : ∃ x, (nodesL ws)[i]? = some x := ⟨(nodesL ws)[i]'(by omega), by simp⟩
  have hidx : (nodesL ws).idxOf x = i := by
   have := List.Nodup.idxOf_getElem hns i (by omega)
   rwa [(List.getElem?_eq_some_iff.1 hx).2] at this
  unfold nuTo
  rw [ih, Option.bind_some]
  have ew : (trieP ws).wrd[i]? = some (placeS ws x) := by simp [trieP, hx]
  rw [ew]
  dsimp only
  have hidx2 : ∀ y ∈ ws, (nodesL ws).idxOf y = i → y = x := fun y hy e => by
   have hym : y ∈ nodesL ws := by
    rw [mem_nodesL, IsBeg.iff]
    exact .inr ⟨fun e => by subst e; exact ((right_spec h).2.2.1 _ hy).1 rfl, y, hy, List.prefix_refl _⟩
   have h1 := List.getElem_idxOf (List.idxOf_lt_length_of_mem hym)
   have h2 := (List.getElem?_eq_some_iff.1 hx).2
   rw [← h1, ← h2]
   congr 1
  by_cases hm : x ∈ ws
  ·
   obtain ⟨w, hw⟩ := List.getElem?_of_mem hm
   have hwl := (List.getElem?_eq_some_iff.1 hw).1
   have hwn := words_lt h
   have hp := placeS_at g1 hw
   have hx0 : x ≠ [] := fun e => by subst e; exact ((right_spec h).2.2.1 _ hm).1 rfl
   have hi0 : i ≠ 0 := fun e => by
    subst e
    rw [nodesL_head] at hx
    exact hx0 (Option.some.inj hx).symm
   rw [hp, if_neg (by omega), Int.toNat_natCast]
   have ea : atW ws i w = 0 := by unfold atW; rw [hw]; dsimp only; rw [hidx, if_neg (by omega)]
   have eg : (((List.range (nodesL ws).length).map (fun w => atW ws i w))[w]?).getD 0 = 0 := by
    rw [List.getElem?_map, List.getElem?_range (by omega)]
    simpa using ea
   rw [if_neg (by rw [eg]; omega)]
   congr 1
   refine Prod.ext ?_ ?_
   ·
    dsimp only
    apply List.ext_getElem?
    intro v
    rw [List.getElem?_set]
    by_cases e : w = v
    ·
     subst e
     have hwn' : w < (nodesL ws).length := by omega
     have e1 : atW ws (i + 1) w = i := by unfold atW; rw [hw]; dsimp only; rw [hidx, if_pos (by omega)]
     simp [hwn', e1]
    ·
     rw [if_neg e, List.getElem?_map, List.getElem?_map]
     by_cases hv : v < (nodesL ws).length
     ·
      rw [List.getElem?_range hv]
      simp only [Option.map_some, Option.some.injEq]
      unfold atW
      cases ev : ws[v]? with
      | none => rfl
      | some y =>
       dsimp only
       have hne : (nodesL ws).idxOf y ≠ i := fun e2 => by
        have := hidx2 y (List.mem_of_getElem? ev) e2
        subst this
        exact e (nodup_at g1 hw ev)
       by_cases hlt : (nodesL ws).idxOf y < i
       · rw [if_pos hlt, if_pos (by omega)]
       · rw [if_neg hlt, if_neg (by omega)]
     · rw [List.getElem?_eq_none (by simpa using hv)]; rfl
   ·
    dsimp only
    unfold manyW
    have key : ∀ (l : List (List Int)), l.Nodup → x ∈ l → (∀ y ∈ l, (nodesL ws).idxOf y = i → y = x) → (l.filter fun y => decide ((nodesL ws).idxOf y < i + 1)).length = (l.filter fun y => decide ((nodesL ws).idxOf y < i)).length + 1 := by
     intro l
     induction l with
     | nil => intro _ h; cases h
     | cons y l ihl =>
      intro hn hxm hu
      rw [List.nodup_cons] at hn
      by_cases e : y = x
      ·
       subst e
       have hrest : ∀ z ∈ l, (decide ((nodesL ws).idxOf z < i + 1)) = decide ((nodesL ws).idxOf z < i) := fun z hz => by
        have hne : (nodesL ws).idxOf z ≠ i := fun e2 => by
         have := hu z (by simp [hz]) e2
         subst this
         exact hn.1 hz
        rw [decide_eq_decide]; omega
       rw [List.filter_cons, List.filter_cons, if_pos (by rw [hidx]; simp), if_neg (by rw [hidx]; simp), List.length_cons, List.filter_congr hrest]
      ·
       have hxl : x ∈ l := (List.mem_cons.1 hxm).resolve_left (fun e2 => e e2.symm)
       have hne : (nodesL ws).idxOf y ≠ i := fun e2 => e (hu y (by simp) e2)
       have ih2 := ihl hn.2 hxl (fun z hz => hu z (by simp [hz]))
       rw [List.filter_cons, List.filter_cons]
       by_cases hlt : (nodesL ws).idxOf y < i
       · rw [if_pos (by simp; omega), if_pos (by simpa using hlt), List.length_cons, List.length_cons, ih2]
       · rw [if_neg (by simp; omega), if_neg (by simpa using hlt), ih2]
    rw [key ws g1 hm hidx2]
    omega
  ·
   rw [placeS_no hm, if_pos rfl]
   congr 1
   have hne : ∀ y ∈ ws, (nodesL ws).idxOf y ≠ i := fun y hy e => hm (hidx2 y hy e ▸ hy)
   refine Prod.ext ?_ ?_
   ·
    dsimp only
    apply List.map_congr_left
    intro v _
    unfold atW
    cases ev : ws[v]? with
    | none => rfl
    | some y =>
     dsimp only
     have := hne y (List.mem_of_getElem? ev)
     by_cases hlt : (nodesL ws).idxOf y < i
     · rw [if_pos hlt, if_pos (by omega)]
     · rw [if_neg hlt, if_neg (by omega)]
   ·
    dsimp only
    have ef : (ws.filter fun y => decide ((nodesL ws).idxOf y < i + 1)) = ws.filter fun y => decide ((nodesL ws).idxOf y < i) := List.filter_congr (fun y hy => by have := hne y hy; rw [decide_eq_decide]; omega)
    unfold manyW
    rw [ef]
theorem manyW_all (h : rightP false ws = true) : manyW ws (nodesL ws).length = ws.length := by
 unfold manyW
 rw [List.filter_eq_self.2]
 intro y hy
 have hym : y ∈ nodesL ws := by
  rw [mem_nodesL, IsBeg.iff]
  exact .inr ⟨fun e => by subst e; exact ((right_spec h).2.2.1 _ hy).1 rfl, y, hy, List.prefix_refl _⟩
 simpa using List.idxOf_lt_length_of_mem hym
theorem wdTo_trie (h : rightP false ws = true) : ∀ k, k ≤ ws.length → wdTo (nodesL ws) ((List.range (nodesL ws).length).map (fun w => atW ws (nodesL ws).length w)) k = some (ws.take k)
 | 0, _ => rfl
 | k + 1, hk => by
  have ih := wdTo_trie h k (by omega)
  obtain ⟨j, x, hj, hx, hjx, ha⟩ := atW_at (i := (nodesL ws).length) (w := k) (by omega) h
  have hjl := (List.getElem?_eq_some_iff.1 hjx).1
  rw [if_pos hjl] at ha
  unfold wdTo
  rw [ih, Option.bind_some, List.getElem?_map, List.getElem?_range (by have := words_lt h; omega)]
  simp only [Option.map_some, ha]
  rw [if_neg (by omega), Int.toNat_natCast, hjx, Option.map_some, take_step hx]
theorem nuO_trie (h : rightP false ws = true) : nuO (trieP ws) (nodesL ws) = some ws := by
 unfold nuO
 have e : (trieP ws).wrd.length = (nodesL ws).length := by simp [trieP]
 rw [e, nuTo_trie h _ (Nat.le_refl _), Option.bind_some]
 dsimp only
 rw [manyW_all h, Int.toNat_natCast, wdTo_trie h _ (Nat.le_refl _), List.take_length]
theorem readP_trie (h : rightP false ws = true) : readP (trieP ws) = some (nodesL ws, ws) := by
 unfold readP
 rw [spO_trie h, Option.bind_some, nuO_trie h, Option.bind_some, if_pos (by rw [h, eqT_iff.2 rfl]; rfl)]
end
/-- What is read of a trie: just what it is made of. -/
theorem readP_iff {T : TrieT} {sp ws : List (List Int)} : readP T = some (sp, ws) ↔ rightP false ws = true ∧ T = trieP ws ∧ sp = nodesL ws := by
 constructor
 ·
  intro h
  unfold readP at h
  obtain ⟨sp0, h1, h⟩ := Option.bind_eq_some_iff.1 h
  obtain ⟨ws0, h2, h⟩ := Option.bind_eq_some_iff.1 h
  split at h
  ·
   rename_i hc
   rw [Bool.and_eq_true] at hc
   have hc : rightP false ws0 = true ∧ T = trieP ws0 := ⟨hc.1, (eqT_iff.1 hc.2).symm⟩
   injection h with h
   injection h with e1 e2
   subst e1 e2
   refine ⟨hc.1, hc.2, ?_⟩
   rw [hc.2, spO_trie hc.1] at h1
   exact (Option.some.inj h1).symm
  · cases h
 ·
  rintro ⟨h1, rfl, rfl⟩
  exact readP_trie h1

end Go.Proofs.YtglfdclpjmhoiaaGreat

/- Bytes that are told apart (layer 10): plain. -/

namespace Go.Proofs.YtglfdclpjmhoiaaGreat

/-- A small letter. -/
def smallI (c : Int) : Bool := decide (97 ≤ c ∧ c ≤ 122)
/-- Is a byte one of a set's? -/
def inB (fold : Bool) (ws : List (List Int)) (c : Int) : Bool := ws.any fun w => w.any fun x => decide (x = c) || (fold && smallI x && decide (x - 32 = c))
/-- The classes of the first bytes, and how many there are. -/
def clsN (p : Int → Bool) (fold : Bool) : Nat → List Int × Nat
 | 0 => ([], 1)
 | i + 1 => if p i = false then ((clsN p fold i).1 ++ [0], (clsN p fold i).2)
  else if (fold && smallI i) = true then ((clsN p fold i).1 ++ [((clsN p fold i).1[i - 32]?).getD 0], (clsN p fold i).2)
  else ((clsN p fold i).1 ++ [((clsN p fold i).2 : Int)], (clsN p fold i).2 + 1)
theorem clsN_succ (p : Int → Bool) (fold : Bool) (i : Nat) : clsN p fold (i + 1) = if p i = false then ((clsN p fold i).1 ++ [0], (clsN p fold i).2)
  else if (fold && smallI i) = true then ((clsN p fold i).1 ++ [((clsN p fold i).1[i - 32]?).getD 0], (clsN p fold i).2)
  else ((clsN p fold i).1 ++ [((clsN p fold i).2 : Int)], (clsN p fold i).2 + 1) := rfl
theorem clsN_len (p : Int → Bool) (fold : Bool) : ∀ i, (clsN p fold i).1.length = i
 | 0 => rfl
 | i + 1 => by
  have ih := clsN_len p fold i
  unfold clsN
  split
  · simp [ih]
  · split <;> simp [ih]
theorem clsN_many (p : Int → Bool) (fold : Bool) : ∀ i, 1 ≤ (clsN p fold i).2 ∧ (clsN p fold i).2 ≤ i + 1
 | 0 => ⟨Nat.le_refl _, Nat.le_refl _⟩
 | i + 1 => by
  have ih := clsN_many p fold i
  unfold clsN
  split
  · exact ⟨ih.1, by show (clsN p fold i).2 ≤ _; omega⟩
  ·
   split
   · exact ⟨ih.1, by show (clsN p fold i).2 ≤ _; omega⟩
   · exact ⟨by show 1 ≤ (clsN p fold i).2 + 1; omega, by show (clsN p fold i).2 + 1 ≤ _; omega⟩
theorem clsN_old (p : Int → Bool) (fold : Bool) {j : Nat} : ∀ {i}, j < i → (clsN p fold i).1[j]? = (clsN p fold (j + 1)).1[j]?
 | 0, h => absurd h (Nat.not_lt_zero _)
 | i + 1, h => by
  by_cases hj : j = i
  · subst hj; rfl
  ·
   have ih := clsN_old p fold (j := j) (i := i) (by omega)
   rw [← ih]
   have hl := clsN_len p fold i
   conv => lhs; unfold clsN
   split
   · exact List.getElem?_append_left (by omega)
   ·
    split
    · exact List.getElem?_append_left (by omega)
    · exact List.getElem?_append_left (by omega)
def clsP (fold : Bool) (ws : List (List Int)) : List Int := (clsN (inB fold ws) fold 256).1
def manyP (fold : Bool) (ws : List (List Int)) : Nat := (clsN (inB fold ws) fold 256).2
theorem clsP_len (fold : Bool) (ws : List (List Int)) : (clsP fold ws).length = 256 := clsN_len _ _ _
/-- The class of a byte. -/
theorem cls_at (p : Int → Bool) (fold : Bool) {j i : Nat} (h : j < i) : (clsN p fold i).1[j]? = some (if p j = false then 0 else if (fold && smallI j) = true then ((clsN p fold j).1[j - 32]?).getD 0 else ((clsN p fold j).2 : Int)) := by
 rw [clsN_old p fold h, clsN_succ]
 have hl := clsN_len p fold j
 split
 · rw [List.getElem?_append_right (by omega), hl, Nat.sub_self]; rfl
 ·
  split
  · rw [List.getElem?_append_right (by omega), hl, Nat.sub_self]; rfl
  · rw [List.getElem?_append_right (by omega), hl, Nat.sub_self]; rfl
end Go.Proofs.YtglfdclpjmhoiaaGreat

/- The sort of texts by a function, laid at this program: numbers, and the bodies held against those of the library. -/

namespace Go.Proofs.YtglfdclpjmhoiaaGreat
open Go.Shelf
def sortStr_ren : Go.Shelf.Ren := ⟨fun | 6 => 59 | 15 => 83 | 14 => 82 | 28 => 103 | 29 => 104 | 20 => 95 | 21 => 96 | 22 => 97 | 23 => 98 | 24 => 99 | 25 => 100 | 26 => 101 | 27 => 102 | 46 => 120 | 47 => 121 | 48 => 122 | 49 => 123 | 50 => 124 | 57 => 130 | n => n, fun | 22 => 80 | 24 => 9 | 25 => 113 | 3 => 3 | 39 => 131 | 0 => 0 | 53 => 160 | 55 => 162 | 4 => 4 | 46 => 154 | 45 => 153 | 50 => 42 | 5 => 5 | 9 => 9 | 66 => 172 | 70 => 176 | 76 => 189 | 77 => 40 | n => n, fun | n => n⟩
theorem sortStr : Go.Proofs.SlLaysF.n6 Tryz.prog sortStr_ren := {
 mixed := by kernel_rfl
 f6 := ⟨Tryz.f59.name, by decide, Tryz.func59.trans (congrArg some (by kernel_rfl))⟩
 f14 := ⟨Tryz.f82.name, by decide, Tryz.func82.trans (congrArg some (by kernel_rfl))⟩
 f15 := Tryz.func83.trans (congrArg some (by kernel_rfl))
 f20 := ⟨Tryz.f95.name, by decide, Tryz.func95.trans (congrArg some (by kernel_rfl))⟩
 f21 := ⟨Tryz.f96.name, by decide, Tryz.func96.trans (congrArg some (by kernel_rfl))⟩
 f22 := ⟨Tryz.f97.name, by decide, Tryz.func97.trans (congrArg some (by kernel_rfl))⟩
 f23 := ⟨Tryz.f98.name, by decide, Tryz.func98.trans (congrArg some (by kernel_rfl))⟩
 f24 := ⟨Tryz.f99.name, by decide, Tryz.func99.trans (congrArg some (by kernel_rfl))⟩
 f25 := ⟨Tryz.f100.name, by decide, Tryz.func100.trans (congrArg some (by kernel_rfl))⟩
 f26 := ⟨Tryz.f101.name, by decide, Tryz.func101.trans (congrArg some (by kernel_rfl))⟩
 f27 := ⟨Tryz.f102.name, by decide, Tryz.func102.trans (congrArg some (by kernel_rfl))⟩
 f28 := Tryz.func103.trans (congrArg some (by kernel_rfl))
 f29 := Tryz.func104.trans (congrArg some (by kernel_rfl))
 f46 := ⟨Tryz.f120.name, by decide, Tryz.func120.trans (congrArg some (by kernel_rfl))⟩
 f47 := Tryz.func121.trans (congrArg some (by kernel_rfl))
 f48 := Tryz.func122.trans (congrArg some (by kernel_rfl))
 f49 := ⟨Tryz.f123.name, by decide, Tryz.func123.trans (congrArg some (by kernel_rfl))⟩
 f50 := ⟨Tryz.f124.name, by decide, Tryz.func124.trans (congrArg some (by kernel_rfl))⟩
 f57 := ⟨Tryz.f130.name, by decide, Tryz.func130.trans (congrArg some (by kernel_rfl))⟩
 t0 := Tryz.underlying0
 a0 := Tryz.isAgg0
 z0 := Tryz.sizeOf0
 v0 := Tryz.zeroValue0
 t3 := Tryz.underlying3
 a3 := Tryz.isAgg3
 z3 := Tryz.sizeOf3
 v3 := Tryz.zeroValue3
 t4 := Tryz.underlying4
 a4 := Tryz.isAgg4
 z4 := Tryz.sizeOf4
 v4 := Tryz.zeroValue4
 t5 := Tryz.underlying5
 a5 := Tryz.isAgg5
 z5 := Tryz.sizeOf5
 v5 := Tryz.zeroValue5
 t9 := Tryz.underlying9
 a9 := Tryz.isAgg9
 z9 := Tryz.sizeOf9
 v9 := Tryz.zeroValue9
 t22 := Tryz.underlying80
 a22 := Tryz.isAgg80
 z22 := Tryz.sizeOf80
 v22 := Tryz.zeroValue80
 a24 := Tryz.isAgg9
 z24 := Tryz.sizeOf9
 t25 := Tryz.underlying113
 a25 := Tryz.isAgg113
 z25 := Tryz.sizeOf113
 v25 := Tryz.zeroValue113
 t39 := Tryz.underlying131
 a39 := Tryz.isAgg131
 z39 := Tryz.sizeOf131
 v39 := Tryz.zeroValue131
 t45 := Tryz.underlying153
 a45 := Tryz.isAgg153
 z45 := Tryz.sizeOf153
 v45 := Tryz.zeroValue153
 t46 := Tryz.underlying154
 a46 := Tryz.isAgg154
 z46 := Tryz.sizeOf154
 v46 := Tryz.zeroValue154
 t50 := Tryz.underlying42
 a50 := Tryz.isAgg42
 z50 := Tryz.sizeOf42
 v50 := Tryz.zeroValue42
 t53 := Tryz.underlying160
 a53 := Tryz.isAgg160
 z53 := Tryz.sizeOf160
 v53 := Tryz.zeroValue160
 t55 := Tryz.underlying162
 a55 := Tryz.isAgg162
 z55 := Tryz.sizeOf162
 v55 := Tryz.zeroValue162
 t66 := Tryz.underlying172
 a66 := Tryz.isAgg172
 z66 := Tryz.sizeOf172
 v66 := Tryz.zeroValue172
 t70 := Tryz.underlying176
 a70 := Tryz.isAgg176
 z70 := Tryz.sizeOf176
 v70 := Tryz.zeroValue176
 t76 := Tryz.underlying189
 a76 := Tryz.isAgg189
 z76 := Tryz.sizeOf189
 v76 := Tryz.zeroValue189
 t77 := Tryz.underlying40
 a77 := Tryz.isAgg40
 z77 := Tryz.sizeOf40
 v77 := Tryz.zeroValue40 }
end Go.Proofs.YtglfdclpjmhoiaaGreat

/- Texts compared by length, then by their bytes (layer 7): walked; the sort's order. -/

namespace Go.Proofs.YtglfdclpjmhoiaaGreat
open Go.RowKit Go.Sort Go.Shelf

def cmpStr_ren : Go.Shelf.Ren := ⟨fun | 106 => 63 | 213 => 85 | 265 => 105 | n => n, fun | 3 => 3 | 9 => 9 | n => n, fun | n => n⟩
theorem cmpStr : Go.Proofs.Lays.n106 Tryz.prog cmpStr_ren := {
 mixed := by kernel_rfl
 f106 := Tryz.func63.trans (congrArg some (by kernel_rfl))
 f213 := Tryz.func85.trans (congrArg some (by kernel_rfl))
 f265 := Tryz.func105.trans (congrArg some (by kernel_rfl))
 t3 := Tryz.underlying3
 a3 := Tryz.isAgg3
 z3 := Tryz.sizeOf3
 v3 := Tryz.zeroValue3
 t9 := Tryz.underlying9
 a9 := Tryz.isAgg9
 z9 := Tryz.sizeOf9
 v9 := Tryz.zeroValue9 }
theorem scmp_any (a b : ByteArray) (w : World) : Calls Tryz.prog 63 #[.string a, .string b] w fun e w' => e = .returned (.int .i64 (Lib.compareBytes a.data.toList b.data.toList)) ∧ w = w' :=
 (Any.strings_Compare (P := Tryz.prog) (ρ := cmpStr_ren) cmpStr a b w).mono fun e w' ⟨h1, h2⟩ => ⟨h1, h2.symm⟩

abbrev Byt := List UInt8
def strB (l : Byt) : ByteArray := ⟨l.toArray⟩
abbrev strV (l : Byt) : Value := .string (strB l)
def toI (l : Byt) : List Int := l.map fun b => (b.toNat : Int)
theorem toI_length (l : Byt) : (toI l).length = l.length := by simp [toI]
theorem toI_inj : ∀ {x y : Byt}, toI x = toI y → x = y
 | [], [], _ => rfl
 | [], _ :: _, h => by simp [toI] at h
 | _ :: _, [], h => by simp [toI] at h
 | a :: x, b :: y, h => by
  simp only [toI, List.map_cons, List.cons.injEq] at h
  have h1 : a = b := UInt8.toNat_inj.1 (by omega)
  rw [h1, toI_inj h.2]
def cfS (a b : Byt) : Int := orL [cmpI a.length b.length, Lib.compareBytes a b]
theorem compare_lex : ∀ {x y : Byt}, x.length = y.length → (decide (Lib.compareBytes x y < 0) = lexB (toI x) (toI y))
 | [], [], _ => rfl
 | [], _ :: _, h => by simp at h
 | _ :: _, [], h => by simp at h
 | a :: x, b :: y, h => by
  have ih := compare_lex (x := x) (y := y) (by simpa using h)
  have e1 : (a < b) = ((a.toNat : Int) < b.toNat) := by rw [UInt8.lt_iff_toNat_lt]; exact propext (by omega)
  have e2 : (b < a) = ((b.toNat : Int) < a.toNat) := by rw [UInt8.lt_iff_toNat_lt]; exact propext (by omega)
  have h1 : toI (a :: x) = (a.toNat : Int) :: toI x := rfl
  have h2 : toI (b :: y) = (b.toNat : Int) :: toI y := rfl
  rw [h1, h2]
  unfold Lib.compareBytes lexB
  simp only [e1, e2]
  by_cases g1 : (a.toNat : Int) < b.toNat
  · simp [g1]
  ·
   by_cases g2 : (b.toNat : Int) < a.toNat
   · simp [g1, g2]
   ·
    rw [if_neg g1, if_neg g2, if_neg g1, if_neg g2]
    exact ih
theorem ltOf_cfS (x y : Byt) : ltOf cfS x y = ltS (toI x) (toI y) := by
 unfold ltOf cfS ltS
 rw [toI_length, toI_length]
 by_cases h1 : x.length < y.length
 ·
  rw [if_pos h1]
  have : cmpI (x.length : Int) (y.length : Int) = -1 := by unfold cmpI; rw [if_pos (by omega)]
  simp [orL, this]
 ·
  rw [if_neg h1]
  by_cases h2 : y.length < x.length
  ·
   rw [if_pos h2]
   have : cmpI (x.length : Int) (y.length : Int) = 1 := by unfold cmpI; rw [if_neg (by omega), if_pos (by omega)]
   simp [orL, this]
  ·
   rw [if_neg h2, ← compare_lex (by omega)]
   have : cmpI (x.length : Int) (y.length : Int) = 0 := by unfold cmpI; rw [if_neg (by omega), if_neg (by omega)]
   rw [this]
   by_cases e : Lib.compareBytes x y = 0
   · simp [orL, e]
   · simp [orL, e]
theorem cfS_swo : SWO (ltOf cfS) where
 irrefl x := by rw [ltOf_cfS, ltS_irrefl]
 trans x y z h1 h2 := by rw [ltOf_cfS] at h1 h2 ⊢; exact ltS_trans h1 h2
 ntrans x y z h1 h2 := by
  rw [ltOf_cfS] at h1 h2 ⊢
  cases e : ltS (toI x) (toI z) with
  | false => rfl
  | true =>
   exfalso
   cases e1 : ltS (toI y) (toI x) with
   | true => rw [ltS_trans e1 e] at h2; cases h2
   | false => rw [ltS_total h1 e1] at e; rw [e] at h2; cases h2
theorem cfS_total (x y : Byt) (h1 : ltOf cfS x y = false) (h2 : ltOf cfS y x = false) : x = y := by
 rw [ltOf_cfS] at h1 h2
 exact toI_inj (ltS_total h1 h2)

theorem begCmp_any (a b : Byt) (w : World) :
  Calls Tryz.prog 60 #[strV a, strV b] w fun e w' => e = .returned (.int .i64 (cfS a b)) ∧ ∃ q os, w' = grow (w.drewN q) os := by
 have HE : Hid (cfS a b = orL [cmpI a.length b.length, Lib.compareBytes a b]) := rfl
 have hsz1 : (strB a).size = a.length := by simp [strB, ByteArray.size]
 have hsz2 : (strB b).size = b.length := by simp [strB, ByteArray.size]
 have hc := scmp_any (strB a) (strB b)
 have e1 : (strB a).data.toList = a := by simp [strB]
 have e2 : (strB b).data.toList = b := by simp [strB]
 rw [e1, e2] at hc
 obtain ⟨sa, hsa⟩ : ∃ s, strB a = s := ⟨_, rfl⟩
 obtain ⟨sb, hsb⟩ : ∃ s, strB b = s := ⟨_, rfl⟩
 unfold strV
 rw [hsa] at hsz1 hc ⊢
 rw [hsb] at hsz2 hc ⊢
 have HC := Lib.hid hc
 have H1 := Lib.hid hsz1
 have H2 := Lib.hid hsz2
 clear hc hsz1 hsz2 e1 e2 hsa hsb
 go_enter Tryz.func60, Tryz.ntmps60
 go_wp2_with fail
 refine (compare_any _ _ _).mono ?_
 rintro e w1 ⟨rfl, rfl⟩
 go_wp2_with fail
 refine (HC.out _).mono ?_
 rintro e w1 ⟨rfl, rfl⟩
 go_wp2_with fail
 rw [H1.out, H2.out]
 refine (or_any _ _ _ [cmpI a.length b.length, Lib.compareBytes a b] _ (Sl1.lay _ _ [cmpI a.length b.length, Lib.compareBytes a b] _ _ (by simp)) (by simp)).mono ?_
 rintro e w3 ⟨rfl, rfl⟩
 go_wp2
 go_ret
 exact ⟨by rw [HE.out]; rfl, 0, #[_], rfl⟩

end Go.Proofs.YtglfdclpjmhoiaaGreat

/- Maps of texts to numbers that a call makes (layer 7): how they are asked and written. -/

namespace Go.Proofs.YtglfdclpjmhoiaaGreat
open Go.RowKit Go.Sort Go.Maps Go.WideAt Go.WideMaps

def ofI (xs : List Int) : Byt := xs.map fun n => UInt8.ofNat n.toNat
theorem strOf_eq (xs : List Int) : strOfNums xs = strB (ofI xs) := rfl
theorem toI_ofI {xs : List Int} (h : ∀ x ∈ xs, 0 ≤ x ∧ x ≤ 255) : toI (ofI xs) = xs := by
 unfold toI ofI
 rw [List.map_map]
 conv => rhs; rw [← List.map_id xs]
 apply List.map_congr_left
 intro x hx
 have := h x hx
 simp only [Function.comp, id, UInt8.toNat_ofNat']
 omega
theorem ofI_toI (l : Byt) : ofI (toI l) = l := toI_inj (toI_ofI fun x hx => by
 unfold toI at hx
 obtain ⟨b, _, rfl⟩ := List.mem_map.1 hx
 have := b.toNat_lt
 omega)
theorem strB_size (l : Byt) : (strB l).size = l.length := by simp [strB, ByteArray.size]

theorem str_law : Keyed Tryz.prog 9 := Keyed.of_law (string_law Tryz.underlying9)
theorem str_key (l : Byt) (h : l.length ≤ maxLen) : keyOf Tryz.prog 9 (strV l) = some (.string l) := by
 have := keyOf_string_mk (P := Tryz.prog) Tryz.underlying9 (s := strB l) (by rw [strB_size]; exact h)
 have e : (strB l).data.toList = l := by simp [strB]
 rw [e] at this
 exact this
theorem zero_int7 (w : World) : (zeroValue 3).run Tryz.prog w = .ok (.int .i64 0) w := by kernel_rfl

/-- A map of the call's own, of texts to numbers: what it says of each. -/
def MS (W : World) (b n : Nat) (f : Byt → Option Int) : Prop :=
 ∃ D : DataW Unit, W.ownsMap Tryz.prog 9 (plainElem Tryz.prog 3) b n D ∧ IsMap D ∧ ∀ l : Byt, Maps.has D (.string l) = (f l).isSome ∧ ∀ m, f l = some m → D.atKey (.string l) (.lit (.int .i64 0)) = .lit (.int .i64 m)
theorem MS.start {b : Nat} (w : World) (hD : w.ownsMap Tryz.prog 9 (plainElem Tryz.prog 3) b 0 (.map [] : DataW Unit)) : MS w b 0 (fun _ => none) :=
 ⟨_, hD, isMap_empty, fun l => ⟨rfl, fun m h => by cases h⟩⟩
theorem MS.kept {W W' : World} {b n : Nat} {f : Byt → Option Int} {row : Option Nat} (h : MS W b n f) (hg : W.grownBy W' row) (hne : row ≠ some b) : MS W' b n f := by
 obtain ⟨D, h1, h2⟩ := h
 exact ⟨D, h1.kept hg (fun e => hne e.symm), h2⟩
theorem MS.alloc {W : World} {b n : Nat} {f : Byt → Option Int} (h : MS W b n f) (o : Obj) : MS (W.alloc o) b n f := by
 obtain ⟨D, h1, h2⟩ := h
 exact ⟨D, h1.alloc o, h2⟩
theorem MS.mono {W : World} {b n m : Nat} {f : Byt → Option Int} (h : MS W b n f) (hm : n ≤ m) : MS W b m f := by
 obtain ⟨D, h1, h2⟩ := h
 exact ⟨D, h1.mono hm, h2⟩

section
variable {w : World} {ops : Array Oper} {rest : List Oper} {o : Oper} {a : Act} {Q : Exit → Act → World → Prop} {b n : Nat} {f : Byt → Option Int}
theorem wpList_ms_ok (hg : o.guard = none) (m x : Operand) (hop : o.op = Op.lookup 77 m x true) (hm : a.eval m = .map (some b)) (hown : MS w b n f) (l : Byt) (hx : a.eval x = strV l) (hl : l.length ≤ maxLen)
  (hK : ∀ c : Int, (∀ q, f l = some q → c = q) → wpList Tryz.prog ops Q rest (a.put o.dst (.tuple #[.int .i64 c, .bool (f l).isSome])) w) : wpList Tryz.prog ops Q (o :: rest) a w := by
 obtain ⟨D, h1, h2, h3⟩ := hown
 refine wpList_lookup_own_ok_int _ hg m x 77 hop 9 3 .i64 str_law Tryz.underlying77 Tryz.underlying3 (zero_int7 _) b n D hm h1 _ _ hx (str_key l hl) ?_
 intro c hat _
 rw [(h3 l).1]
 exact hK c fun q hq => by have := hat.symm.trans ((h3 l).2 q hq); simpa using this
theorem MS.put_ {D : DataW Unit} {v : Int} {l : Byt} (h2 : IsMap D) (h3 : ∀ l : Byt, Maps.has D (.string l) = (f l).isSome ∧ ∀ m, f l = some m → D.atKey (.string l) (.lit (.int .i64 0)) = .lit (.int .i64 m)) (hl : l.length ≤ maxLen) :
  IsMap (D.put (.string l) (.lit (.int .i64 v))) ∧ ∀ k : Byt, Maps.has (D.put (.string l) (.lit (.int .i64 v))) (.string k) = (if k = l then some v else f k).isSome ∧ ∀ m, (if k = l then some v else f k) = some m → (D.put (.string l) (.lit (.int .i64 v))).atKey (.string k) (.lit (.int .i64 0)) = .lit (.int .i64 m) := by
 have hkk := str_law.key (str_key l hl)
 refine ⟨h2.put _ _, fun k => ?_⟩
 by_cases e : k = l
 ·
  subst e
  rw [if_pos rfl]
  refine ⟨by rw [has_put_same h2 hkk]; rfl, fun m hm => ?_⟩
  obtain rfl := Option.some.inj hm
  rw [atKey_put_same h2 hkk]
 ·
  have e' : (Lit.string k) ≠ Lit.string l := fun h => e (by injection h)
  rw [if_neg e]
  exact ⟨by rw [has_put_other e', (h3 k).1], fun m hm => by rw [atKey_put_other e', (h3 k).2 m hm]⟩
theorem wpList_ms_put (hg : o.guard = none) (m x y : Operand) (hop : o.op = Op.mapUpdate 77 m x y) (hm : a.eval m = .map (some b)) (hown : MS w b n f) (hn : n < maxLen) (l : Byt) (v : Int) (hv : (Lit.int .i64 v).wf = true) (hx : a.eval x = strV l) (hy : a.eval y = .int .i64 v) (hl : l.length ≤ maxLen)
  (hK : ∀ w', MS w' b (n + 1) (fun k => if k = l then some v else f k) → w.grownBy w' (some b) → wpList Tryz.prog ops Q rest (a.put o.dst undef) w') : wpList Tryz.prog ops Q (o :: rest) a w := by
 obtain ⟨D, h1, h2, h3⟩ := hown
 obtain ⟨q1, q2⟩ := MS.put_ (f := f) (v := v) h2 h3 hl
 refine wpList_mapUpdate_own _ hg m x y 77 hop 9 3 str_law Tryz.underlying77 _ b n D hm h1 hn _ _ _ hx hy (str_key l hl) _ [] (plainElem_int Tryz.underlying3 hv) ?_
 intro w' hw hgr
 exact hK w' ⟨_, hw, q1, q2⟩ hgr
theorem wpList_ms_ins (hg : o.guard = none) (m x y : Operand) (hop : o.op = Op.insert 77 m x y) (hm : a.eval m = .map (some b)) (hown : MS w b n f) (hn : n < maxLen) (l : Byt) (v : Int) (hv : (Lit.int .i64 v).wf = true) (hx : a.eval x = strV l) (hy : a.eval y = .int .i64 v) (hl : l.length ≤ maxLen)
  (hK : ∀ w', MS w' b (n + 1) (fun k => if k = l then some v else f k) → w.grownBy w' (some b) → wpList Tryz.prog ops Q rest (a.put o.dst undef) w') : wpList Tryz.prog ops Q (o :: rest) a w := by
 obtain ⟨D, h1, h2, h3⟩ := hown
 obtain ⟨q1, q2⟩ := MS.put_ (f := f) (v := v) h2 h3 hl
 refine wpList_plain hg fun K' hK' => ?_
 obtain ⟨w', hrun, r1, r2⟩ := h1.update str_law Tryz.underlying77 hn (str_key l hl) (plainElem_int Tryz.underlying3 hv)
 unfold Oper.wp
 simp [execOp, hop, hm, hx, hy, hrun, Result.andThen]
 exact hK' _ _ (hK w' ⟨_, r1, q1, q2⟩ r2)
end

end Go.Proofs.YtglfdclpjmhoiaaGreat

/- The beginnings of words, sorted (layer 7): walked. -/

namespace Go.Proofs.YtglfdclpjmhoiaaGreat
open Go.RowKit Go.Sort

/-! ### plain -/
def accB (l : List Byt) (b : Byt) : List Byt := if b ∈ l then l else l ++ [b]
def begWd (l : List Byt) (x : Byt) (k : Nat) : List Byt := (List.range k).foldl (fun l j => accB l (x.take (j + 1))) l
def begAll (ws : List Byt) : List Byt := ws.foldl (fun l x => begWd l x x.length) [[]]
theorem begWd_succ (l : List Byt) (x : Byt) (k : Nat) : begWd l x (k + 1) = accB (begWd l x k) (x.take (k + 1)) := by simp [begWd, List.range_succ, List.foldl_append]
theorem begAll_snoc (ws : List Byt) (x : Byt) : begAll (ws ++ [x]) = begWd (begAll ws) x x.length := by simp [begAll, List.foldl_append]
theorem mem_accB {l : List Byt} {b x : Byt} : x ∈ accB l b ↔ x ∈ l ∨ x = b := by
 unfold accB
 split
 ·
  constructor
  · exact .inl
  · rintro (h | rfl) <;> assumption
 · simp
theorem accB_nodup {l : List Byt} {b : Byt} (h : l.Nodup) : (accB l b).Nodup := by
 unfold accB
 split
 · exact h
 ·
  rename_i hb
  rw [List.nodup_append]
  refine ⟨h, by simp, fun a ha c hc e => ?_⟩
  simp at hc
  subst hc
  subst e
  exact hb ha
theorem accB_len (l : List Byt) (b : Byt) : l.length ≤ (accB l b).length ∧ (accB l b).length ≤ l.length + 1 := by
 unfold accB
 split <;> simp
theorem begWd_len (l : List Byt) (x : Byt) : ∀ k, l.length ≤ (begWd l x k).length ∧ (begWd l x k).length ≤ l.length + k
 | 0 => by simp [begWd]
 | k + 1 => by
  have h1 := begWd_len l x k
  have h2 := accB_len (begWd l x k) (x.take (k + 1))
  rw [begWd_succ]; omega
theorem begWd_spec {l : List Byt} (x : Byt) (h : l.Nodup) : ∀ k, (begWd l x k).Nodup ∧ ∀ y, y ∈ begWd l x k ↔ y ∈ l ∨ ∃ j, 1 ≤ j ∧ j ≤ k ∧ y = x.take j
 | 0 => by
  refine ⟨by simpa [begWd] using h, fun y => ?_⟩
  constructor
  · intro hy; exact .inl (by simpa [begWd] using hy)
  ·
   rintro (hy | ⟨j, h1, h2, _⟩)
   · simpa [begWd] using hy
   · omega
 | k + 1 => by
  obtain ⟨h1, h2⟩ := begWd_spec x h k
  rw [begWd_succ]
  refine ⟨accB_nodup h1, fun y => ?_⟩
  rw [mem_accB, h2]
  constructor
  ·
   rintro ((hy | ⟨j, a1, a2, a3⟩) | hy)
   · exact .inl hy
   · exact .inr ⟨j, a1, by omega, a3⟩
   · exact .inr ⟨k + 1, by omega, by omega, hy⟩
  ·
   rintro (hy | ⟨j, a1, a2, a3⟩)
   · exact .inl (.inl hy)
   ·
    by_cases e : j = k + 1
    · subst e; exact .inr a3
    · exact .inl (.inr ⟨j, a1, by omega, a3⟩)
theorem begAll_spec (ws : List Byt) : (begAll ws).Nodup ∧ ∀ y, y ∈ begAll ws ↔ y = [] ∨ ∃ x ∈ ws, ∃ k, 1 ≤ k ∧ k ≤ x.length ∧ y = x.take k := by
 refine snoc_ind (P := fun ws => (begAll ws).Nodup ∧ ∀ y, y ∈ begAll ws ↔ y = [] ∨ ∃ x ∈ ws, ∃ k, 1 ≤ k ∧ k ≤ x.length ∧ y = x.take k) (by simp [begAll]) (fun ws x ⟨h1, h2⟩ => ?_) ws
 rw [begAll_snoc]
 obtain ⟨g1, g2⟩ := begWd_spec x h1 x.length
 refine ⟨g1, fun y => ?_⟩
 rw [g2, h2]
 constructor
 ·
  rintro ((h | ⟨z, hz, r⟩) | ⟨j, a1, a2, a3⟩)
  · exact .inl h
  · exact .inr ⟨z, by simp [hz], r⟩
  · exact .inr ⟨x, by simp, j, a1, a2, a3⟩
 ·
  rintro (h | ⟨z, hz, k, a1, a2, a3⟩)
  · exact .inl (.inl h)
  ·
   rcases List.mem_append.1 hz with hz | hz
   · exact .inl (.inr ⟨z, hz, k, a1, a2, a3⟩)
   · simp at hz; subst hz; exact .inr ⟨k, a1, a2, a3⟩
def byteSum (ws : List Byt) : Nat := (ws.map List.length).sum
theorem begAll_len (ws : List Byt) : (begAll ws).length ≤ 1 + byteSum ws := by
 refine snoc_ind (P := fun ws => (begAll ws).length ≤ 1 + byteSum ws) (by simp [begAll, byteSum]) (fun ws x h => ?_) ws
 rw [begAll_snoc]
 have := (begWd_len (begAll ws) x x.length).2
 have e : byteSum (ws ++ [x]) = byteSum ws + x.length := by simp [byteSum]
 omega
theorem toI_take (x : Byt) (k : Nat) : toI (x.take k) = (toI x).take k := by simp [toI, List.map_take]
/-- Sorted, they are the nodes. -/
theorem sorted_nodes {wss : List (List Int)} (hb : ∀ w ∈ wss, ∀ x ∈ w, 0 ≤ x ∧ x ≤ 255) {l : List Byt} (h1 : l.Perm (begAll (wss.map ofI))) (h2 : SrtS (l.map toI)) : l.map toI = nodesL wss := by
 refine nodesL_unique h2 fun x => ?_
 rw [List.mem_map]
 constructor
 ·
  rintro ⟨y, hy, rfl⟩
  rw [h1.mem_iff, (begAll_spec _).2] at hy
  rcases hy with rfl | ⟨z, hz, k, a1, a2, rfl⟩
  · exact .inl rfl
  ·
   obtain ⟨w, hw, rfl⟩ := List.mem_map.1 hz
   refine .inr ⟨w, hw, k, a1, by simpa [ofI] using a2, ?_⟩
   rw [toI_take, toI_ofI (hb w hw)]
 ·
  rintro (rfl | ⟨w, hw, k, a1, a2, rfl⟩)
  · exact ⟨[], by rw [h1.mem_iff, (begAll_spec _).2]; exact .inl rfl, rfl⟩
  ·
   refine ⟨(ofI w).take k, ?_, by rw [toI_take, toI_ofI (hb w hw)]⟩
   rw [h1.mem_iff, (begAll_spec _).2]
   exact .inr ⟨ofI w, List.mem_map.2 ⟨w, hw, rfl⟩, k, a1, by simpa [ofI] using a2, rfl⟩

end Go.Proofs.YtglfdclpjmhoiaaGreat

/- Texts sorted; the beginnings of words (layer 7): walked. -/

namespace Go.Proofs.YtglfdclpjmhoiaaGreat
open Go.RowKit Go.Sort Go.Shelf

theorem below_sortWorld {α : Type} [Inhabited α] (enc : α → Value) {B : Nat} {w0 W : World} (h : Below B w0 W) (g off n : Nat) (d : Array α) (os : Array Obj) (hg : B ≤ g) (hBW : B ≤ W.heap.size) : Below B w0 (sortWorld enc W g off n d os) := by
 have hsz : (sortWorld enc W g off n d os).heap.size = W.heap.size + os.size := by simp [sortWorld, putRow, mapBlock, Go.Sort.grow, Go.Sort.ahead]
 refine ⟨h.os, h.tape, h.output, by rw [hsz]; have := h.size; omega, fun k hk => ?_⟩
 have hk2 : k < W.heap.size := by omega
 refine Eq.trans ?_ (h.block k hk)
 show ((W.heap.modify g _) ++ os)[k]? = _
 rw [Array.getElem?_append_left (by simpa using hk2), Array.getElem?_modify, if_neg (by omega)]

theorem sortStr_any (g cap : Nat) (l : List Byt) (w : World) (hg : g < w.heap.size) (hc : ∀ i x, l[i]? = some x → w.cell? ⟨g, i, none⟩ = some (strV x) ∧ w.frozen? ⟨g, i, none⟩ = false) (hl : l.length < 4611686018427387904) :
  Calls Tryz.prog 59 #[.slice (some ⟨g, 0, none⟩) l.length cap, .func (.func 60) #[] #[]] w fun e w' => e = .returned (.tuple #[]) ∧
   ∃ l' : List Byt, l'.Perm l ∧ l'.Pairwise (fun a b => ltS (toI b) (toI a) = false) ∧ Sl1 strV w' (some ⟨g, 0, none⟩) l.length l' ∧ ∀ B w0, Below B w0 w → B ≤ g → B ≤ w.heap.size → Below B w0 w' := by
 have hH : Holds strV w g 0 l.toArray := fun j hj => by
  have hj' : j < l.length := by simpa using hj
  obtain ⟨h1, h2⟩ := hc j l[j] (by simp)
  rw [Nat.zero_add]
  refine ⟨?_, h2⟩
  rw [h1, getElem!_pos l.toArray j hj]
  simp
 have h := Any.slices_SortFunc_total (P := Tryz.prog) (ρ := sortStr_ren) sortStr strV (fun _ => rfl) cfS cfS_swo 60 #[] g 0 cap l.toArray w (enters_of Tryz.func60 (by kernel_rfl) rfl)
  (fun m os dk hs x y => by
   have := begCmp_any x y (sortWorld strV w g 0 m dk os)
   exact this)
  hH hg (by simpa using hl) cfS_total
 have hsz : l.toArray.size = l.length := by simp
 rw [hsz] at h
 refine Calls.mono h ?_
 rintro e w' ⟨he, n, os, rfl⟩
 have hperm : (l.mergeSort fun x y => !(ltOf cfS) y x).Perm l := List.mergeSort_perm l _
 have hsorted : (l.mergeSort fun x y => !(ltOf cfS) y x).Pairwise (fun x y => (!(ltOf cfS) y x) = true) := by
  refine List.pairwise_mergeSort (le := fun x y => !(ltOf cfS) y x) (fun a b c h1 h2 => ?_) (fun a b => ?_) l
  ·
   simp only [Bool.not_eq_true', Bool.not_eq_eq_eq_not, Bool.not_true] at h1 h2 ⊢
   exact cfS_swo.ntrans _ _ _ h2 h1
  ·
   cases e1 : ltOf cfS b a with
   | false => simp
   | true =>
    cases e2 : ltOf cfS a b with
    | false => simp
    | true => exact absurd (cfS_swo.trans _ _ _ e1 e2) (by rw [cfS_swo.irrefl]; simp)
 refine ⟨he, _, hperm, hsorted.imp fun {a b} h => ?_, ⟨hperm.length_eq, .inr ⟨g, 0, rfl, lt_sortWorld _ _ _ _ _ _ _ hg, fun i x hx => ?_⟩⟩, fun B w0 hb h1 h2 => below_sortWorld _ hb _ _ _ _ _ h1 h2⟩
 ·
  rw [← ltOf_cfS]
  simpa using h
 ·
  have hH2 := holds_sortWorld strV w g 0 n l.toArray (l.mergeSort fun x y => !(ltOf cfS) y x).toArray os hg hH (by simp [hperm.length_eq])
  have hi := (List.getElem?_eq_some_iff.1 hx)
  have := (hH2 i (by simpa using hi.1)).1
  rw [getElem!_pos _ i (by simpa using hi.1)] at this
  simp only [List.getElem_toArray] at this
  rw [hi.2] at this
  rwa [Nat.zero_add] at this ⊢

end Go.Proofs.YtglfdclpjmhoiaaGreat

/- The beginnings of words (layer 7): walked. -/

namespace Go.Proofs.YtglfdclpjmhoiaaGreat
open Go.RowKit Go.Sort

theorem str_info : (Tryz.prog.info? 9).map (fun i => (i.zero, i.size, i.bytes)) = some (some (.string ⟨#[]⟩), 1, 16) := by kernel_rfl
abbrev OwnT (w : World) (base : Nat) (v : Value) (l : List Byt) : Prop := w.ownsRow base 9 1 v l.length (l.map strV)
theorem wf_i {n : Nat} (h : n ≤ 1000000000) : (Lit.int .i64 (n : Int)).wf = true := by
 simp [Lit.wf, IntKind.min, IntKind.max, IntKind.signed, IntKind.bits]; omega
theorem begs_step {lst : List Byt} {f : Byt → Option Int} (hf : ∀ x, (f x).isSome = decide (x ∈ lst)) {b : Byt} {v : Int} : ∀ x, (if x = b then some v else f x).isSome = decide (x ∈ lst ++ [b]) := fun x => by
 by_cases e : x = b
 · rw [if_pos e]; simp [e]
 · rw [if_neg e, hf x]; simp [e]

theorem byteSum_take (wss : List (List Int)) (k : Nat) : byteSum ((wss.take k).map ofI) ≤ byteSum (wss.map ofI) := by
 have e : byteSum (wss.map ofI) = byteSum ((wss.take k).map ofI) + byteSum ((wss.drop k).map ofI) := by
  unfold byteSum
  rw [← List.sum_append, ← List.map_append, ← List.map_append, List.take_append_drop]
 omega
theorem ne_own {w : World} {n : Nat} {e : TypeId} {size k : Nat} {v : Value} {xs : List Value} (h : w.ownsRow (n + 1) e size v k xs) : v.ownBlock = none ∨ v.ownBlock ≠ some n := by
 rcases h.2 with ⟨rfl, _⟩ | ⟨g, cap, cur, rfl, hg, _⟩
 · exact .inl rfl
 · exact .inr (by simp [Value.ownBlock]; omega)
theorem Wds.bytes {w : World} {a : Option Addr} {la : Nat} {wss : List (List Int)} (h : Wds w a la wss) : ∀ x ∈ wss, ∀ c ∈ x, 0 ≤ c ∧ c ≤ 255 := fun x hx c hc => by
 obtain ⟨i, hi⟩ := List.getElem?_of_mem hx
 have hl := (List.getElem?_eq_some_iff.1 hi).1
 rw [h.len] at hl
 obtain ⟨_, _, _, _, _, x', _, _, _, hx', hX, _⟩ := h.at_ hl
 rw [hi] at hx'
 rw [Option.some.inj hx'] at hc
 exact hX.2 c hc
/-- What lies there while the beginnings are gathered. -/
structure GB (w : World) (s4 : Value) (lst : List Byt) (W : World) : Prop where
 bel : Below w.heap.size w W
 row : OwnT W (w.heap.size + 1) s4 lst
 map : ∃ f, MS W w.heap.size lst.length f ∧ ∀ x, (f x).isSome = decide (x ∈ lst)
 sz : w.heap.size + 1 < W.heap.size

set_option maxRecDepth 100000 in
set_option maxHeartbeats 4000000 in
theorem begs_any (a : Option Addr) (la ca : Nat) (wss : List (List Int)) (w : World) (hA : Wds w a la wss) (hla : la ≤ 1000000) (hM : ∀ x ∈ wss, x.length ≤ 1000000) (hS : byteSum (wss.map ofI) ≤ 1000000) :
  Calls Tryz.prog 43 #[.slice a la ca] w fun e w' => ∃ (a' : Option Addr) (n c : Nat) (l : List Byt), e = .returned (.slice a' n c) ∧ n = l.length ∧ l.map toI = nodesL wss ∧ Sl1 strV w' a' n l ∧ Below w.heap.size w w' := by
 obtain ⟨i0, hi, hz0, hz1, hz2⟩ := info_parts str_info
 have HL := Lib.hid hA.len
 have HBY := Lib.hid hA
 have hmm := @run_makeMap Tryz.prog
 have m0 : (w.alloc (Obj.map #[] 0)).ownsMap Tryz.prog 9 (plainElem Tryz.prog 3) w.heap.size 0 (.map [] : DataW Unit) := World.ownsMap_made w Tryz.prog 9 (plainElem Tryz.prog 3)
 go_enter Tryz.func43, Tryz.ntmps43
 go_upto_region 2 with (refine wpList_ms_ins rfl _ _ _ rfl rfl (MS.start (b := w.heap.size) _ m0) (by unfold maxLen; omega) [] 0 rfl rfl rfl (by simp) ?_; intro w1 hm1 hg1)
 have hs1 : w.heap.size + 1 ≤ w1.heap.size := by have := hg1.size; simp at this; omega
 have hB1 : Below w.heap.size w w1 := (below_alloc w (Obj.map #[] 0)).grown hg1 (by simp) (fun k e => by cases e; exact Nat.le_refl _)
 have hG0 : GB w (.slice (some ⟨w1.heap.size, 0, none⟩) 1 1) [[]] (w1.alloc (.cells #[strV []] 9)) :=
  ⟨hB1.alloc (by omega) _, ⟨rfl, .inr ⟨w1.heap.size, 1, #[strV []], rfl, hs1, World.alloc_heap_new _ _, Nat.le_refl _, by unfold maxLen; omega, rfl, rfl⟩⟩, ⟨_, hm1.alloc _, fun x => by by_cases e : x = [] <;> simp [e]⟩, by simp; omega⟩
 have HG0 := Lib.hid hG0
 clear hm1 hg1 hB1 hG0 m0
 go_wp2
 go_loopw [4, 16] (fun s4 s16 wr => ∃ (k : Nat) (lst : List Byt) (v : Value), v = s4 ∧ k ≤ la ∧ s16 = .int .i64 k ∧ Hid (lst = begAll ((wss.take k).map ofI)) ∧ GB w v lst wr) (fun _ i _ => la - (intOf i).toNat)
 case atStart => exact ⟨0, [[]], _, rfl, Nat.zero_le _, rfl, rfl, HG0.out⟩
 case round =>
  clear HG0
  obtain ⟨k, lst, v, rfl, hk, rfl, HLS, hG⟩ := hrel
  have hlen : lst.length ≤ 1000001 := by rw [HLS.out]; have h1 := begAll_len ((wss.take k).map ofI); have h2 := byteSum_take wss k; omega
  by_cases hlt : k < la
  ·
   have hdk : decide ((k : Int) < la) = true := by simp; omega
   obtain ⟨bb, off, ax, lx, cx, x, hbb, hbl, hcell, hx, hX, hlc⟩ := (hA.below hG.bel).at_ hlt
   have hbw : bb < w.heap.size := by
    obtain ⟨_, _, _, _, _, _, e, hlt2, _⟩ := hA.at_ hlt
    rw [hbb] at e
    injection e with e
    injection e with e1 e2
    omega
   subst hbb
   have hX0 : Bys w ax lx x := by
    obtain ⟨_, _, ax', lx', cx', x', e, hlt2, hcell', hx', hX', _⟩ := hA.at_ hlt
    injection e with e
    injection e with e1 e2 e3
    subst e1 e2
    have e4 := (hG.bel.cell (p := ⟨bb, off + k, none⟩) hbw).trans hcell'
    rw [hcell] at e4
    injection e4 with e4
    injection e4 with e5 e6 e7
    subst e5 e6 e7
    rw [hx] at hx'
    rw [Option.some.inj hx']
    exact hX'
   have hxl : lx ≤ 1000000 := by have := mem_bd hM hx; rw [hX.len] at this; exact this
   have HX := Lib.hid hx
   have HXL := Lib.hid hX.len
   clear hx hX
   go_wp2
   clear hcell
   go_loopw [4, 22] (fun s4 s22 wr => ∃ (j : Nat) (l2 : List Byt) (v : Value), v = s4 ∧ j ≤ lx ∧ s22 = .int .i64 j ∧ Hid (l2 = begWd lst (ofI x) j) ∧ GB w v l2 wr) (fun _ i _ => lx - (intOf i).toNat)
   case atStart => exact ⟨0, lst, _, rfl, Nat.zero_le _, rfl, rfl, hG⟩
   case round =>
    clear hG
    obtain ⟨j, l2, v, rfl, hj, rfl, HL2, hG⟩ := hrel
    have hl2 : l2.length ≤ 2000001 := by rw [HL2.out]; have := (begWd_len lst (ofI x) j).2; omega
    by_cases hjl : j < lx
    ·
     have hdj : decide ((j : Int) < lx) = true := by simp; omega
     have hjc : (j : Int) + 1 ≤ cx := by omega
     have hjc2 : j + 1 ≤ cx := by omega
     have cv := conv_bys ((hX0.below hG.bel).take (m := j + 1) (by omega)) cx
     rw [strOf_eq] at cv
     have hbl : (ofI (x.take (j + 1))).length ≤ maxLen := by simp [ofI]; unfold maxLen; omega
     have hbe : Hid (ofI (x.take (j + 1)) = (ofI x).take (j + 1)) := by simp [Hid, ofI, List.map_take]
     obtain ⟨b, hbd⟩ : ∃ b, ofI (x.take (j + 1)) = b := ⟨_, rfl⟩
     rw [hbd] at cv hbl hbe
     obtain ⟨f, hms, hfs⟩ := hG.map
     have HFS := Lib.hid hfs
     clear hfs hbd
     by_cases hm : b ∈ l2
     ·
      have hsm : (f b).isSome = true := by rw [HFS.out]; simp [hm]
      have HN : Hid (l2 = begWd lst (ofI x) (j + 1)) := by rw [Hid, begWd_succ, ← HL2.out, ← hbe.out]; unfold accB; rw [if_pos hm]
      clear hm
      go_wp2_with (at_lookup; refine wpList_ms_ok rfl _ _ rfl rfl hms b rfl hbl ?_; intro c' hc'; rw [hsm])
      go_roundw
      case rel => exact ⟨j + 1, l2, _, rfl, by omega, by go_num, HN, hG⟩
      case measure => simp [intOf]; omega
     ·
      have hsm : (f b).isSome = false := by rw [HFS.out]; simp [hm]
      have HN : Hid (l2 ++ [b] = begWd lst (ofI x) (j + 1)) := by rw [Hid, begWd_succ, ← HL2.out, ← hbe.out]; unfold accB; rw [if_neg hm]
      have hrow := hG.row
      obtain ⟨m, hmd⟩ : ∃ m, l2.length = m := ⟨_, rfl⟩
      unfold OwnT at hrow
      rw [hmd] at hrow hms hl2
      have HMD := Lib.hid hmd
      obtain ⟨a4, c4, rfl, hc4, _⟩ := own_sl1 hrow
      have hb4 := hG.bel
      have hsz := hG.sz
      clear hm hmd
      go_wp2_with (first
       | (at_lookup; refine wpList_ms_ok rfl _ _ rfl rfl hms b rfl hbl ?_; intro c' hc'; rw [hsm])
       | (at_mapUpdate; refine wpList_ms_put rfl _ _ _ rfl rfl hms (by unfold maxLen; omega) b m (wf_i (by omega)) rfl rfl hbl ?_; intro w5 hms5 hg5; have hrow5 := hrow.kept hg5 (ne_own hrow); have hB5 : Below w.heap.size w w5 := hb4.grown hg5 hb4.size (fun k e => by cases e; exact Nat.le_refl _); have hs5 := hg5.size)
       | (at_builtin; refine wpList_append_own _ rfl _ _ 80 rfl (w.heap.size + 1) 9 i0 (.string ⟨#[]⟩) 1 16 Tryz.underlying80 hi hz0 hz1 hz2 rfl (by decide) _ _ _ rfl (hrow5.alloc _) ⟨w5.heap.size, 0, none⟩ 1 1 [strV b] rfl rfl (cells_new _ _ (by simp)) (by simp [Value.oneCell']) (by unfold maxLen; omega) (by omega) (by simp; omega) ?_; intro v' w6 hown6 hg6 hnil))
      have hs6 := hg6.size
      simp at hs6
      have hG6 : Hid (GB w v' (l2 ++ [b]) w6) := by
       refine ⟨(hB5.alloc hB5.size _).grown hg6 (by simp; omega) (fun k e => by have := (hrow5.lt k e).1; omega), ?_, ⟨_, ?_, begs_step (b := b) (v := (m : Int)) HFS.out⟩, by omega⟩
       ·
        unfold OwnT
        rw [List.length_append, HMD.out, List.map_append]
        exact hown6
       ·
        rw [List.length_append, HMD.out]
        refine MS.kept (row := (Value.slice a4 m c4).ownBlock) (hms5.alloc _) hg6 ?_
        rcases ne_own hrow with e | e
        · rw [e]; simp
        · exact e
      clear hrow hrow5 hown6 hms hms5 hg5 hg6
      go_roundw
      case rel => exact ⟨j + 1, _, _, rfl, by omega, by go_num, HN, hG6.out⟩
      case measure => simp [intOf]; omega
    ·
     obtain rfl : j = lx := by omega
     have hdj : decide ((j : Int) < j) = false := by simp
     have HN : Hid (l2 = begAll ((wss.take (k + 1)).map ofI)) := by
      rw [Hid, take_step HX.out, List.map_append, List.map_cons, List.map_nil, begAll_snoc, ← HLS.out, show (ofI x).length = j by simp [ofI, HXL.out]]
      exact HL2.out
     go_wp2
     go_roundw
     case rel => exact ⟨k + 1, l2, _, rfl, by omega, by go_num, HN, hG⟩
     case measure => simp [intOf]; omega
  ·
   obtain rfl : k = la := by omega
   have hdk : decide ((k : Int) < k) = false := by simp
   have HLA : Hid (lst = begAll (wss.map ofI)) := by rw [Hid, HLS.out, List.take_of_length_le (by rw [HL.out]; exact Nat.le_refl _)]
   have hne : lst ≠ [] := fun e => by
    have := ((begAll_spec (wss.map ofI)).2 []).2 (.inl rfl)
    rw [← HLA.out, e] at this
    cases this
   rcases hG.row.2 with ⟨_, h0⟩ | ⟨g, cap, cur, rfl, hgb, hh, hn, hcm, hcs, hcc⟩
   · exact absurd (List.eq_nil_of_length_eq_zero h0) hne
   ·
    have hgl : g < wr.heap.size := (Array.getElem?_eq_some_iff.1 hh).1
    have hcells : ∀ i x, lst[i]? = some x → wr.cell? ⟨g, i, none⟩ = some (strV x) ∧ wr.frozen? ⟨g, i, none⟩ = false := fun i x hx => by
     have hil := (List.getElem?_eq_some_iff.1 hx).1
     have h1 : (cur.toList.take (lst.length * 1))[i]? = some (strV x) := by rw [hcc]; simp [hx]
     rw [List.getElem?_take, if_pos (by omega)] at h1
     have h2 : cur[i]? = some (strV x) := by simpa using h1
     simp [World.cell?, World.frozen?, hh, h2]
    have HSO := Lib.hid (sortStr_any g cap lst wr hgl hcells (by omega))
    have hB := hG.bel
    have hgb2 : w.heap.size ≤ g := by omega
    have HBY2 := Lib.hid (HBY.out.bytes)
    clear hcells hh hcc hcs hG hne
    go_wp2_with fail
    refine HSO.out.mono ?_
    rintro e w2 ⟨rfl, l', hp, hs, hsl, hbw⟩
    have hB2 : Below w.heap.size w w2 := hbw _ _ hB hgb2 hB.size
    have HN : Hid (l'.map toI = nodesL wss) := by
     refine sorted_nodes HBY2.out (by rw [← HLA.out]; exact hp) ?_
     have hnd : l'.Nodup := by rw [hp.nodup_iff, HLA.out]; exact (begAll_spec _).1
     rw [List.nodup_iff_pairwise_ne] at hnd
     rw [SrtS, List.pairwise_map]
     refine (hs.and hnd).imp fun {a b} ⟨h1, h2⟩ => ?_
     cases e : ltS (toI a) (toI b) with
     | true => rfl
     | false => exact absurd (toI_inj (ltS_total e h1)) h2
    have HLEN : Hid (lst.length = l'.length) := hp.length_eq.symm
    clear hp hs hbw hB HSO
    go_wp2
    go_ret
    exact ⟨_, _, _, l', rfl, HLEN.out, HN.out, hsl, hB2⟩

end Go.Proofs.YtglfdclpjmhoiaaGreat

/- A trie that grows node by node (layer 7): walked. -/

namespace Go.Proofs.YtglfdclpjmhoiaaGreat
open Go.RowKit Go.Sort

/-- Two rows of the call's own that share no block. -/
def sep (u v : Value) : Prop := ∀ k, u.ownBlock = some k → v.ownBlock ≠ some k
theorem sep.symm {u v : Value} (h : sep u v) : sep v u := fun k h1 h2 => h k h2 h1
theorem sep.kept {u v : Value} (h : sep u v) : v.ownBlock = none ∨ v.ownBlock ≠ u.ownBlock := by
 cases e : v.ownBlock with
 | none => exact .inl rfl
 | some k => exact .inr fun e2 => h k e2.symm e
theorem sep.put {u u' v : Value} {n : Nat} (h : sep u v) (hu : u'.ownBlock = u.ownBlock ∨ u'.ownBlock = some n) (hv : ∀ k, v.ownBlock = some k → k < n) : sep u' v := fun k h1 h2 => by
 rcases hu with e | e
 · exact h k (by rw [← e]; exact h1) h2
 ·
  rw [e] at h1
  have := hv k h2
  injection h1 with h1
  omega
abbrev OwnI (w : World) (base : Nat) (v : Value) (l : List Int) : Prop := w.ownsRow base 3 1 v l.length (l.map (Value.int .i64))
abbrev OwnU (w : World) (base : Nat) (v : Value) (l : List Int) : Prop := w.ownsRow base 5 1 v l.length (l.map (Value.int .u8))
abbrev mkCells (u d x b : Value) (nb wb : Nat) : Array Value := #[u, d, x, b, .map (some nb), .map (some wb)]
/-- A trie that grows, in memory: its four rows, its two maps. -/
structure MK (base mb nb wb n1 n2 : Nat) (fN fW : Byt → Option Int) (U D X B : List Int) (u d x b : Value) (W : World) : Prop where
 box : W.heap[mb]? = some (.cells (mkCells u d x b nb wb) 79 (0, 0))
 up : OwnI W base u U
 dep : OwnI W base d D
 wrd : OwnI W base x X
 byt : OwnU W base b B
 s1 : sep u d
 s2 : sep u x
 s3 : sep u b
 s4 : sep d x
 s5 : sep d b
 s6 : sep x b
 nod : MS W nb n1 fN
 wds : MS W wb n2 fW
 lt : mb < base ∧ nb < base ∧ wb < base ∧ mb ≠ nb ∧ mb ≠ wb ∧ nb ≠ wb
 sz : base ≤ W.heap.size

theorem MS.below {W W' : World} {b n : Nat} {f : Byt → Option Int} (h : MS W b n f) (hb : Below W.heap.size W W') : MS W' b n f :=
 h.kept (gb_of_below hb (b + 1)) (by simp)
theorem MS.run_get {W : World} {b n : Nat} {f : Byt → Option Int} (h : MS W b n f) {l : Byt} (hl : l.length ≤ maxLen) {u : Int} (hu : f l = some u) :
  Sem.run Tryz.prog (Instr.lookup 77 (.map (some b)) (strV l) false) W = .ok (.int .i64 u) W := by
 obtain ⟨D, h1, h2, h3⟩ := h
 obtain ⟨c, hrun, hat, _⟩ := h1.lookup_int str_law Tryz.underlying77 Tryz.underlying3 (zero_int7 W) (str_key l hl)
 have := hat.symm.trans ((h3 l).2 u hu)
 obtain rfl : c = u := by simpa using this
 exact hrun
theorem strB_cut (s : Byt) : (strB s).extract 0 (s.length - 1) = strB s.dropLast := by
 apply ByteArray.ext
 rw [ByteArray.data_extract]
 apply Array.ext'
 simp [strB, List.dropLast_eq_take]
theorem strB_nonempty {s : Byt} (h : s ≠ []) : (strB s).toList.isEmpty = false := by
 cases e : (strB s).toList.isEmpty with
 | false => rfl
 | true =>
  exfalso
  have h1 : (strB s).toList = [] := by simpa using e
  have h2 : (strB s).data.toList = [] := by rw [← ByteArray.toList_eq]; exact h1
  exact h (by simpa [strB] using h2)

def lastI (b : Byt) : Int := ((b.getLast?).map fun c => (c.toNat : Int)).getD 0
theorem lastI_at {s : Byt} {q : Nat} (hq : s.length = q + 1) (h : q < (strB s).size) : (((strB s)[q].toNat : Nat) : Int) = lastI s := by
 have e : s.getLast? = some (s[q]'(by omega)) := by rw [List.getLast?_eq_getElem?, show s.length - 1 = q by omega]; simp
 unfold lastI
 rw [e]
 rfl
theorem row_below {w w' : World} {base n size : Nat} {e : TypeId} {v : Value} {xs : List Value} (h : w.ownsRow base e size v n xs) (hb : Below w.heap.size w w') : w'.ownsRow base e size v n xs := by
 obtain ⟨h1, h2 | ⟨g, cap, cur, e, hg, hh, hr⟩⟩ := h
 · exact ⟨h1, .inl h2⟩
 · exact ⟨h1, .inr ⟨g, cap, cur, e, hg, (hb.block g (Array.getElem?_eq_some_iff.1 hh).1).trans hh, hr⟩⟩
theorem row_ne {w : World} {base n size m : Nat} {e : TypeId} {v : Value} {xs : List Value} (h : w.ownsRow base e size v n xs) (hm : m < base) : v.ownBlock = none ∨ v.ownBlock ≠ some m := by
 rcases h.2 with ⟨rfl, _⟩ | ⟨g, cap, cur, rfl, hg, _⟩
 · exact .inl rfl
 · exact .inr (by simp [Value.ownBlock]; omega)
theorem row_set {w : World} {base n size m i : Nat} {e : TypeId} {v : Value} {xs : List Value} (h : w.ownsRow base e size v n xs) (hm : m < base) (u : Value) : (w.setCell ⟨m, i, none⟩ u).ownsRow base e size v n xs :=
 h.kept (grown_set2 w m i u) (row_ne h hm)
theorem MS.set {w : World} {b n m i : Nat} {f : Byt → Option Int} (h : MS w b n f) (hm : m ≠ b) (u : Value) : MS (w.setCell ⟨m, i, none⟩ u) b n f := h.kept (grown_set2 w m i u) (by intro e; injection e with e; exact hm e)
theorem row_lt {w : World} {base n size : Nat} {e : TypeId} {v : Value} {xs : List Value} (h : w.ownsRow base e size v n xs) : ∀ k, v.ownBlock = some k → base ≤ k ∧ k < w.heap.size := fun k hk => by
 rcases h.2 with ⟨rfl, _⟩ | ⟨g, cap, cur, rfl, hg, hh, _⟩
 · cases hk
 · simp [Value.ownBlock] at hk; subst hk; exact ⟨hg, (Array.getElem?_eq_some_iff.1 hh).1⟩

/-- What lies below base is left alone, but for two blocks. -/
structure Leaves (mb nb base : Nat) (w W : World) : Prop where
 os : W.os = w.os
 tape : W.tape = w.tape
 output : W.output = w.output
 size : w.heap.size ≤ W.heap.size
 block : ∀ k, k < base → k ≠ mb → k ≠ nb → W.heap[k]? = w.heap[k]?
theorem Leaves.refl (mb nb base : Nat) (w : World) : Leaves mb nb base w w := ⟨rfl, rfl, rfl, Nat.le_refl _, fun _ _ _ _ => rfl⟩
theorem Leaves.trans {mb nb base : Nat} {u v w : World} (h : Leaves mb nb base u v) (k : Leaves mb nb base v w) : Leaves mb nb base u w :=
 ⟨k.os.trans h.os, k.tape.trans h.tape, k.output.trans h.output, Nat.le_trans h.size k.size, fun i h1 h2 h3 => (k.block i h1 h2 h3).trans (h.block i h1 h2 h3)⟩
theorem Leaves.of_below {mb nb base : Nat} {v w : World} (h : Below v.heap.size v w) (hb : base ≤ v.heap.size) : Leaves mb nb base v w := ⟨h.os, h.tape, h.output, h.size, fun k h1 _ _ => h.block k (by omega)⟩
theorem Leaves.alloc {mb nb base : Nat} {v w : World} (h : Leaves mb nb base v w) (hb : base ≤ w.heap.size) (o : Obj) : Leaves mb nb base v (w.alloc o) := h.trans (.of_below (below_alloc w o) hb)
theorem Leaves.grown {mb nb base : Nat} {u v w : World} {row : Option Nat} (h : Leaves mb nb base u v) (hg : v.grownBy w row) (hr : ∀ k, row = some k → base ≤ k ∨ k = nb) (hb : base ≤ v.heap.size) : Leaves mb nb base u w :=
 h.trans ⟨hg.os, hg.tape, hg.output, hg.size, fun k h1 h2 h3 => hg.block k (by omega) (fun e => by rcases hr k e.symm with g | g <;> omega)⟩
theorem Leaves.set {mb nb base : Nat} {v w : World} (h : Leaves mb nb base v w) (i : Nat) (x : Value) : Leaves mb nb base v (w.setCell ⟨mb, i, none⟩ x) :=
 h.trans ⟨rfl, rfl, rfl, by simp, fun k h1 h2 h3 => Below.heap_setCell w ⟨mb, i, none⟩ x k h2⟩
theorem Leaves.below {mb nb base B : Nat} {u v w : World} (h : Leaves mb nb base v w) (hb : Below B u v) (h1 : B ≤ mb) (h2 : B ≤ nb) (h3 : B ≤ base) : Below B u w :=
 ⟨h.os.trans hb.os, h.tape.trans hb.tape, h.output.trans hb.output, Nat.le_trans hb.size h.size, fun k hk => (h.block k (by omega) (by omega) (by omega)).trans (hb.block k hk)⟩

section
variable {base mb nb wb n1 n2 : Nat} {fN fW : Byt → Option Int} {U D X B : List Int} {u d x b : Value} {W W' : World}
theorem MK.below (h : MK base mb nb wb n1 n2 fN fW U D X B u d x b W) (hb : Below W.heap.size W W') : MK base mb nb wb n1 n2 fN fW U D X B u d x b W' :=
 ⟨(hb.block _ (Array.getElem?_eq_some_iff.1 h.box).1).trans h.box, row_below h.up hb, row_below h.dep hb, row_below h.wrd hb, row_below h.byt hb, h.s1, h.s2, h.s3, h.s4, h.s5, h.s6, h.nod.below hb, h.wds.below hb, h.lt, Nat.le_trans h.sz hb.size⟩
theorem MK.cells (h : MK base mb nb wb n1 n2 fN fW U D X B u d x b W) : (W.cell? ⟨mb, 0, none⟩ = some u ∧ W.cell? ⟨mb, 1, none⟩ = some d ∧ W.cell? ⟨mb, 2, none⟩ = some x ∧ W.cell? ⟨mb, 3, none⟩ = some b ∧ W.cell? ⟨mb, 4, none⟩ = some (.map (some nb)) ∧ W.cell? ⟨mb, 5, none⟩ = some (.map (some wb))) ∧ ∀ i, W.frozen? ⟨mb, i, none⟩ = false := by
 refine ⟨⟨?_, ?_, ?_, ?_, ?_, ?_⟩, fun i => ?_⟩ <;> simp [World.cell?, World.frozen?, h.box]
theorem MK.put_u (h : MK base mb nb wb n1 n2 fN fW U D X B u d x b W) {V : World} {u' : Value} {z : Int} (o : Obj) (hown : V.ownsRow base 3 1 u' (U.length + 1) (U.map (Value.int .i64) ++ [.int .i64 z])) (hg : (W.alloc o).grownBy V u.ownBlock) (hat : u'.ownBlock = u.ownBlock ∨ u'.ownBlock = some (W.alloc o).heap.size) :
  MK base mb nb wb n1 n2 fN fW (U ++ [z]) D X B u' d x b (V.setCell ⟨mb, 0, none⟩ u') ∧ Leaves mb nb base W (V.setCell ⟨mb, 0, none⟩ u') := by
 have hs := hg.size
 simp at hs
 have hal : W.heap.size ≤ (W.alloc o).heap.size := by simp
 have hmb := (Array.getElem?_eq_some_iff.1 h.box).1
 have hnr : u.ownBlock ≠ some mb := fun e => by have := (row_lt h.up _ e).1; have := h.lt.1; omega
 have hnn : u.ownBlock ≠ some nb := fun e => by have := (row_lt h.up _ e).1; have := h.lt.2.1; omega
 have hnw : u.ownBlock ≠ some wb := fun e => by have := (row_lt h.up _ e).1; have := h.lt.2.2.1; omega
 have hbx : V.heap[mb]? = some (.cells (mkCells u d x b nb wb) 79 (0, 0)) := (hg.block mb (by simp; omega) (fun e => hnr e.symm)).trans ((Below.heap_alloc _ _ _ hmb).trans h.box)
 have k_d := row_set (i := 0) ((h.dep.alloc o).kept hg h.s1.kept) h.lt.1 u'
 have k_x := row_set (i := 0) ((h.wrd.alloc o).kept hg h.s2.kept) h.lt.1 u'
 have k_b := row_set (i := 0) ((h.byt.alloc o).kept hg h.s3.kept) h.lt.1 u'
 exact ⟨⟨set_at hbx _, (by unfold OwnI; rw [List.length_append, List.map_append]; exact row_set hown h.lt.1 _), k_d, k_x, k_b, (h.s1.put hat (fun k e => Nat.lt_of_lt_of_le (row_lt h.dep k e).2 hal)), (h.s2.put hat (fun k e => Nat.lt_of_lt_of_le (row_lt h.wrd k e).2 hal)), (h.s3.put hat (fun k e => Nat.lt_of_lt_of_le (row_lt h.byt k e).2 hal)), h.s4, h.s5, h.s6, ((h.nod.alloc o).kept hg hnn).set h.lt.2.2.2.1 _, ((h.wds.alloc o).kept hg hnw).set h.lt.2.2.2.2.1 _, h.lt, by have := h.sz; simp; omega⟩, (((Leaves.refl mb nb base W).alloc h.sz o).grown hg (fun k e => .inl (row_lt h.up k e).1) (by have := h.sz; simp; omega)).set _ _⟩
theorem MK.put_d (h : MK base mb nb wb n1 n2 fN fW U D X B u d x b W) {V : World} {d' : Value} {z : Int} (o : Obj) (hown : V.ownsRow base 3 1 d' (D.length + 1) (D.map (Value.int .i64) ++ [.int .i64 z])) (hg : (W.alloc o).grownBy V d.ownBlock) (hat : d'.ownBlock = d.ownBlock ∨ d'.ownBlock = some (W.alloc o).heap.size) :
  MK base mb nb wb n1 n2 fN fW U (D ++ [z]) X B u d' x b (V.setCell ⟨mb, 1, none⟩ d') ∧ Leaves mb nb base W (V.setCell ⟨mb, 1, none⟩ d') := by
 have hs := hg.size
 simp at hs
 have hal : W.heap.size ≤ (W.alloc o).heap.size := by simp
 have hmb := (Array.getElem?_eq_some_iff.1 h.box).1
 have hnr : d.ownBlock ≠ some mb := fun e => by have := (row_lt h.dep _ e).1; have := h.lt.1; omega
 have hnn : d.ownBlock ≠ some nb := fun e => by have := (row_lt h.dep _ e).1; have := h.lt.2.1; omega
 have hnw : d.ownBlock ≠ some wb := fun e => by have := (row_lt h.dep _ e).1; have := h.lt.2.2.1; omega
 have hbx : V.heap[mb]? = some (.cells (mkCells u d x b nb wb) 79 (0, 0)) := (hg.block mb (by simp; omega) (fun e => hnr e.symm)).trans ((Below.heap_alloc _ _ _ hmb).trans h.box)
 have k_u := row_set (i := 1) ((h.up.alloc o).kept hg h.s1.symm.kept) h.lt.1 d'
 have k_x := row_set (i := 1) ((h.wrd.alloc o).kept hg h.s4.kept) h.lt.1 d'
 have k_b := row_set (i := 1) ((h.byt.alloc o).kept hg h.s5.kept) h.lt.1 d'
 exact ⟨⟨set_at hbx _, k_u, (by unfold OwnI; rw [List.length_append, List.map_append]; exact row_set hown h.lt.1 _), k_x, k_b, (h.s1.symm.put hat (fun k e => Nat.lt_of_lt_of_le (row_lt h.up k e).2 hal)).symm, h.s2, h.s3, (h.s4.put hat (fun k e => Nat.lt_of_lt_of_le (row_lt h.wrd k e).2 hal)), (h.s5.put hat (fun k e => Nat.lt_of_lt_of_le (row_lt h.byt k e).2 hal)), h.s6, ((h.nod.alloc o).kept hg hnn).set h.lt.2.2.2.1 _, ((h.wds.alloc o).kept hg hnw).set h.lt.2.2.2.2.1 _, h.lt, by have := h.sz; simp; omega⟩, (((Leaves.refl mb nb base W).alloc h.sz o).grown hg (fun k e => .inl (row_lt h.dep k e).1) (by have := h.sz; simp; omega)).set _ _⟩
theorem MK.put_x (h : MK base mb nb wb n1 n2 fN fW U D X B u d x b W) {V : World} {x' : Value} {z : Int} (o : Obj) (hown : V.ownsRow base 3 1 x' (X.length + 1) (X.map (Value.int .i64) ++ [.int .i64 z])) (hg : (W.alloc o).grownBy V x.ownBlock) (hat : x'.ownBlock = x.ownBlock ∨ x'.ownBlock = some (W.alloc o).heap.size) :
  MK base mb nb wb n1 n2 fN fW U D (X ++ [z]) B u d x' b (V.setCell ⟨mb, 2, none⟩ x') ∧ Leaves mb nb base W (V.setCell ⟨mb, 2, none⟩ x') := by
 have hs := hg.size
 simp at hs
 have hal : W.heap.size ≤ (W.alloc o).heap.size := by simp
 have hmb := (Array.getElem?_eq_some_iff.1 h.box).1
 have hnr : x.ownBlock ≠ some mb := fun e => by have := (row_lt h.wrd _ e).1; have := h.lt.1; omega
 have hnn : x.ownBlock ≠ some nb := fun e => by have := (row_lt h.wrd _ e).1; have := h.lt.2.1; omega
 have hnw : x.ownBlock ≠ some wb := fun e => by have := (row_lt h.wrd _ e).1; have := h.lt.2.2.1; omega
 have hbx : V.heap[mb]? = some (.cells (mkCells u d x b nb wb) 79 (0, 0)) := (hg.block mb (by simp; omega) (fun e => hnr e.symm)).trans ((Below.heap_alloc _ _ _ hmb).trans h.box)
 have k_u := row_set (i := 2) ((h.up.alloc o).kept hg h.s2.symm.kept) h.lt.1 x'
 have k_d := row_set (i := 2) ((h.dep.alloc o).kept hg h.s4.symm.kept) h.lt.1 x'
 have k_b := row_set (i := 2) ((h.byt.alloc o).kept hg h.s6.kept) h.lt.1 x'
 exact ⟨⟨set_at hbx _, k_u, k_d, (by unfold OwnI; rw [List.length_append, List.map_append]; exact row_set hown h.lt.1 _), k_b, h.s1, (h.s2.symm.put hat (fun k e => Nat.lt_of_lt_of_le (row_lt h.up k e).2 hal)).symm, h.s3, (h.s4.symm.put hat (fun k e => Nat.lt_of_lt_of_le (row_lt h.dep k e).2 hal)).symm, h.s5, (h.s6.put hat (fun k e => Nat.lt_of_lt_of_le (row_lt h.byt k e).2 hal)), ((h.nod.alloc o).kept hg hnn).set h.lt.2.2.2.1 _, ((h.wds.alloc o).kept hg hnw).set h.lt.2.2.2.2.1 _, h.lt, by have := h.sz; simp; omega⟩, (((Leaves.refl mb nb base W).alloc h.sz o).grown hg (fun k e => .inl (row_lt h.wrd k e).1) (by have := h.sz; simp; omega)).set _ _⟩
theorem MK.put_b (h : MK base mb nb wb n1 n2 fN fW U D X B u d x b W) {V : World} {b' : Value} {z : Int} (o : Obj) (hown : V.ownsRow base 5 1 b' (B.length + 1) (B.map (Value.int .u8) ++ [.int .u8 z])) (hg : (W.alloc o).grownBy V b.ownBlock) (hat : b'.ownBlock = b.ownBlock ∨ b'.ownBlock = some (W.alloc o).heap.size) :
  MK base mb nb wb n1 n2 fN fW U D X (B ++ [z]) u d x b' (V.setCell ⟨mb, 3, none⟩ b') ∧ Leaves mb nb base W (V.setCell ⟨mb, 3, none⟩ b') := by
 have hs := hg.size
 simp at hs
 have hal : W.heap.size ≤ (W.alloc o).heap.size := by simp
 have hmb := (Array.getElem?_eq_some_iff.1 h.box).1
 have hnr : b.ownBlock ≠ some mb := fun e => by have := (row_lt h.byt _ e).1; have := h.lt.1; omega
 have hnn : b.ownBlock ≠ some nb := fun e => by have := (row_lt h.byt _ e).1; have := h.lt.2.1; omega
 have hnw : b.ownBlock ≠ some wb := fun e => by have := (row_lt h.byt _ e).1; have := h.lt.2.2.1; omega
 have hbx : V.heap[mb]? = some (.cells (mkCells u d x b nb wb) 79 (0, 0)) := (hg.block mb (by simp; omega) (fun e => hnr e.symm)).trans ((Below.heap_alloc _ _ _ hmb).trans h.box)
 have k_u := row_set (i := 3) ((h.up.alloc o).kept hg h.s3.symm.kept) h.lt.1 b'
 have k_d := row_set (i := 3) ((h.dep.alloc o).kept hg h.s5.symm.kept) h.lt.1 b'
 have k_x := row_set (i := 3) ((h.wrd.alloc o).kept hg h.s6.symm.kept) h.lt.1 b'
 exact ⟨⟨set_at hbx _, k_u, k_d, k_x, (by unfold OwnU; rw [List.length_append, List.map_append]; exact row_set hown h.lt.1 _), h.s1, h.s2, (h.s3.symm.put hat (fun k e => Nat.lt_of_lt_of_le (row_lt h.up k e).2 hal)).symm, h.s4, (h.s5.symm.put hat (fun k e => Nat.lt_of_lt_of_le (row_lt h.dep k e).2 hal)).symm, (h.s6.symm.put hat (fun k e => Nat.lt_of_lt_of_le (row_lt h.wrd k e).2 hal)).symm, ((h.nod.alloc o).kept hg hnn).set h.lt.2.2.2.1 _, ((h.wds.alloc o).kept hg hnw).set h.lt.2.2.2.2.1 _, h.lt, by have := h.sz; simp; omega⟩, (((Leaves.refl mb nb base W).alloc h.sz o).grown hg (fun k e => .inl (row_lt h.byt k e).1) (by have := h.sz; simp; omega)).set _ _⟩
end

end Go.Proofs.YtglfdclpjmhoiaaGreat

/- A trie that grows by a node (layer 7): walked. -/

namespace Go.Proofs.YtglfdclpjmhoiaaGreat
open Go.RowKit Go.Sort

theorem u8_info7 : (Tryz.prog.info? 5).map (fun i => (i.zero, i.size, i.bytes)) = some (some (.int .u8 0), 1, 1) := by kernel_rfl
theorem i64_info7 : (Tryz.prog.info? 3).map (fun i => (i.zero, i.size, i.bytes)) = some (some (.int .i64 0), 1, 8) := by kernel_rfl
section
variable {base mb nb wb n1 n2 : Nat} {fN fW : Byt → Option Int} {U D X B : List Int} {u d x b : Value} {W V : World}
theorem MK.putN (h : MK base mb nb wb n1 n2 fN fW U D X B u d x b W) {f' : Byt → Option Int} {m : Nat} (hm : MS V nb m f') (hg : W.grownBy V (some nb)) : MK base mb nb wb m n2 f' fW U D X B u d x b V := by
 have hmb := (Array.getElem?_eq_some_iff.1 h.box).1
 refine ⟨(hg.block mb hmb (fun e => by injection e with e; exact h.lt.2.2.2.1 e)).trans h.box, h.up.kept hg (row_ne h.up h.lt.2.1), h.dep.kept hg (row_ne h.dep h.lt.2.1), h.wrd.kept hg (row_ne h.wrd h.lt.2.1), h.byt.kept hg (row_ne h.byt h.lt.2.1), h.s1, h.s2, h.s3, h.s4, h.s5, h.s6, hm, h.wds.kept hg (fun e => by injection e with e; exact h.lt.2.2.2.2.2 e), h.lt, Nat.le_trans h.sz hg.size⟩
theorem MK.fz (h : MK base mb nb wb n1 n2 fN fW U D X B u d x b W) (o : Obj) {row : Option Nat} (hg : (W.alloc o).grownBy V row) (hr : row ≠ some mb) (i : Nat) : V.frozen? ⟨mb, i, none⟩ = false := by
 have hmb := (Array.getElem?_eq_some_iff.1 h.box).1
 have := (hg.block mb (by simp; omega) (fun e => hr e.symm)).trans ((Below.heap_alloc _ _ _ hmb).trans h.box)
 simp [World.frozen?, this]
theorem MK.cz (h : MK base mb nb wb n1 n2 fN fW U D X B u d x b W) (o : Obj) {row : Option Nat} (hg : (W.alloc o).grownBy V row) (hr : row ≠ some mb) : V.cell? ⟨mb, 0, none⟩ = some u ∧ V.cell? ⟨mb, 1, none⟩ = some d ∧ V.cell? ⟨mb, 2, none⟩ = some x ∧ V.cell? ⟨mb, 3, none⟩ = some b := by
 have hmb := (Array.getElem?_eq_some_iff.1 h.box).1
 have := (hg.block mb (by simp; omega) (fun e => hr e.symm)).trans ((Below.heap_alloc _ _ _ hmb).trans h.box)
 refine ⟨?_, ?_, ?_, ?_⟩ <;> simp [World.cell?, this]
end
theorem row_nm {w : World} {base n size m : Nat} {e : TypeId} {v : Value} {xs : List Value} (h : w.ownsRow base e size v n xs) (hm : m < base) : v.ownBlock ≠ some m := by
 rcases row_ne h hm with e | e
 · rw [e]; simp
 · exact e

set_option maxRecDepth 100000 in
set_option maxHeartbeats 4000000 in
theorem add_any (base mb nb wb n1 n2 : Nat) (fN fW : Byt → Option Int) (U D X B : List Int) (u d x b : Value) (s : Byt) (uI : Int) (w : World) (h : MK base mb nb wb n1 n2 fN fW U D X B u d x b w) (hn1 : n1 ≤ 1000000) (hlU : U.length ≤ 1000000) (hlD : D.length ≤ 1000000) (hlX : X.length ≤ 1000000) (hlB : B.length ≤ 1000000)
  (hs : s.length ≤ 1000000) (hu0 : s = [] → uI = 0) (hu1 : s ≠ [] → fN s.dropLast = some uI) :
  Calls Tryz.prog 44 #[.pointer (some ⟨mb, 0, none⟩), strV s] w fun e w' => e = .returned (.tuple #[]) ∧ ∃ u' d' x' b', MK base mb nb wb (n1 + 1) n2 (fun k => if k = s then some (U.length : Int) else fN k) fW (U ++ [uI]) (D ++ [(s.length : Int)]) (X ++ [(fW s).getD (-1)]) (B ++ [lastI s]) u' d' x' b' w' ∧ Leaves mb nb base w w' := by
 obtain ⟨i0, hi, hz0, hz1, hz2⟩ := info_parts i64_info7
 obtain ⟨i1, hj, hy0, hy1, hy2⟩ := info_parts u8_info7
 have HS := Lib.hid (strB_size s)
 obtain ⟨E, hEd⟩ : ∃ E, (strB s).toList.isEmpty = E := ⟨_, rfl⟩
 go_enter Tryz.func44, Tryz.ntmps44
 go_upto_if 9 with fail
 have HED := Lib.hid hEd
 clear hEd
 go_cut [4, 5] (fun s4 s5 wx => s4 = .int .i64 uI ∧ s5 = .int .u8 (lastI s) ∧ Below w.heap.size w wx)
 case first =>
  cases E with
  | true =>
   have h0 : s = [] := Classical.byContradiction fun e => by have := strB_nonempty e; rw [HED.out] at this; cases this
   have hE2 := hu0 h0
   go_wp2_with fail
   go_meet
   exact ⟨by rw [hE2], by rw [h0]; rfl, Below.refl _ _⟩
  | false =>
   have h0 : s ≠ [] := fun e => by rw [e] at HED; have := HED.out; simp [strB, ByteArray.toList_eq] at this
   obtain ⟨q, hq⟩ : ∃ q, s.length = q + 1 := ⟨s.length - 1, by have : s.length ≠ 0 := fun e => h0 (List.eq_nil_of_length_eq_zero e); omega⟩
   have hcut := strB_cut s
   have hsz := strB_size s
   rw [hq] at hsz hcut
   rw [Nat.add_sub_cancel] at hcut
   have hlk : ∀ d os, Sem.run Tryz.prog (Instr.lookup 77 (.map (some nb)) (.string ((strB s).extract 0 q)) false) (grow (redrawn w d) os) = .ok (.int .i64 uI) (grow (redrawn w d) os) := fun d os => by
    rw [hcut]
    exact (h.nod.below (below_regrown w d os)).run_get (by rw [List.length_dropLast]; unfold maxLen; omega) (hu1 h0)
   have hqs : q < (strB s).size := by omega
   have HLI := Lib.hid (lastI_at hq hqs)
   have hqb : q ≤ 1000000 := by omega
   have hlt1 : (q : Int) < (q : Int) + 1 := by omega
   clear hcut hq h0 hu0 hu1
   have hmb : mb < w.heap.size := (Array.getElem?_eq_some_iff.1 h.box).1
   have c4 : ∀ d os, (grow (redrawn w d) os).cell? ⟨mb, 4, none⟩ = some (.map (some nb)) := fun d os => ((below_regrown w d os).cell (p := ⟨mb, 4, none⟩) hmb).trans h.cells.1.2.2.2.2.1
   go_upto_region 2 with fail
   refine wp_region_quiet_below mixed (by kernel_rfl) ?_
   repeat (go_big_quiet_step (fail))
   refine wpQuiet_nil ?_
   rintro _ ⟨⟨dq, osq⟩, rfl⟩
   go_wp2_with fail
   go_meet
   exact ⟨rfl, by rw [← HLI.out], below_regrown w dq osq⟩
 case rest =>
  obtain ⟨rfl, rfl, hb⟩ := hcut
  have hL : Leaves mb nb base w wc := .of_below hb h.sz
  have h := h.below hb
  clear hb hu0 hu1
  obtain ⟨O, hO⟩ : ∃ O, fW s = O := ⟨_, rfl⟩
  obtain ⟨⟨c0, c1, c2, c3, c4, c5⟩, _⟩ := h.cells
  have hms0 := h.wds
  go_upto_if 35 with (at_lookup; refine wpList_ms_ok rfl _ _ rfl rfl hms0 s rfl (by unfold maxLen; omega) ?_; intro cw hcw; rw [hO])
  rw [hO] at hcw
  have HO := Lib.hid hO
  clear hO c0 c1 c2 c3 c4 c5
  go_cut [6] (fun s6 wx => wc = wx ∧ s6 = .int .i64 (O.getD (-1)))
  case first =>
   cases O with
   | none =>
    go_wp2_with fail
    go_meet
    exact ⟨rfl, rfl⟩
   | some v =>
    obtain rfl : cw = v := hcw v rfl
    go_wp2_with fail
    go_meet
    exact ⟨rfl, rfl⟩
  case rest =>
  obtain ⟨rfl, rfl⟩ := hcut
  clear hcw hms0
  obtain ⟨Z, hZ⟩ : ∃ Z : Int, O.getD (-1) = Z := ⟨_, rfl⟩
  rw [hZ]
  have HZ : Hid ((fW s).getD (-1) = Z) := by rw [Hid, HO.out]; exact hZ
  clear hZ HO
  obtain ⟨au, cu, rfl, _, _⟩ := own_sl1 h.up
  obtain ⟨ad, cd, rfl, _, _⟩ := own_sl1 h.dep
  obtain ⟨ax, cx, rfl, _, _⟩ := own_sl1 h.wrd
  obtain ⟨ab, cb, rfl, _, _⟩ := own_sl1 h.byt
  have hmb : mb < wc.heap.size := (Array.getElem?_eq_some_iff.1 h.box).1
  obtain ⟨⟨c0, c1, c2, c3, c4, c5⟩, _⟩ := h.cells
  go_upto_region 6 with fail
  refine region_drawn_tail 11 mixed (by kernel_rfl) ?_
  dsimp only [List.take_succ_cons, List.take_zero, List.drop_succ_cons, List.drop_zero]
  repeat (go_big_quiet_step (fail))
  refine wpQuiet_nil ?_
  rintro _ ⟨nq, rfl⟩
  have h6 := h.below (bel_drewN wc nq)
  have hL6 : Leaves mb nb base w (wc.drewN nq) := hL.trans (.of_below (bel_drewN wc nq) h.sz)
  refine wpList_ms_put rfl _ _ _ rfl rfl h6.nod (by unfold maxLen; omega) s U.length (wf_i (by omega)) rfl rfl (by unfold maxLen; omega) ?_
  intro w5 hms5 hg5
  have hL5 : Leaves mb nb base w w5 := hL6.grown hg5 (fun k e => by cases e; exact .inr rfl) h6.sz
  have h5 := h6.putN hms5 hg5
  clear c0 c1 c2 c3 c4 c5 h6 hms5 hg5 hL6 hL h
  have hL := hL5
  have h := h5
  clear h5 hL5
  have HSL := Lib.hid hs
  obtain ⟨c0, c1, c2, c3, c4, c5⟩ := h.cells.1
  go_upto_region 8 with (at_builtin; refine wpList_append_own_at _ rfl _ _ 32 rfl base 3 i0 (.int .i64 0) 1 8 Tryz.underlying32 hi hz0 hz1 hz2 rfl (by decide) _ _ _ rfl (h.up.alloc _) ⟨w5.heap.size, 0, none⟩ 1 1 [.int .i64 uI] rfl rfl (cells_new _ _ (by simp)) (by simp [Value.oneCell']) (by unfold maxLen; omega) (by omega) (by have := h.sz; simp; omega) ?_; intro v7 v7w hown7 hg7 hnil7 hat7; obtain ⟨g7, cp7, rfl⟩ := ownsRow_succ hown7; have fz7 : v7w.frozen? ⟨mb, 0, none⟩ = false := h.fz _ hg7 (row_nm h.up h.lt.1) 0; obtain ⟨e70, e71, e72, e73⟩ := h.cz _ hg7 (row_nm h.up h.lt.1))
  obtain ⟨h', hl'⟩ := h.put_u _ hown7 hg7 hat7
  have hL' := hL.trans hl'
  clear e70 e71 e72 e73 c0 c1 c2 c3 c4 c5 hown7 hg7 hnil7 hat7 hl' fz7 h hL
  have h := h'
  have hL := hL'
  clear h' hL'
  obtain ⟨Y7, hY⟩ : ∃ Y, Y = v7w.setCell ⟨mb, 0, none⟩ (.slice (some ⟨g7, 0, none⟩) (U.length + 1) cp7) := ⟨_, rfl⟩
  rw [← hY] at h hL ⊢
  clear hY v7w
  obtain ⟨c0, c1, c2, c3, c4, c5⟩ := h.cells.1
  go_upto_region 9 with (at_builtin; refine wpList_append_own_at _ rfl _ _ 25 rfl base 5 i1 (.int .u8 0) 1 1 Tryz.underlying25 hj hy0 hy1 hy2 rfl (by decide) _ _ _ rfl (h.byt.alloc _) ⟨Y7.heap.size, 0, none⟩ 1 1 [.int .u8 (lastI s)] rfl rfl (cells_new _ _ (by simp)) (by simp [Value.oneCell']) (by unfold maxLen; omega) (by omega) (by have := h.sz; simp; omega) ?_; intro v8 v8w hown8 hg8 hnil8 hat8; obtain ⟨g8, cp8, rfl⟩ := ownsRow_succ hown8; have fz8 : v8w.frozen? ⟨mb, 3, none⟩ = false := h.fz _ hg8 (row_nm h.byt h.lt.1) 3; obtain ⟨e80, e81, e82, e83⟩ := h.cz _ hg8 (row_nm h.byt h.lt.1))
  obtain ⟨h', hl'⟩ := h.put_b _ hown8 hg8 hat8
  have hL' := hL.trans hl'
  clear e80 e81 e82 e83 c0 c1 c2 c3 c4 c5 hown8 hg8 hnil8 hat8 hl' fz8 h hL
  have h := h'
  have hL := hL'
  clear h' hL'
  obtain ⟨Y8, hY⟩ : ∃ Y, Y = v8w.setCell ⟨mb, 3, none⟩ (.slice (some ⟨g8, 0, none⟩) (B.length + 1) cp8) := ⟨_, rfl⟩
  rw [← hY] at h hL ⊢
  clear hY v8w
  obtain ⟨c0, c1, c2, c3, c4, c5⟩ := h.cells.1
  go_upto_region 10 with (at_builtin; refine wpList_append_own_at _ rfl _ _ 32 rfl base 3 i0 (.int .i64 0) 1 8 Tryz.underlying32 hi hz0 hz1 hz2 rfl (by decide) _ _ _ rfl (h.dep.alloc _) ⟨Y8.heap.size, 0, none⟩ 1 1 [.int .i64 (s.length : Int)] rfl rfl (cells_new _ _ (by simp)) (by simp [Value.oneCell']) (by unfold maxLen; omega) (by omega) (by have := h.sz; simp; omega) ?_; intro v9 v9w hown9 hg9 hnil9 hat9; obtain ⟨g9, cp9, rfl⟩ := ownsRow_succ hown9; have fz9 : v9w.frozen? ⟨mb, 1, none⟩ = false := h.fz _ hg9 (row_nm h.dep h.lt.1) 1; obtain ⟨e90, e91, e92, e93⟩ := h.cz _ hg9 (row_nm h.dep h.lt.1))
  obtain ⟨h', hl'⟩ := h.put_d _ hown9 hg9 hat9
  have hL' := hL.trans hl'
  clear e90 e91 e92 e93 c0 c1 c2 c3 c4 c5 hown9 hg9 hnil9 hat9 hl' fz9 h hL
  have h := h'
  have hL := hL'
  clear h' hL'
  obtain ⟨Y9, hY⟩ : ∃ Y, Y = v9w.setCell ⟨mb, 1, none⟩ (.slice (some ⟨g9, 0, none⟩) (D.length + 1) cp9) := ⟨_, rfl⟩
  rw [← hY] at h hL ⊢
  clear hY v9w
  obtain ⟨c0, c1, c2, c3, c4, c5⟩ := h.cells.1
  go_wp2_with (at_builtin; refine wpList_append_own_at _ rfl _ _ 32 rfl base 3 i0 (.int .i64 0) 1 8 Tryz.underlying32 hi hz0 hz1 hz2 rfl (by decide) _ _ _ rfl (h.wrd.alloc _) ⟨Y9.heap.size, 0, none⟩ 1 1 [.int .i64 Z] rfl rfl (cells_new _ _ (by simp)) (by simp [Value.oneCell']) (by unfold maxLen; omega) (by omega) (by have := h.sz; simp; omega) ?_; intro v10 v10w hown10 hg10 hnil10 hat10; obtain ⟨g10, cp10, rfl⟩ := ownsRow_succ hown10; have fz10 : v10w.frozen? ⟨mb, 2, none⟩ = false := h.fz _ hg10 (row_nm h.wrd h.lt.1) 2; obtain ⟨e100, e101, e102, e103⟩ := h.cz _ hg10 (row_nm h.wrd h.lt.1))
  obtain ⟨h', hl'⟩ := h.put_x _ hown10 hg10 hat10
  have hL' := hL.trans hl'
  clear e100 e101 e102 e103 c0 c1 c2 c3 c4 c5 hown10 hg10 hnil10 hat10 hl' fz10 h hL
  have h := h'
  have hL := hL'
  clear h' hL'
  obtain ⟨Y10, hY⟩ : ∃ Y, Y = v10w.setCell ⟨mb, 2, none⟩ (.slice (some ⟨g10, 0, none⟩) (X.length + 1) cp10) := ⟨_, rfl⟩
  rw [← hY] at h hL ⊢
  clear hY v10w
  go_end0
  rw [HZ.out]
  exact ⟨rfl, _, _, _, _, h, hL⟩

end Go.Proofs.YtglfdclpjmhoiaaGreat
