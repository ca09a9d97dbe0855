/- Parts of the proof, one behind the other: Tq, Vp, Gp, Gq, Gs, VG, Kp. No condition but what each theorem states. -/
import Derived.Test.YtifcoalhkcflnaaGreatR4

/- Plain laws of layer 7: which tries may be; a trie read. -/

namespace Go.Proofs.YtifcoalhkcflnaaGreat
set_option linter.unusedVariables false

theorem whichL_neg {fold : Bool} {x : List Int} {acc : List (List Int)} : whichL fold x acc < 0 ↔ ∀ y ∈ acc, foldL fold y ≠ foldL fold x := by
  unfold whichL whichO
  cases e : acc.findIdx? (fun w => sameL fold x w) with
  | none =>
    rw [List.findIdx?_eq_none_iff] at e
    constructor
    · intro _ y hy h
      have := e y hy
      unfold sameL at this
      simp at this
      exact this h.symm
    · intro _; dsimp only; omega
  | some k =>
    constructor
    · intro h; dsimp only at h; omega
    · intro h
      obtain ⟨hk, h1, _⟩ := List.findIdx?_eq_some_iff_getElem.1 e
      unfold sameL at h1
      simp at h1
      exact absurd h1.symm (h _ (List.getElem_mem hk))
theorem makeL_spec (fold : Bool) (l : List (List Int)) : (makeL fold l).Nodup ∧ ∀ y ∈ makeL fold l, foldL fold y = y := by
  refine snoc_ind (P := fun l => (makeL fold l).Nodup ∧ ∀ y ∈ makeL fold l, foldL fold y = y) (by simp [makeL]) (fun l x ⟨h1, h2⟩ => ?_) l
  rw [makeL_snoc]
  unfold addW
  by_cases h : whichL fold x (makeL fold l) < 0
  · rw [if_pos h]
    have hn := whichL_neg.1 h
    refine ⟨?_, fun y hy => ?_⟩
    · rw [List.nodup_append]
      refine ⟨h1, by simp, fun a ha b hb e => ?_⟩
      simp at hb
      subst hb
      subst e
      exact hn _ ha (foldL_foldL _ _)
    · rcases List.mem_append.1 hy with hy | hy
      · exact h2 y hy
      · simp at hy; subst hy; exact foldL_foldL _ _
  · rw [if_neg h]; exact ⟨h1, h2⟩
theorem makeL_self : ∀ (l : List (List Int)), l.Nodup → makeL false l = l := by
  refine snoc_ind (P := fun l => l.Nodup → makeL false l = l) (by simp [makeL]) (fun l x ih h => ?_)
  rw [List.nodup_append] at h
  rw [makeL_snoc, ih h.1]
  unfold addW
  rw [if_pos (whichL_neg.2 fun y hy e => ?_)]
  · simp [foldL]
  · simp [foldL] at e
    exact h.2.2 y hy x (by simp) e
theorem right_spec {fold : Bool} {wss : List (List Int)} (h : rightP fold wss = true) : wss.length ≤ 64 ∧ wss ≠ [] ∧ (∀ x ∈ wss, x.length ≠ 0 ∧ x.length ≤ 32) ∧ bsum wss ≤ 600 ∧ nodesR fold wss ≤ 400 ∧ makeL fold wss = wss := by
  rw [right_eq] at h
  unfold rightR at h
  rw [Bool.and_eq_true] at h
  have h1 : checkR fold wss = 0 := of_decide_eq_true h.1
  have h2 : makeL fold wss = wss := of_decide_eq_true h.2
  unfold checkR at h1
  by_cases a1 : wss.length = 0
  · rw [if_pos a1] at h1; cases h1
  · rw [if_neg a1] at h1
    by_cases a2 : wss.length > 64
    · rw [if_pos a2] at h1; cases h1
    · rw [if_neg a2] at h1
      by_cases a3 : ∃ x ∈ wss, x.length = 0
      · rw [if_pos a3] at h1; cases h1
      · rw [if_neg a3] at h1
        by_cases a4 : ∃ x ∈ wss, x.length > 32
        · rw [if_pos a4] at h1; cases h1
        · rw [if_neg a4] at h1
          by_cases a5 : bsum wss > 600
          · rw [if_pos a5] at h1; cases h1
          · rw [if_neg a5] at h1
            by_cases a6 : nodesR fold wss > 400
            · rw [if_pos a6] at h1; cases h1
            · exact ⟨by omega, fun e => a1 (by rw [e]; rfl), fun x hx => ⟨fun e => a3 ⟨x, hx, e⟩, Nat.not_lt.1 fun e => a4 ⟨x, hx, e⟩⟩, by omega, by omega, h2⟩

theorem right_nodup {fold : Bool} {wss : List (List Int)} (h : rightP fold wss = true) : wss.Nodup ∧ ∀ w ∈ wss, foldL fold w = w := by
  have := makeL_spec fold wss
  rwa [(right_spec h).2.2.2.2.2] at this
/-- How many nodes there are. -/
theorem nodesL_count (fold : Bool) {wss : List (List Int)} (hf : ∀ w ∈ wss, foldL fold w = w) : ((nodesL wss).length : Int) = nodesR fold wss := by
  obtain ⟨h1, h2⟩ := count_eq fold wss
  have hp : (nodesL wss).Perm (prun (begL fold wss)).1 := by
    rw [List.perm_ext_iff_of_nodup (nodesL_srt wss).nodup (rep_run (begL fold wss)).nodup]
    intro x
    rw [mem_nodesL, h2, IsBeg.iff]
    unfold Begs
    constructor
    · rintro (h | ⟨h0, w, hw, hp⟩)
      · exact .inl h
      · exact .inr ⟨w, hw, by rw [hf w hw]; exact hp⟩
    · rintro (h | ⟨w, hw, hp⟩)
      · exact .inl h
      · by_cases e : x = []
        · exact .inl e
        · exact .inr ⟨e, w, hw, by rw [hf w hw] at hp; exact hp⟩
  rw [hp.length_eq]
  exact h1

theorem right_false {fold : Bool} {wss : List (List Int)} (h : rightP fold wss = true) : rightP false wss = true := by
  obtain ⟨h1, h2, h3, h4, h5, h6⟩ := right_spec h
  obtain ⟨g1, g2⟩ := right_nodup h
  have e1 : nodesR false wss = nodesR fold wss := by rw [← nodesL_count fold g2, ← nodesL_count false (fun w _ => by simp [foldL])]
  rw [right_eq]
  unfold rightR
  rw [Bool.and_eq_true]
  refine ⟨decide_eq_true ?_, decide_eq_true (makeL_self wss g1)⟩
  unfold checkR
  rw [if_neg (fun e => h2 (List.eq_nil_of_length_eq_zero e)), if_neg (by omega), if_neg (fun ⟨x, hx, e⟩ => (h3 x hx).1 e), if_neg (fun ⟨x, hx, e⟩ => by have := (h3 x hx).2; omega), if_neg (by omega), if_neg (by rw [e1]; omega)]

/-! ### a trie read -/
/-- The bytes of the first nodes. -/
def spTo (T : TrieT) : Nat → Option (List (List Int))
  | 0 => none
  | 1 => some [[]]
  | i + 2 => (spTo T (i + 1)).bind fun l => match T.up[i + 1]?, T.byt[i + 1]? with
    | some u, some c => if 0 ≤ u ∧ u < (i : Int) + 1 then (l[u.toNat]?).map fun p => l ++ [p ++ [c]] else none
    | _, _ => none
def spO (T : TrieT) : Option (List (List Int)) :=
  if 1 ≤ T.up.length ∧ T.up.length ≤ 400 ∧ T.byt.length = T.up.length ∧ T.dep.length = T.up.length ∧ T.wrd.length = T.up.length then spTo T T.up.length else none
theorem spTo_length {T : TrieT} : ∀ {i : Nat} {l : List (List Int)}, spTo T i = some l → l.length = i
  | 0, l, h => by cases h
  | 1, l, h => by simp [spTo] at h; simp [← h]
  | i + 2, l, h => by
    unfold spTo at h
    obtain ⟨l0, h0, h⟩ := Option.bind_eq_some_iff.1 h
    have ih := spTo_length h0
    split at h
    · split at h
      · obtain ⟨p, hp, rfl⟩ := Option.map_eq_some_iff.1 h
        simp [ih]
      · cases h
    · cases h
/-- What is numbered: of each word's number its node (0: none yet), how many. -/
def nuTo (T : TrieT) (n : Nat) : Nat → Option (List Int × Int)
  | 0 => some (List.replicate n 0, 0)
  | i + 1 => (nuTo T n i).bind fun s => match T.wrd[i]? with
    | some w => if w = -1 then some s else if w < 0 ∨ (n : Int) ≤ w ∨ i = 0 ∨ (s.1[w.toNat]?).getD 0 ≠ 0 then none else some (s.1.set w.toNat i, s.2 + 1)
    | none => none
def wdTo (sp : List (List Int)) (at_ : List Int) : Nat → Option (List (List Int))
  | 0 => some []
  | k + 1 => (wdTo sp at_ k).bind fun l => match at_[k]? with
    | some i => if i = 0 then none else (sp[i.toNat]?).map fun x => l ++ [x]
    | none => none
def nuO (T : TrieT) (sp : List (List Int)) : Option (List (List Int)) := (nuTo T sp.length T.wrd.length).bind fun s => wdTo sp s.1 s.2.toNat
def eqT (T U : TrieT) : Bool := decide (T.up = U.up) && decide (T.dep = U.dep) && decide (T.wrd = U.wrd) && decide (T.byt = U.byt)
theorem eqT_iff {T U : TrieT} : eqT T U = true ↔ T = U := by
  obtain ⟨a, b, c, d⟩ := T
  obtain ⟨a', b', c', d'⟩ := U
  simp [eqT, and_assoc]
def readP (T : TrieT) : Option (List (List Int) × List (List Int)) :=
  (spO T).bind fun sp => (nuO T sp).bind fun ws => if (rightP false ws && eqT (trieP ws) T) = true then some (sp, ws) else none

section
variable {ws : List (List Int)}
theorem foldL_false (w : List Int) : foldL false w = w := by simp [foldL]
theorem right_nodes (h : rightP false ws = true) : 1 ≤ (nodesL ws).length ∧ (nodesL ws).length ≤ 400 := by
  have h1 := (right_spec h).2.2.2.2.1
  have h2 := nodesL_count false (wss := ws) (fun w _ => foldL_false w)
  have h3 : (nodesL ws).length ≠ 0 := fun e => nodesL_ne ws (List.eq_nil_of_length_eq_zero e)
  omega
/-- The node above stands ahead. -/
theorem up_lt {i : Nat} {x : List Int} (h : (nodesL ws)[i]? = some x) (h0 : x ≠ []) : ∃ j, j < i ∧ (nodesL ws)[j]? = some x.dropLast ∧ placeS (nodesL ws) x.dropLast = j := by
  have hs := nodesL_srt ws
  have hm : x.dropLast ∈ nodesL ws := (mem_nodesL ws).2 ((mem_nodesL ws).1 (List.mem_of_getElem? h)).up
  obtain ⟨j, hj⟩ := List.getElem?_of_mem hm
  refine ⟨j, ?_, hj, placeS_at hs.nodup hj⟩
  have hlen : x.dropLast.length < x.length := by
    rw [List.length_dropLast]
    have : x.length ≠ 0 := fun e => h0 (List.eq_nil_of_length_eq_zero e)
    omega
  have hi' := (List.getElem?_eq_some_iff.1 h)
  have hj' := (List.getElem?_eq_some_iff.1 hj)
  rcases Nat.lt_or_ge j i with hlt | hge
  · exact hlt
  · exfalso
    rcases Nat.lt_or_ge i j with hlt | hge2
    · have hp := List.pairwise_iff_getElem.1 hs i j hi'.1 hj'.1 hlt
      rw [hi'.2, hj'.2] at hp
      have := ltS_len hp
      omega
    · have e : i = j := by omega
      subst e
      rw [h] at hj
      have := congrArg List.length (Option.some.inj hj)
      omega
theorem dropLast_lastB {x : List Int} (h : x ≠ []) : x.dropLast ++ [lastB x] = x := by
  unfold lastB
  rw [List.getLast?_eq_some_getLast h, Option.getD_some]
  exact List.dropLast_concat_getLast h
theorem nodes_ne {i : Nat} {x : List Int} (h : (nodesL ws)[i + 1]? = some x) : x ≠ [] := by
  intro e
  subst e
  have h0 := nodesL_head ws
  have hn := (nodesL_srt ws).nodup
  have := nodup_at hn h0 h
  omega
theorem spTo_trie : ∀ i, 1 ≤ i → i ≤ (nodesL ws).length → spTo (trieP ws) i = some ((nodesL ws).take i)
  | 0, h, _ => by omega
  | 1, _, _ => by
    have h0 := nodesL_head ws
    revert h0
    cases nodesL ws with
    | nil => intro h; cases h
    | cons a l => intro h; simp at h; simp [spTo, h]
  | i + 2, _, h => by
    have ih := spTo_trie (i + 1) (by omega) (by omega)
    obtain ⟨x, hx⟩ : ∃ x, (nodesL ws)[i + 1]? = some x := ⟨(nodesL ws)[i + 1]'(by omega), by simp⟩
    have h0 := nodes_ne hx
    obtain ⟨j, hj, hjx, hpl⟩ := up_lt hx h0
    unfold spTo
    rw [ih, Option.bind_some]
    have e1 : (trieP ws).up[i + 1]? = some (j : Int) := by simp [trieP, hx, hpl]
    have e2 : (trieP ws).byt[i + 1]? = some (lastB x) := by simp [trieP, hx]
    rw [e1, e2]
    dsimp only
    rw [if_pos ⟨by omega, by omega⟩, Int.toNat_natCast, List.getElem?_take, if_pos hj, hjx, Option.map_some, dropLast_lastB h0, take_step hx]
theorem spO_trie (h : rightP false ws = true) : spO (trieP ws) = some (nodesL ws) := by
  obtain ⟨h1, h2⟩ := right_nodes h
  unfold spO
  have e : (trieP ws).up.length = (nodesL ws).length := by simp [trieP]
  rw [if_pos ⟨by rw [e]; exact h1, by rw [e]; exact h2, by simp [trieP], by simp [trieP], by simp [trieP]⟩, e, spTo_trie _ h1 (Nat.le_refl _), List.take_length]

/-- The word's node, if it stands ahead of i. -/
def atW (ws : List (List Int)) (i w : Nat) : Int := match ws[w]? with
  | some x => if (nodesL ws).idxOf x < i then ((nodesL ws).idxOf x : Int) else 0
  | none => 0
theorem word_node {w : Nat} {x : List Int} (hx : ws[w]? = some x) (h0 : x ≠ []) : ∃ j, 1 ≤ j ∧ (nodesL ws)[j]? = some x ∧ (nodesL ws).idxOf x = j := by
  have hm : x ∈ nodesL ws := (mem_nodesL ws).2 (IsBeg.iff.2 (.inr ⟨h0, x, List.mem_of_getElem? hx, List.prefix_refl _⟩))
  obtain ⟨j, hj⟩ := List.getElem?_of_mem hm
  refine ⟨j, ?_, hj, ?_⟩
  · by_cases e : j = 0
    · subst e
      rw [nodesL_head] at hj
      exact absurd (Option.some.inj hj).symm h0
    · omega
  · have := List.Nodup.idxOf_getElem (nodesL_srt ws).nodup j (List.getElem?_eq_some_iff.1 hj).1
    rwa [(List.getElem?_eq_some_iff.1 hj).2] at this
/-- How many words' nodes stand ahead of i. -/
def manyW (ws : List (List Int)) (i : Nat) : Int := ((ws.filter fun x => decide ((nodesL ws).idxOf x < i)).length : Int)
theorem words_lt (h : rightP false ws = true) : ws.length < (nodesL ws).length := by
  obtain ⟨g1, _⟩ := right_nodup h
  have h3 := (right_spec h).2.2.1
  have hp : ([] :: ws).Nodup := by
    rw [List.nodup_cons]
    exact ⟨fun hm => (h3 _ hm).1 rfl, g1⟩
  have hs : ([] :: ws) ⊆ nodesL ws := fun x hx => by
    rw [mem_nodesL, IsBeg.iff]
    rcases List.mem_cons.1 hx with e | hx
    · exact .inl e
    · exact .inr ⟨fun e => by subst e; exact (h3 _ hx).1 rfl, x, hx, List.prefix_refl _⟩
  have := hp.length_le_of_subset hs
  rw [List.length_cons] at this
  omega
theorem atW_at {i w : Nat} (hw : w < ws.length) (h : rightP false ws = true) : ∃ j x, 1 ≤ j ∧ ws[w]? = some x ∧ (nodesL ws)[j]? = some x ∧ atW ws i w = if j < i then (j : Int) else 0 := by
  obtain ⟨x, hx⟩ : ∃ x, ws[w]? = some x := ⟨ws[w]'hw, by simp⟩
  have h3 := ((right_spec h).2.2.1 x (List.mem_of_getElem? hx)).1
  obtain ⟨j, hj, hjx, hid⟩ := word_node hx (fun e => h3 (by rw [e]; rfl))
  refine ⟨j, x, hj, hx, hjx, ?_⟩
  unfold atW
  rw [hx]
  dsimp only
  rw [hid]
theorem nuTo_trie (h : rightP false ws = true) : ∀ i, i ≤ (nodesL ws).length → nuTo (trieP ws) (nodesL ws).length i = some ((List.range (nodesL ws).length).map (fun w => atW ws i w), manyW ws i)
  | 0, _ => by
    unfold nuTo
    have e1 : (fun w => atW ws 0 w) = fun _ => 0 := by
      funext w
      unfold atW
      split <;> simp
    have e2 : manyW ws 0 = 0 := by simp [manyW]
    rw [e1, e2]
    simp [List.map_const']
  | i + 1, hi => by
    have ih := nuTo_trie h i (by omega)
    obtain ⟨g1, _⟩ := right_nodup h
    have hns := (nodesL_srt ws).nodup
    obtain ⟨x, hx⟩ : ∃ x, (nodesL ws)[i]? = some x := ⟨(nodesL ws)[i]'(by omega), by simp⟩
    have hidx : (nodesL ws).idxOf x = i := by
      have := List.Nodup.idxOf_getElem hns i (by omega)
      rwa [(List.getElem?_eq_some_iff.1 hx).2] at this
    unfold nuTo
    rw [ih, Option.bind_some]
    have ew : (trieP ws).wrd[i]? = some (placeS ws x) := by simp [trieP, hx]
    rw [ew]
    dsimp only
    have hidx2 : ∀ y ∈ ws, (nodesL ws).idxOf y = i → y = x := fun y hy e => by
      have hym : y ∈ nodesL ws := by
        rw [mem_nodesL, IsBeg.iff]
        exact .inr ⟨fun e => by subst e; exact ((right_spec h).2.2.1 _ hy).1 rfl, y, hy, List.prefix_refl _⟩
      have h1 := List.getElem_idxOf (List.idxOf_lt_length_of_mem hym)
      have h2 := (List.getElem?_eq_some_iff.1 hx).2
      rw [← h1, ← h2]
      congr 1
    by_cases hm : x ∈ ws
    · obtain ⟨w, hw⟩ := List.getElem?_of_mem hm
      have hwl := (List.getElem?_eq_some_iff.1 hw).1
      have hwn := words_lt h
      have hp := placeS_at g1 hw
      have hx0 : x ≠ [] := fun e => by subst e; exact ((right_spec h).2.2.1 _ hm).1 rfl
      have hi0 : i ≠ 0 := fun e => by
        subst e
        rw [nodesL_head] at hx
        exact hx0 (Option.some.inj hx).symm
      rw [hp, if_neg (by omega), Int.toNat_natCast]
      have ea : atW ws i w = 0 := by unfold atW; rw [hw]; dsimp only; rw [hidx, if_neg (by omega)]
      have eg : (((List.range (nodesL ws).length).map (fun w => atW ws i w))[w]?).getD 0 = 0 := by
        rw [List.getElem?_map, List.getElem?_range (by omega)]
        simpa using ea
      rw [if_neg (by rw [eg]; omega)]
      congr 1
      refine Prod.ext ?_ ?_
      · dsimp only
        apply List.ext_getElem?
        intro v
        rw [List.getElem?_set]
        by_cases e : w = v
        · subst e
          have hwn' : w < (nodesL ws).length := by omega
          have e1 : atW ws (i + 1) w = i := by unfold atW; rw [hw]; dsimp only; rw [hidx, if_pos (by omega)]
          simp [hwn', e1]
        · rw [if_neg e, List.getElem?_map, List.getElem?_map]
          by_cases hv : v < (nodesL ws).length
          · rw [List.getElem?_range hv]
            simp only [Option.map_some, Option.some.injEq]
            unfold atW
            cases ev : ws[v]? with
            | none => rfl
            | some y =>
              dsimp only
              have hne : (nodesL ws).idxOf y ≠ i := fun e2 => by
                have := hidx2 y (List.mem_of_getElem? ev) e2
                subst this
                exact e (nodup_at g1 hw ev)
              by_cases hlt : (nodesL ws).idxOf y < i
              · rw [if_pos hlt, if_pos (by omega)]
              · rw [if_neg hlt, if_neg (by omega)]
          · rw [List.getElem?_eq_none (by simpa using hv)]; rfl
      · dsimp only
        unfold manyW
        have key : ∀ (l : List (List Int)), l.Nodup → x ∈ l → (∀ y ∈ l, (nodesL ws).idxOf y = i → y = x) → (l.filter fun y => decide ((nodesL ws).idxOf y < i + 1)).length = (l.filter fun y => decide ((nodesL ws).idxOf y < i)).length + 1 := by
          intro l
          induction l with
          | nil => intro _ h; cases h
          | cons y l ihl =>
            intro hn hxm hu
            rw [List.nodup_cons] at hn
            by_cases e : y = x
            · subst e
              have hrest : ∀ z ∈ l, (decide ((nodesL ws).idxOf z < i + 1)) = decide ((nodesL ws).idxOf z < i) := fun z hz => by
                have hne : (nodesL ws).idxOf z ≠ i := fun e2 => by
                  have := hu z (by simp [hz]) e2
                  subst this
                  exact hn.1 hz
                rw [decide_eq_decide]; omega
              rw [List.filter_cons, List.filter_cons, if_pos (by rw [hidx]; simp), if_neg (by rw [hidx]; simp), List.length_cons, List.filter_congr hrest]
            · have hxl : x ∈ l := (List.mem_cons.1 hxm).resolve_left (fun e2 => e e2.symm)
              have hne : (nodesL ws).idxOf y ≠ i := fun e2 => e (hu y (by simp) e2)
              have ih2 := ihl hn.2 hxl (fun z hz => hu z (by simp [hz]))
              rw [List.filter_cons, List.filter_cons]
              by_cases hlt : (nodesL ws).idxOf y < i
              · rw [if_pos (by simp; omega), if_pos (by simpa using hlt), List.length_cons, List.length_cons, ih2]
              · rw [if_neg (by simp; omega), if_neg (by simpa using hlt), ih2]
        rw [key ws g1 hm hidx2]
        omega
    · rw [placeS_no hm, if_pos rfl]
      congr 1
      have hne : ∀ y ∈ ws, (nodesL ws).idxOf y ≠ i := fun y hy e => hm (hidx2 y hy e ▸ hy)
      refine Prod.ext ?_ ?_
      · dsimp only
        apply List.map_congr_left
        intro v _
        unfold atW
        cases ev : ws[v]? with
        | none => rfl
        | some y =>
          dsimp only
          have := hne y (List.mem_of_getElem? ev)
          by_cases hlt : (nodesL ws).idxOf y < i
          · rw [if_pos hlt, if_pos (by omega)]
          · rw [if_neg hlt, if_neg (by omega)]
      · dsimp only
        have ef : (ws.filter fun y => decide ((nodesL ws).idxOf y < i + 1)) = ws.filter fun y => decide ((nodesL ws).idxOf y < i) := List.filter_congr (fun y hy => by have := hne y hy; rw [decide_eq_decide]; omega)
        unfold manyW
        rw [ef]
theorem manyW_all (h : rightP false ws = true) : manyW ws (nodesL ws).length = ws.length := by
  unfold manyW
  rw [List.filter_eq_self.2]
  intro y hy
  have hym : y ∈ nodesL ws := by
    rw [mem_nodesL, IsBeg.iff]
    exact .inr ⟨fun e => by subst e; exact ((right_spec h).2.2.1 _ hy).1 rfl, y, hy, List.prefix_refl _⟩
  simpa using List.idxOf_lt_length_of_mem hym
theorem wdTo_trie (h : rightP false ws = true) : ∀ k, k ≤ ws.length → wdTo (nodesL ws) ((List.range (nodesL ws).length).map (fun w => atW ws (nodesL ws).length w)) k = some (ws.take k)
  | 0, _ => rfl
  | k + 1, hk => by
    have ih := wdTo_trie h k (by omega)
    obtain ⟨j, x, hj, hx, hjx, ha⟩ := atW_at (i := (nodesL ws).length) (w := k) (by omega) h
    have hjl := (List.getElem?_eq_some_iff.1 hjx).1
    rw [if_pos hjl] at ha
    unfold wdTo
    rw [ih, Option.bind_some, List.getElem?_map, List.getElem?_range (by have := words_lt h; omega)]
    simp only [Option.map_some, ha]
    rw [if_neg (by omega), Int.toNat_natCast, hjx, Option.map_some, take_step hx]
theorem nuO_trie (h : rightP false ws = true) : nuO (trieP ws) (nodesL ws) = some ws := by
  unfold nuO
  have e : (trieP ws).wrd.length = (nodesL ws).length := by simp [trieP]
  rw [e, nuTo_trie h _ (Nat.le_refl _), Option.bind_some]
  dsimp only
  rw [manyW_all h, Int.toNat_natCast, wdTo_trie h _ (Nat.le_refl _), List.take_length]
theorem readP_trie (h : rightP false ws = true) : readP (trieP ws) = some (nodesL ws, ws) := by
  unfold readP
  rw [spO_trie h, Option.bind_some, nuO_trie h, Option.bind_some, if_pos (by rw [h, eqT_iff.2 rfl]; rfl)]
end
/-- What is read of a trie: just what it is made of. -/
theorem readP_iff {T : TrieT} {sp ws : List (List Int)} : readP T = some (sp, ws) ↔ rightP false ws = true ∧ T = trieP ws ∧ sp = nodesL ws := by
  constructor
  · intro h
    unfold readP at h
    obtain ⟨sp0, h1, h⟩ := Option.bind_eq_some_iff.1 h
    obtain ⟨ws0, h2, h⟩ := Option.bind_eq_some_iff.1 h
    split at h
    · rename_i hc
      rw [Bool.and_eq_true] at hc
      have hc : rightP false ws0 = true ∧ T = trieP ws0 := ⟨hc.1, (eqT_iff.1 hc.2).symm⟩
      injection h with h
      injection h with e1 e2
      subst e1 e2
      refine ⟨hc.1, hc.2, ?_⟩
      rw [hc.2, spO_trie hc.1] at h1
      exact (Option.some.inj h1).symm
    · cases h
  · rintro ⟨h1, rfl, rfl⟩
    exact readP_trie h1

end Go.Proofs.YtifcoalhkcflnaaGreat

/- Plain laws of layer 7: what is found in a trie. -/

namespace Go.Proofs.YtifcoalhkcflnaaGreat
set_option linter.unusedVariables false

/-- The node of a text's bytes. -/
def findP (sp : List (List Int)) (b : List Int) : Int × Bool := if b ∈ sp then ((sp.idxOf b : Int), true) else (0, false)
theorem findP_at {sp : List (List Int)} (hn : sp.Nodup) {i : Nat} {b : List Int} (h : sp[i]? = some b) : findP sp b = ((i : Int), true) := by
  unfold findP
  rw [if_pos (List.mem_of_getElem? h)]
  have := placeS_at hn h
  unfold placeS at this
  rw [if_pos (List.mem_of_getElem? h)] at this
  rw [this]
theorem findP_no {sp : List (List Int)} {b : List Int} (h : b ∉ sp) : findP sp b = (0, false) := by unfold findP; rw [if_neg h]
/-- A kid of a node, by a byte. -/
def IsKid (T : TrieT) (node c : Int) (k : Nat) : Prop := 1 ≤ k ∧ k < T.up.length ∧ T.up[k]? = some node ∧ T.byt[k]? = some c
/-- What is told of kids. -/
def KidR (T : TrieT) (node c : Int) (r : Int) (ok : Bool) : Prop := (ok = true → ∃ k : Nat, r = k ∧ IsKid T node c k) ∧ (ok = false → r = 0 ∧ ∀ k, ¬ IsKid T node c k)

section
variable {ws : List (List Int)}
theorem trie_up {i : Nat} {x : List Int} (hx : (nodesL ws)[i]? = some x) (h0 : x ≠ []) : ∃ j : Nat, j < i ∧ (trieP ws).up[i]? = some (j : Int) ∧ (nodesL ws)[j]? = some x.dropLast := by
  obtain ⟨j, h1, h2, h3⟩ := up_lt hx h0
  exact ⟨j, h1, by simp [trieP, hx, h3], h2⟩
theorem trie_byt {i : Nat} {x : List Int} (hx : (nodesL ws)[i]? = some x) : (trieP ws).byt[i]? = some (lastB x) := by simp [trieP, hx]
theorem trie_dep {i : Nat} {x : List Int} (hx : (nodesL ws)[i]? = some x) : (trieP ws).dep[i]? = some (x.length : Int) := by simp [trieP, hx]
theorem trie_wrd {i : Nat} {x : List Int} (hx : (nodesL ws)[i]? = some x) : (trieP ws).wrd[i]? = some (placeS ws x) := by simp [trieP, hx]
theorem trie_lens : (trieP ws).up.length = (nodesL ws).length ∧ (trieP ws).dep.length = (nodesL ws).length ∧ (trieP ws).wrd.length = (nodesL ws).length ∧ (trieP ws).byt.length = (nodesL ws).length := by simp [trieP]
theorem trie_up0 : (trieP ws).up[0]? = some 0 := by
  have h := nodesL_head ws
  have hp : placeS (nodesL ws) [] = 0 := placeS_at (nodesL_srt ws).nodup h
  simp [trieP, h, hp]
theorem node_back {i : Nat} {x : List Int} (hi : 1 ≤ i) (hx : (nodesL ws)[i]? = some x) : x ≠ [] := by
  obtain ⟨j, rfl⟩ : ∃ j, i = j + 1 := ⟨i - 1, by omega⟩
  exact nodes_ne hx
theorem kid_unique {i k : Nat} {u c : Int} (h1 : IsKid (trieP ws) u c i) (h2 : IsKid (trieP ws) u c k) : i = k := by
  obtain ⟨i1, i2, i3, i4⟩ := h1
  obtain ⟨k1, k2, k3, k4⟩ := h2
  rw [trie_lens.1] at i2 k2
  obtain ⟨x, hx⟩ : ∃ x, (nodesL ws)[i]? = some x := ⟨(nodesL ws)[i], by simp⟩
  obtain ⟨y, hy⟩ : ∃ y, (nodesL ws)[k]? = some y := ⟨(nodesL ws)[k], by simp⟩
  have x0 := node_back i1 hx
  have y0 := node_back k1 hy
  obtain ⟨a, _, ha, hax⟩ := trie_up hx x0
  obtain ⟨b, _, hb, hby⟩ := trie_up hy y0
  rw [ha] at i3
  rw [hb] at k3
  have e1 : a = b := by
    have := Option.some.inj i3
    have := Option.some.inj k3
    omega
  subst e1
  rw [hax] at hby
  rw [trie_byt hx] at i4
  rw [trie_byt hy] at k4
  have e2 : lastB x = lastB y := by rw [Option.some.inj i4, Option.some.inj k4]
  have e3 : x = y := by rw [← dropLast_lastB x0, ← dropLast_lastB y0, e2, Option.some.inj hby]
  subst e3
  exact nodup_at (nodesL_srt ws).nodup hx hy
theorem kid_self {i : Nat} (hi : 1 ≤ i) (hn : i < (nodesL ws).length) {u c : Int} (hu : (trieP ws).up[i]? = some u) (hc : (trieP ws).byt[i]? = some c) {r : Int} {ok : Bool} (h : KidR (trieP ws) u c r ok) : ok = true ∧ r = i := by
  have hk : IsKid (trieP ws) u c i := ⟨hi, by rw [trie_lens.1]; exact hn, hu, hc⟩
  cases ok with
  | false => exact absurd hk ((h.2 rfl).2 i)
  | true =>
    obtain ⟨k, e, h2⟩ := h.1 rfl
    exact ⟨rfl, by rw [e, kid_unique h2 hk]⟩
theorem prefix_node {w x : List Int} (hw : w ∈ ws) (hp : x <+: w) : x ∈ nodesL ws := by
  rw [mem_nodesL, IsBeg.iff]
  by_cases e : x = []
  · exact .inl e
  · exact .inr ⟨e, w, hw, hp⟩
theorem node_prefix (hne : ws ≠ []) {x : List Int} (hx : x ∈ nodesL ws) : ∃ w ∈ ws, x <+: w := by
  rw [mem_nodesL, IsBeg.iff] at hx
  rcases hx with rfl | ⟨_, w, hw, hp⟩
  · obtain ⟨w, hw⟩ := List.exists_mem_of_ne_nil _ hne
    exact ⟨w, hw, List.nil_prefix⟩
  · exact ⟨w, hw, hp⟩
/-- A node that is no word has a kid. -/
theorem has_kid (hne : ws ≠ []) {i : Nat} {x : List Int} (hx : (nodesL ws)[i]? = some x) (hn : x ∉ ws) : ∃ j, 1 ≤ j ∧ j < (nodesL ws).length ∧ (trieP ws).up[j]? = some (i : Int) := by
  obtain ⟨w, hw, t, rfl⟩ := node_prefix hne (List.mem_of_getElem? hx)
  cases t with
  | nil => rw [List.append_nil] at hw; exact absurd hw hn
  | cons a t =>
    have hm : x ++ [a] ∈ nodesL ws := prefix_node hw ⟨t, by simp⟩
    obtain ⟨j, hj⟩ := List.getElem?_of_mem hm
    have h0 : x ++ [a] ≠ [] := by simp
    obtain ⟨b, _, hb, hbx⟩ := trie_up hj h0
    rw [List.dropLast_concat] at hbx
    have e := nodup_at (nodesL_srt ws).nodup hbx hx
    refine ⟨j, ?_, (List.getElem?_eq_some_iff.1 hj).1, by rw [hb, e]⟩
    cases j with
    | zero => rw [nodesL_head] at hj; exact absurd (Option.some.inj hj).symm h0
    | succ j => omega
/-- Nodes stand by length, of one length by bytes. -/
theorem node_lt {i : Nat} {x y : List Int} (hx : (nodesL ws)[i]? = some x) (hy : (nodesL ws)[i + 1]? = some y) : ltS x y = true := by
  have h1 := (List.getElem?_eq_some_iff.1 hx)
  have h2 := (List.getElem?_eq_some_iff.1 hy)
  have := List.pairwise_iff_getElem.1 (nodesL_srt ws) i (i + 1) h1.1 h2.1 (by omega)
  rw [h1.2, h2.2] at this
  exact this
theorem word_find (h : rightP false ws = true) {k : Nat} {x : List Int} (hx : ws[k]? = some x) : ∃ j : Nat, 1 ≤ j ∧ j < (nodesL ws).length ∧ findP (nodesL ws) x = ((j : Int), true) ∧ (trieP ws).wrd[j]? = some (k : Int) := by
  obtain ⟨h1, h2⟩ := right_nodup h
  have h3 := ((right_spec h).2.2.1 x (List.mem_of_getElem? hx)).1
  have hm := prefix_node (List.mem_of_getElem? hx) (List.prefix_refl x)
  obtain ⟨j, hj⟩ := List.getElem?_of_mem hm
  refine ⟨j, ?_, (List.getElem?_eq_some_iff.1 hj).1, findP_at (nodesL_srt ws).nodup hj, by rw [trie_wrd hj, placeS_at h1 hx]⟩
  cases j with
  | zero => rw [nodesL_head] at hj; obtain rfl := Option.some.inj hj; exact absurd rfl h3
  | succ j => omega
theorem nodes_two (h : rightP false ws = true) : 2 ≤ (nodesL ws).length := by
  obtain ⟨_, h2, _⟩ := right_spec h
  have := words_lt h
  have : ws.length ≠ 0 := fun e => h2 (List.eq_nil_of_length_eq_zero e)
  omega
theorem atL_prefix (w b : List Int) : atL false w (b.length : Int) b = true ↔ b <+: w := by
  unfold atL sameL
  rw [foldL_false, foldL_false, Bool.and_eq_true, decide_eq_true_iff, decide_eq_true_iff, List.prefix_iff_eq_take]
  constructor
  · rintro ⟨_, h⟩
    simpa using h.symm
  · intro h
    refine ⟨⟨by omega, ?_⟩, by simpa using h.symm⟩
    have := congrArg List.length h
    rw [List.length_take] at this
    omega
theorem begins_node (hne : ws ≠ []) (b : List Int) : (ws.any fun w => atL false w (b.length : Int) b) = decide (b ∈ nodesL ws) := by
  rw [Bool.eq_iff_iff, decide_eq_true_iff, List.any_eq_true]
  constructor
  · rintro ⟨w, hw, h⟩
    exact prefix_node hw ((atL_prefix w b).1 h)
  · intro h
    obtain ⟨w, hw, hp⟩ := node_prefix hne h
    exact ⟨w, hw, (atL_prefix w b).2 hp⟩
end

end Go.Proofs.YtifcoalhkcflnaaGreat

/- Plain words of layer 8: the longest end of a text that is a node; links, chains, steps. -/

namespace Go.Proofs.YtifcoalhkcflnaaGreat
set_option linter.unusedVariables false

/-- The longest end of a text that stands in a list. -/
def lsf (N : List (List Int)) : List Int → List Int
  | [] => []
  | a :: t => if (a :: t) ∈ N then a :: t else lsf N t
theorem lsf_suffix (N : List (List Int)) : ∀ b, lsf N b <:+ b
  | [] => List.suffix_refl _
  | a :: t => by
    unfold lsf
    split
    · exact List.suffix_refl _
    · exact (lsf_suffix N t).trans (List.suffix_cons a t)
theorem lsf_mem {N : List (List Int)} (h0 : [] ∈ N) : ∀ b, lsf N b ∈ N
  | [] => h0
  | a :: t => by
    unfold lsf
    split
    · assumption
    · exact lsf_mem h0 t
theorem lsf_max {N : List (List Int)} {y : List Int} (hy : y ∈ N) : ∀ {b}, y <:+ b → y.length ≤ (lsf N b).length
  | [], h => by rw [List.eq_nil_of_suffix_nil h]; exact Nat.zero_le _
  | a :: t, h => by
    unfold lsf
    split
    · exact h.length_le
    · rename_i hn
      rcases List.suffix_cons_iff.1 h with e | h
      · rw [e] at hy; exact absurd hy hn
      · exact lsf_max hy h
theorem lsf_of_mem {N : List (List Int)} {b : List Int} (h : b ∈ N) : lsf N b = b := by
  cases b with
  | nil => rfl
  | cons a t => unfold lsf; rw [if_pos h]
theorem suffix_eq {x y b : List Int} (hx : x <:+ b) (hy : y <:+ b) (h : x.length = y.length) : x = y := by
  obtain ⟨s, rfl⟩ := hx
  obtain ⟨t, ht⟩ := hy
  exact (List.append_inj_right' ht.symm (by omega))
theorem lsf_unique {N : List (List Int)} {b y : List Int} (hy : y ∈ N) (hs : y <:+ b) (h0 : [] ∈ N) (hm : ∀ z, z <:+ b → z ∈ N → z.length ≤ y.length) : lsf N b = y := by
  have h1 := lsf_max hy hs
  have h2 := hm _ (lsf_suffix N b) (lsf_mem h0 b)
  exact suffix_eq (lsf_suffix N b) hs (by omega)
/-- A list that has with a text all of its beginnings. -/
def Pre (N : List (List Int)) : Prop := [] ∈ N ∧ ∀ x c, x ++ [c] ∈ N → x ∈ N
theorem suffix_snoc {y b : List Int} {c : Int} (h : y <:+ b ++ [c]) : y = [] ∨ ∃ z, y = z ++ [c] ∧ z <:+ b := by
  by_cases e : y = []
  · exact .inl e
  · right
    obtain ⟨s, hs⟩ := h
    have h1 := List.dropLast_concat_getLast e
    rw [← h1, ← List.append_assoc] at hs
    obtain ⟨h2, h3⟩ := List.append_inj' hs rfl
    refine ⟨y.dropLast, ?_, s, h2⟩
    have h4 : y.getLast e = c := by simpa using h3
    rw [← h4, h1]
theorem lsf_step {N : List (List Int)} (hN : Pre N) (s : List Int) (c : Int) : lsf N (s ++ [c]) = lsf N (lsf N s ++ [c]) := by
  refine lsf_unique (lsf_mem hN.1 _) ?_ hN.1 (fun z hz hm => ?_)
  · refine (lsf_suffix N _).trans ?_
    obtain ⟨t, ht⟩ := lsf_suffix N s
    exact ⟨t, by rw [← List.append_assoc, ht]⟩
  · rcases suffix_snoc hz with rfl | ⟨y, rfl, hy⟩
    · exact Nat.zero_le _
    · have hyN := hN.2 _ _ hm
      have hle := lsf_max hyN hy
      refine lsf_max hm ?_
      obtain ⟨t, ht⟩ := List.suffix_of_suffix_length_le hy (lsf_suffix N s) hle
      exact ⟨t, by rw [← List.append_assoc, ht]⟩
/-- A node's link. -/
def linkL (N : List (List Int)) (x : List Int) : List Int := lsf N x.tail
/-- A node's chain. -/
def chainL (N : List (List Int)) : Nat → List Int → List (List Int)
  | 0, x => [x]
  | n + 1, x => if x = [] then [x] else x :: chainL N n (linkL N x)
theorem linkL_len {N : List (List Int)} {x : List Int} (h : x ≠ []) : (linkL N x).length < x.length := by
  have h1 := (lsf_suffix N x.tail).length_le
  have : x.length ≠ 0 := fun e => h (List.eq_nil_of_length_eq_zero e)
  rw [List.length_tail] at h1
  unfold linkL
  omega
theorem mem_chainL {N : List (List Int)} (h0 : [] ∈ N) : ∀ {n : Nat} {x y : List Int}, x ∈ N → x.length ≤ n → (y ∈ chainL N n x ↔ y <:+ x ∧ y ∈ N)
  | 0, x, y, hx, hn => by
    have : x = [] := List.eq_nil_of_length_eq_zero (by omega)
    subst this
    simp only [chainL, List.mem_singleton]
    constructor
    · rintro rfl; exact ⟨List.suffix_refl _, h0⟩
    · rintro ⟨h, _⟩; exact List.eq_nil_of_suffix_nil h
  | n + 1, x, y, hx, hn => by
    unfold chainL
    by_cases e : x = []
    · subst e
      rw [if_pos rfl, List.mem_singleton]
      constructor
      · rintro rfl; exact ⟨List.suffix_refl _, h0⟩
      · rintro ⟨h, _⟩; exact List.eq_nil_of_suffix_nil h
    · rw [if_neg e, List.mem_cons]
      have hl := linkL_len (N := N) e
      have ih := mem_chainL (N := N) h0 (n := n) (x := linkL N x) (y := y) (lsf_mem h0 _) (by omega)
      rw [ih]
      constructor
      · rintro (rfl | ⟨h1, h2⟩)
        · exact ⟨List.suffix_refl _, hx⟩
        · refine ⟨h1.trans ((lsf_suffix N x.tail).trans (List.tail_suffix x)), h2⟩
      · rintro ⟨h1, h2⟩
        by_cases e2 : y = x
        · exact .inl e2
        · right
          refine ⟨?_, h2⟩
          have hyt : y <:+ x.tail := by
            cases x with
            | nil => exact absurd rfl e
            | cons a t =>
              rcases List.suffix_cons_iff.1 h1 with e3 | h3
              · exact absurd e3 e2
              · exact h3
          exact List.suffix_of_suffix_length_le hyt (lsf_suffix N x.tail) (lsf_max h2 hyt)
theorem chainL_head (N : List (List Int)) (n : Nat) (x : List Int) : ∃ l, chainL N n x = x :: l := by
  cases n with
  | zero => exact ⟨[], rfl⟩
  | succ n =>
    unfold chainL
    split
    · exact ⟨[], rfl⟩
    · exact ⟨_, rfl⟩
theorem lsf_none {N : List (List Int)} {c : Int} (h : [c] ∉ N) : lsf N [c] = [] := by
  unfold lsf
  rw [if_neg h]
  rfl
/-- A step asks the chain: the first of its nodes that has a kid by the byte. -/
theorem step_chain {N : List (List Int)} (hN : Pre N) (c : Int) : ∀ {n : Nat} {x : List Int}, x ∈ N → x.length ≤ n →
    lsf N (x ++ [c]) = match (chainL N n x).find? (fun y => decide (y ++ [c] ∈ N)) with | some y => y ++ [c] | none => []
  | n, x, hx, hn => by
    by_cases hk : x ++ [c] ∈ N
    · rw [lsf_of_mem hk]
      obtain ⟨l, hl⟩ := chainL_head N n x
      rw [hl, List.find?_cons, decide_eq_true hk]
    · cases n with
      | zero =>
        have : x = [] := List.eq_nil_of_length_eq_zero (by omega)
        subst this
        have hk' : [c] ∉ N := hk
        show lsf N [c] = _
        rw [lsf_none hk']
        unfold chainL
        rw [List.find?_cons, decide_eq_false hk]
        rfl
      | succ n =>
        unfold chainL
        by_cases e : x = []
        · subst e
          have hk' : [c] ∉ N := hk
          show lsf N [c] = _
          rw [lsf_none hk', if_pos rfl, List.find?_cons, decide_eq_false hk]
          rfl
        · rw [if_neg e, List.find?_cons, decide_eq_false hk]
          dsimp only
          have ih := step_chain hN c (n := n) (x := linkL N x) (lsf_mem hN.1 _) (by have := linkL_len (N := N) e; omega)
          rw [← ih]
          unfold linkL
          rw [← lsf_step hN]
          cases x with
          | nil => exact absurd rfl e
          | cons a t =>
            have hk' : a :: (t ++ [c]) ∉ N := hk
            show lsf N (a :: (t ++ [c])) = lsf N (t ++ [c])
            conv => lhs; unfold lsf
            rw [if_neg hk']
theorem nodes_pre (ws : List (List Int)) : Pre (nodesL ws) :=
  ⟨(mem_nodesL ws).2 (.inl rfl), fun x c h => by
    have := ((mem_nodesL ws).1 h).up
    rw [List.dropLast_concat] at this
    exact (mem_nodesL ws).2 this⟩
/-- Chains grow shorter, the root is last. -/
theorem chainL_len (N : List (List Int)) : ∀ (n : Nat) (x : List Int), x.length ≤ n → (chainL N n x).Pairwise (fun a b => b.length < a.length) ∧ (∀ y ∈ chainL N n x, y.length ≤ x.length) ∧ (chainL N n x).head? = some x ∧ (chainL N n x).getLast? = some []
  | 0, x, hn => by
    have : x = [] := List.eq_nil_of_length_eq_zero (by omega)
    subst this
    simp [chainL]
  | n + 1, x, hn => by
    unfold chainL
    by_cases e : x = []
    · subst e; simp
    · rw [if_neg e]
      have hl := linkL_len (N := N) e
      obtain ⟨h1, h2, h3, h4⟩ := chainL_len N n (linkL N x) (by omega)
      refine ⟨List.pairwise_cons.2 ⟨fun y hy => by have := h2 y hy; omega, h1⟩, fun y hy => ?_, rfl, ?_⟩
      · rcases List.mem_cons.1 hy with rfl | hy
        · exact Nat.le_refl _
        · have := h2 y hy; omega
      · rw [List.getLast?_cons, h4]; rfl
theorem lsf_drop {N : List (List Int)} {M : Nat} (h0 : [] ∈ N) (hM : ∀ y ∈ N, y.length ≤ M) (b : List Int) : lsf N (b.drop (b.length - M)) = lsf N b := by
  symm
  refine lsf_unique (lsf_mem h0 _) ((lsf_suffix N _).trans (List.drop_suffix _ _)) h0 (fun z hz hm => ?_)
  refine lsf_max hm (List.suffix_of_suffix_length_le hz (List.drop_suffix _ _) ?_)
  have h1 := hM z hm
  have h2 := hz.length_le
  rw [List.length_drop]
  omega
theorem lsf_next {N : List (List Int)} {b : List Int} {k : Nat} (hk : k < b.length) (h : b.drop k ∉ N) : lsf N (b.drop k) = lsf N (b.drop (k + 1)) := by
  rw [List.drop_eq_getElem_cons hk] at h ⊢
  conv => lhs; unfold lsf
  rw [if_neg h]
theorem lsf_here {N : List (List Int)} {b : List Int} {k : Nat} (h : b.drop k ∈ N) : lsf N (b.drop k) = b.drop k := lsf_of_mem h
theorem lsf_end (N : List (List Int)) (b : List Int) {k : Nat} (hk : b.length ≤ k) : lsf N (b.drop k) = [] := by
  rw [List.drop_eq_nil_of_le hk]; rfl
/-- A shorter node stands ahead. -/
theorem idx_len {ws : List (List Int)} {i k : Nat} {x y : List Int} (hx : (nodesL ws)[i]? = some x) (hy : (nodesL ws)[k]? = some y) (h : y.length < x.length) : k < i := by
  have h1 := (List.getElem?_eq_some_iff.1 hx)
  have h2 := (List.getElem?_eq_some_iff.1 hy)
  rcases Nat.lt_trichotomy k i with hlt | rfl | hgt
  · exact hlt
  · rw [hx] at hy
    have := Option.some.inj hy
    rw [this] at h
    omega
  · have := List.pairwise_iff_getElem.1 (nodesL_srt ws) i k h1.1 h2.1 hgt
    rw [h1.2, h2.2] at this
    have := ltS_len this
    omega
/-- The number of a node's link. -/
def linkI (ws : List (List Int)) (x : List Int) : Int := placeS (nodesL ws) (linkL (nodesL ws) x)
def linksP (ws : List (List Int)) : List Int := (nodesL ws).map (linkI ws)
theorem linkI_at {ws : List (List Int)} (x : List Int) : ∃ k : Nat, linkI ws x = k ∧ (nodesL ws)[k]? = some (linkL (nodesL ws) x) := by
  have hm := lsf_mem (nodes_pre ws).1 x.tail
  obtain ⟨k, hk⟩ := List.getElem?_of_mem hm
  exact ⟨k, placeS_at (nodesL_srt ws).nodup hk, hk⟩
/-- A link by the link of the node above. -/
theorem link_up {ws : List (List Int)} {x : List Int} {c : Int} (h0 : x ≠ []) : linkL (nodesL ws) (x ++ [c]) = lsf (nodesL ws) (linkL (nodesL ws) x ++ [c]) := by
  unfold linkL
  rw [← lsf_step (nodes_pre ws)]
  cases x with
  | nil => exact absurd rfl h0
  | cons a t => rfl
theorem link_one {ws : List (List Int)} (c : Int) : linkL (nodesL ws) [c] = [] := rfl

end Go.Proofs.YtifcoalhkcflnaaGreat

/- Plain words of layer 9: the words of a node. -/

namespace Go.Proofs.YtifcoalhkcflnaaGreat
set_option linter.unusedVariables false

section
variable (N W : List (List Int))
/-- The next node that is a word, of those that end a node's bytes; none: the root. -/
def nextF : Nat → List Int → List Int
  | 0, _ => []
  | n + 1, x => if x = [] then [] else if linkL N x ∈ W then linkL N x else nextF n (linkL N x)
/-- The nodes of a node's words. -/
def endsF : Nat → List Int → List (List Int)
  | 0, _ => []
  | n + 1, x => if x = [] then [] else (if x ∈ W then [x] else []) ++ endsF n (nextF N W (n + 1) x)
theorem nextF_len : ∀ (n : Nat) (x : List Int), x ≠ [] → (nextF N W n x).length < x.length
  | 0, x, h => by
    have : x.length ≠ 0 := fun e => h (List.eq_nil_of_length_eq_zero e)
    unfold nextF
    simp
    omega
  | n + 1, x, h => by
    have hl := linkL_len (N := N) h
    unfold nextF
    rw [if_neg h]
    split
    · exact hl
    · by_cases e : linkL N x = []
      · rw [e] at hl ⊢
        cases n with
        | zero => exact hl
        | succ n => unfold nextF; rw [if_pos rfl]; exact hl
      · have := nextF_len n _ e
        omega
theorem nextF_nil (n : Nat) : nextF N W n [] = [] := by
  cases n with
  | zero => rfl
  | succ n => unfold nextF; rw [if_pos rfl]
theorem nextF_fuel : ∀ (n : Nat) (x : List Int), x.length ≤ n → nextF N W (n + 1) x = nextF N W n x
  | 0, x, h => by
    have : x = [] := List.eq_nil_of_length_eq_zero (by omega)
    subst this
    rw [nextF_nil, nextF_nil]
  | n + 1, x, h => by
    by_cases e : x = []
    · subst e; rw [nextF_nil, nextF_nil]
    · have hl := linkL_len (N := N) e
      have ih := nextF_fuel n (linkL N x) (by omega)
      unfold nextF
      rw [if_neg e, if_neg e, ih]
theorem endsF_nil (n : Nat) : endsF N W n [] = [] := by
  cases n with
  | zero => rfl
  | succ n => unfold endsF; rw [if_pos rfl]
theorem endsF_fuel : ∀ (n : Nat) (x : List Int), x.length ≤ n → endsF N W (n + 1) x = endsF N W n x
  | 0, x, h => by
    have : x = [] := List.eq_nil_of_length_eq_zero (by omega)
    subst this
    rw [endsF_nil, endsF_nil]
  | n + 1, x, h => by
    by_cases e : x = []
    · subst e; rw [endsF_nil, endsF_nil]
    · have hl := nextF_len N W (n + 1) x e
      have ih := endsF_fuel n (nextF N W (n + 1) x) (by omega)
      have hf := nextF_fuel N W (n + 1) x h
      unfold endsF
      rw [if_neg e, if_neg e, hf, ih]
theorem ends_tail (h0 : [] ∉ W) : ∀ (n : Nat) (x : List Int), x.length ≤ n → endsF N W n (nextF N W n x) = ((chainL N n x).tail).filter fun y => decide (y ∈ W)
  | 0, x, h => by
    have : x = [] := List.eq_nil_of_length_eq_zero (by omega)
    subst this
    rfl
  | n + 1, x, h => by
    by_cases e : x = []
    · subst e
      rw [nextF_nil, endsF_nil]
      unfold chainL
      rw [if_pos rfl]
      rfl
    · have hl := linkL_len (N := N) e
      have ih := ends_tail h0 n (linkL N x) (by omega)
      have hc : (chainL N (n + 1) x).tail = chainL N n (linkL N x) := by
        conv => lhs; unfold chainL
        rw [if_neg e]
        rfl
      rw [hc]
      obtain ⟨l, hd⟩ := chainL_head N n (linkL N x)
      rw [hd] at ih ⊢
      rw [List.tail_cons] at ih
      rw [List.filter_cons]
      have hnx : nextF N W (n + 1) x = if linkL N x ∈ W then linkL N x else nextF N W n (linkL N x) := by
        conv => lhs; unfold nextF
        rw [if_neg e]
      rw [hnx]
      by_cases hw : linkL N x ∈ W
      · rw [if_pos hw, if_pos (by simpa using hw), ← ih]
        have hne : linkL N x ≠ [] := fun e2 => h0 (e2 ▸ hw)
        conv => lhs; unfold endsF
        rw [if_neg hne, if_pos hw, nextF_fuel N W n _ (by omega)]
        rfl
      · rw [if_neg hw, if_neg (by simpa using hw), ← ih]
        refine endsF_fuel N W n _ ?_
        by_cases e2 : linkL N x = []
        · rw [e2, nextF_nil]; exact Nat.zero_le _
        · have := nextF_len N W n _ e2
          omega
/-- The nodes of a node's words are those of its chain that are words. -/
theorem ends_chain (h0 : [] ∉ W) (n : Nat) (x : List Int) (h : x.length ≤ n) : endsF N W n x = (chainL N n x).filter fun y => decide (y ∈ W) := by
  by_cases e : x = []
  · subst e
    rw [endsF_nil]
    obtain ⟨l, hd⟩ := chainL_head N n []
    cases n with
    | zero => simp [chainL, h0]
    | succ n => unfold chainL; simp [h0]
  · obtain ⟨m, rfl⟩ : ∃ m, n = m + 1 := ⟨n - 1, by have : x.length ≠ 0 := fun e2 => e (List.eq_nil_of_length_eq_zero e2); omega⟩
    have ht := ends_tail N W h0 (m + 1) x h
    obtain ⟨l, hd⟩ := chainL_head N (m + 1) x
    rw [hd] at ht ⊢
    rw [List.tail_cons] at ht
    rw [List.filter_cons, ← ht]
    have hl := nextF_len N W (m + 1) x e
    conv => lhs; unfold endsF
    rw [if_neg e, ← endsF_fuel N W m (nextF N W (m + 1) x) (by omega)]
    by_cases hw : x ∈ W
    · rw [if_pos hw, if_pos (by simpa using hw)]; rfl
    · rw [if_neg hw, if_neg (by simpa using hw)]; rfl
end

end Go.Proofs.YtifcoalhkcflnaaGreat

/- Plain laws of layer 8: what its statements ask of links, chains, steps. -/

namespace Go.Proofs.YtifcoalhkcflnaaGreat
set_option linter.unusedVariables false

/-- Does a text end with another one? -/
def endsB (b e : List Int) : Bool := decide (e.length ≤ b.length) && decide (b.drop (b.length - e.length) = e)
theorem endsB_iff {b e : List Int} : endsB b e = true ↔ e <:+ b := by
  unfold endsB
  rw [Bool.and_eq_true, decide_eq_true_iff, decide_eq_true_iff]
  constructor
  · rintro ⟨_, h⟩
    exact List.suffix_iff_eq_drop.2 h.symm
  · intro h
    exact ⟨h.length_le, (List.suffix_iff_eq_drop.1 h).symm⟩
section
variable {ws : List (List Int)}
/-- A link: it ends the node's bytes, stands ahead of it, and no other node that ends them is longer. -/
theorem link_law {i : Nat} {x : List Int} (hx : (nodesL ws)[i]? = some x) : ∃ (k : Nat) (y : List Int), linkI ws x = k ∧ (nodesL ws)[k]? = some y ∧ (i = 0 → k = 0) ∧ (0 < i → k < i) ∧ endsB x y = true ∧
    ∀ (j : Nat) (z : List Int), j ≠ i → (nodesL ws)[j]? = some z → endsB x z = true → z.length ≤ y.length := by
  obtain ⟨k, h1, h2⟩ := linkI_at (ws := ws) x
  refine ⟨k, _, h1, h2, fun e => ?_, fun hi => ?_, endsB_iff.2 ((lsf_suffix _ _).trans (List.tail_suffix x)), fun j z hj hz he => ?_⟩
  · subst e
    rw [nodesL_head] at hx
    obtain rfl := Option.some.inj hx
    exact nodup_at (nodesL_srt ws).nodup h2 (nodesL_head ws)
  · exact idx_len hx h2 (linkL_len (node_back hi hx))
  · have hs := endsB_iff.1 he
    refine lsf_max (List.mem_of_getElem? hz) ?_
    cases x with
    | nil =>
      rw [List.eq_nil_of_suffix_nil hs] at hz
      exact absurd (nodup_at (nodesL_srt ws).nodup hz hx) hj
    | cons a t =>
      rcases List.suffix_cons_iff.1 hs with e | h
      · subst e
        exact absurd (nodup_at (nodesL_srt ws).nodup hz hx) hj
      · exact h
/-- A chain has just the nodes that end the node's bytes. -/
theorem chain_count {x : List Int} (hx : x ∈ nodesL ws) {n : Nat} (hn : x.length ≤ n) : ((nodesL ws).filter fun y => endsB x y).length = (chainL (nodesL ws) n x).length := by
  refine List.Perm.length_eq ((List.perm_ext_iff_of_nodup ?_ ?_).2 fun y => ?_)
  · exact (nodesL_srt ws).nodup.filter _
  · have := (chainL_len (nodesL ws) n x hn).1
    rw [List.nodup_iff_pairwise_ne]
    exact this.imp fun h e => by rw [e] at h; omega
  · rw [List.mem_filter, endsB_iff, mem_chainL (nodes_pre ws).1 hx hn]
    exact ⟨fun h => ⟨h.2, h.1⟩, fun h => ⟨h.2, h.1⟩⟩
/-- The node of a text: the longest end of it that is a node. -/
theorem deep_law (b : List Int) (c : Int) : endsB (b ++ [c]) (lsf (nodesL ws) (b ++ [c])) = true ∧ (lsf (nodesL ws) (b ++ [c])).length ≤ (lsf (nodesL ws) b).length + 1 ∧ lsf (nodesL ws) (b ++ [c]) = lsf (nodesL ws) (lsf (nodesL ws) b ++ [c]) := by
  have h := lsf_step (nodes_pre ws) b c
  refine ⟨endsB_iff.2 (lsf_suffix _ _), ?_, h⟩
  rw [h]
  have := (lsf_suffix (nodesL ws) (lsf (nodesL ws) b ++ [c])).length_le
  rw [List.length_append, List.length_singleton] at this
  exact this
theorem deep_max {b z : List Int} (hz : z ∈ nodesL ws) (h : endsB b z = true) : z.length ≤ (lsf (nodesL ws) b).length := lsf_max hz (endsB_iff.1 h)
/-- Steps, one behind the other. -/
def goL (N : List (List Int)) (b : List Int) : List Int := b.foldl (fun x c => lsf N (x ++ [c])) []
theorem goL_snoc (N : List (List Int)) (b : List Int) (c : Int) : goL N (b ++ [c]) = lsf N (goL N b ++ [c]) := by simp [goL, List.foldl_append]
theorem goL_eq (b : List Int) : goL (nodesL ws) b = lsf (nodesL ws) b := by
  refine snoc_ind (P := fun b => goL (nodesL ws) b = lsf (nodesL ws) b) rfl (fun l c ih => ?_) b
  rw [goL_snoc, ih, ← lsf_step (nodes_pre ws)]
end

end Go.Proofs.YtifcoalhkcflnaaGreat

/- Plain laws of layer 7: the document's way of reading a trie. -/

namespace Go.Proofs.YtifcoalhkcflnaaGreat
set_option linter.unusedVariables false

/-- A node's bytes, by what is told above it: so many steps at most. -/
def spR (T : TrieT) : Nat → Int → List Int → List Int
  | 0, _, out => out
  | k + 1, node, out => if 0 < node ∧ node < (T.up.length : Int) ∧ node < (T.byt.length : Int) then spR T k ((T.up[node.toNat]?).getD 0) (((T.byt[node.toNat]?).getD 0) :: out) else out
def spellR (T : TrieT) (node : Int) : List Int := spR T 32 node []
def wordsFrom (T : TrieT) : Nat → Nat → List (List Int)
  | 0, _ => []
  | f + 1, w => match T.wrd.findIdx? (fun v => decide (v = (w : Int))) with
    | none => []
    | some i => spellR T i :: wordsFrom T f (w + 1)
def wordsR (T : TrieT) : List (List Int) := wordsFrom T 64 0
def rightR7 (T : TrieT) : Bool := decide (T.up.length ≤ 400 ∧ T.wrd.length ≤ 400) && (rightP false (wordsR T) && eqT (trieP (wordsR T)) T)
section
variable {ws : List (List Int)}
theorem spR_trie : ∀ (k : Nat) {j : Nat} {x out : List Int}, (nodesL ws)[j]? = some x → x.length ≤ k → spR (trieP ws) k (j : Int) out = x ++ out
  | 0, j, x, out, hx, hk => by
    have : x = [] := List.eq_nil_of_length_eq_zero (by omega)
    subst this
    rfl
  | k + 1, j, x, out, hx, hk => by
    by_cases h0 : x = []
    · subst h0
      have hj := nodup_at (nodesL_srt ws).nodup hx (nodesL_head ws)
      subst hj
      unfold spR
      rw [if_neg (fun h => by have := h.1; omega)]
      rfl
    · obtain ⟨i, hij, hup, hix⟩ := trie_up hx h0
      have hjl := (List.getElem?_eq_some_iff.1 hx).1
      obtain ⟨l1, l2, l3, l4⟩ := trie_lens (ws := ws)
      have hlen : x.dropLast.length ≤ k := by rw [List.length_dropLast]; omega
      unfold spR
      rw [if_pos ⟨by omega, by omega, by omega⟩, Int.toNat_natCast, hup, trie_byt hx, Option.getD_some, Option.getD_some, spR_trie k hix hlen]
      rw [← List.singleton_append, ← List.append_assoc, dropLast_lastB h0]
theorem node_len (h : rightP false ws = true) {j : Nat} {x : List Int} (hx : (nodesL ws)[j]? = some x) : x.length ≤ 32 := by
  obtain ⟨h1, h2, h3, _⟩ := right_spec h
  obtain ⟨w, hw, hp⟩ := node_prefix h2 (List.mem_of_getElem? hx)
  have := hp.length_le
  have := (h3 w hw).2
  omega
theorem spellR_trie (h : rightP false ws = true) {j : Nat} {x : List Int} (hx : (nodesL ws)[j]? = some x) : spellR (trieP ws) j = x := by
  unfold spellR
  rw [spR_trie 32 hx (node_len h hx), List.append_nil]
theorem wordsFrom_trie (h : rightP false ws = true) : ∀ (f w : Nat), ws.length ≤ w + f → wordsFrom (trieP ws) f w = ws.drop w
  | 0, w, hf => by rw [List.drop_eq_nil_of_le (by omega)]; rfl
  | f + 1, w, hf => by
    have hnd := (right_nodup h).1
    unfold wordsFrom
    by_cases hw : w < ws.length
    · obtain ⟨x, hx⟩ : ∃ x, ws[w]? = some x := ⟨ws[w], by simp [hw]⟩
      obtain ⟨j, j1, j2, j3, j4⟩ := word_find h hx
      cases e : (trieP ws).wrd.findIdx? (fun v => decide (v = (w : Int))) with
      | none =>
        rw [List.findIdx?_eq_none_iff] at e
        have := e _ (List.mem_of_getElem? j4)
        simp at this
      | some i =>
        obtain ⟨hi, h1, _⟩ := List.findIdx?_eq_some_iff_getElem.1 e
        have h1 := of_decide_eq_true h1
        have hil : i < (nodesL ws).length := by rw [← trie_lens.2.2.1]; exact hi
        obtain ⟨y, hy⟩ : ∃ y, (nodesL ws)[i]? = some y := ⟨(nodesL ws)[i], by simp [hil]⟩
        have hwy := trie_wrd hy
        rw [List.getElem?_eq_getElem hi, h1] at hwy
        have hpy := Option.some.inj hwy
        have hyx : y = x := by
          by_cases hm : y ∈ ws
          · obtain ⟨v, hv⟩ := List.getElem?_of_mem hm
            rw [placeS_at hnd hv] at hpy
            have : v = w := by omega
            subst this
            rw [hv] at hx
            exact Option.some.inj hx
          · rw [placeS_no hm] at hpy; omega
        subst hyx
        dsimp only
        rw [spellR_trie h hy, wordsFrom_trie h f (w + 1) (by omega)]
        rw [List.drop_eq_getElem_cons hw]
        congr 1
        rw [List.getElem?_eq_getElem hw] at hx
        exact (Option.some.inj hx).symm
    · have e : (trieP ws).wrd.findIdx? (fun v => decide (v = (w : Int))) = none := by
        rw [List.findIdx?_eq_none_iff]
        intro v hv
        obtain ⟨i, hi⟩ := List.getElem?_of_mem hv
        have hil := (List.getElem?_eq_some_iff.1 hi).1
        rw [trie_lens.2.2.1] at hil
        obtain ⟨y, hy⟩ : ∃ y, (nodesL ws)[i]? = some y := ⟨(nodesL ws)[i], by simp [hil]⟩
        rw [trie_wrd hy] at hi
        have hpy := Option.some.inj hi
        apply decide_eq_false
        intro e
        rw [e] at hpy
        by_cases hm : y ∈ ws
        · obtain ⟨u, hu⟩ := List.getElem?_of_mem hm
          rw [placeS_at hnd hu] at hpy
          have := (List.getElem?_eq_some_iff.1 hu).1
          omega
        · rw [placeS_no hm] at hpy; omega
      rw [e, List.drop_eq_nil_of_le (by omega)]
theorem wordsR_trie (h : rightP false ws = true) : wordsR (trieP ws) = ws := by
  unfold wordsR
  rw [wordsFrom_trie h 64 0 (by have := (right_spec h).1; omega), List.drop_zero]
end
/-- The document's trie that may be is the program's. -/
theorem rightR7_eq (T : TrieT) : rightR7 T = (readP T).isSome := by
  cases e : readP T with
  | some r =>
    obtain ⟨sp, ws⟩ := r
    obtain ⟨h1, rfl, rfl⟩ := readP_iff.1 e
    have hn := (right_nodes h1).2
    unfold rightR7
    rw [wordsR_trie h1, h1, eqT_iff.2 rfl, decide_eq_true ⟨by rw [trie_lens.1]; exact hn, by rw [trie_lens.2.2.1]; exact hn⟩]
    rfl
  | none =>
    cases h : rightR7 T with
    | false => rfl
    | true =>
      exfalso
      unfold rightR7 at h
      rw [Bool.and_eq_true, Bool.and_eq_true] at h
      have h2 := eqT_iff.1 h.2.2
      have h3 := readP_trie h.2.1
      rw [h2, e] at h3
      cases h3
theorem readR7 {T : TrieT} {sp ws : List (List Int)} (h : readP T = some (sp, ws)) : wordsR T = ws ∧ ∀ (j : Nat) (x : List Int), sp[j]? = some x → spellR T j = x := by
  obtain ⟨h1, rfl, rfl⟩ := readP_iff.1 h
  exact ⟨wordsR_trie h1, fun j x hx => spellR_trie h1 hx⟩
/-- A kid is the node of its bytes. -/
theorem kid_find {ws : List (List Int)} (h : rightP false ws = true) {j : Nat} {x : List Int} (hx : (nodesL ws)[j]? = some x) {c : Int} {r : Int} {ok : Bool} (hk : KidR (trieP ws) j c r ok) : findP (nodesL ws) (x ++ [c]) = (r, ok) := by
  have hnd := (nodesL_srt ws).nodup
  cases ok with
  | true =>
    obtain ⟨k, rfl, k1, k2, k3, k4⟩ := hk.1 rfl
    rw [trie_lens.1] at k2
    obtain ⟨y, hy⟩ : ∃ y, (nodesL ws)[k]? = some y := ⟨(nodesL ws)[k], by simp⟩
    have y0 := node_back k1 hy
    obtain ⟨i, _, hup, hix⟩ := trie_up hy y0
    rw [hup] at k3
    have e : i = j := by have := Option.some.inj k3; omega
    subst e
    rw [hx] at hix
    have e1 := Option.some.inj hix
    rw [trie_byt hy] at k4
    have e2 := Option.some.inj k4
    have : x ++ [c] = y := by rw [e1, ← e2, dropLast_lastB y0]
    rw [this]
    exact findP_at hnd hy
  | false =>
    obtain ⟨rfl, hno⟩ := hk.2 rfl
    refine findP_no (fun hm => ?_)
    obtain ⟨k, hk2⟩ := List.getElem?_of_mem hm
    have k0 : x ++ [c] ≠ [] := by simp
    obtain ⟨i, _, hup, hix⟩ := trie_up hk2 k0
    rw [List.dropLast_concat] at hix
    have e := nodup_at hnd hix hx
    subst e
    have hkl := (List.getElem?_eq_some_iff.1 hk2).1
    refine hno k ⟨?_, by rw [trie_lens.1]; exact hkl, hup, ?_⟩
    · cases k with
      | zero => rw [nodesL_head] at hk2; exact absurd (Option.some.inj hk2).symm k0
      | succ k => omega
    · rw [trie_byt hk2]; simp [lastB]
/-- Where the document puts a text in. -/
theorem putS_at : ∀ {l : List (List Int)} {b : List Int} {k : Nat}, k ≤ l.length → (∀ (i : Nat) (y : List Int), i < k → l[i]? = some y → ltS y b = true) → (∀ y, l[k]? = some y → ltS y b = false) → putS l b = if l[k]? = some b then l else l.take k ++ b :: l.drop k
  | [], b, k, hk, _, _ => by
    have : k = 0 := by simpa using hk
    subst this
    simp [putS]
  | y :: ys, b, 0, _, _, h2 => by
    have h := h2 y rfl
    unfold putS
    rw [if_neg (by rw [h]; simp)]
    by_cases e : y = b
    · rw [if_pos e, if_pos (by rw [e]; rfl)]
    · rw [if_neg e, if_neg (by simpa using e)]
      rfl
  | y :: ys, b, k + 1, hk, h1, h2 => by
    have h := h1 0 y (by omega) rfl
    have ih := putS_at (l := ys) (b := b) (k := k) (by simpa using hk) (fun i z hi hz => h1 (i + 1) z (by omega) (by simpa using hz)) (fun z hz => h2 z (by simpa using hz))
    unfold putS
    rw [if_pos h, ih]
    simp only [List.getElem?_cons_succ, List.take_succ_cons, List.drop_succ_cons]
    split
    · rfl
    · rfl
/-- A text lesser than another one of its length: by the first byte in which they differ. -/
theorem lexB_at : ∀ {x y : List Int} {i : Nat} {a b : Int}, x.take i = y.take i → x[i]? = some a → y[i]? = some b → a ≠ b → lexB x y = decide (a < b)
  | [], _, i, a, b, _, h, _, _ => by simp at h
  | _ :: _, [], i, a, b, _, _, h, _ => by simp at h
  | p :: x, q :: y, 0, a, b, _, ha, hb, hn => by
    simp at ha hb
    subst ha hb
    unfold lexB
    by_cases h : p < q
    · rw [if_pos h, decide_eq_true h]
    · rw [if_neg h, if_pos (by omega), decide_eq_false h]
  | p :: x, q :: y, i + 1, a, b, h, ha, hb, hn => by
    simp only [List.take_succ_cons, List.cons.injEq] at h
    obtain ⟨rfl, h⟩ := h
    have ih := lexB_at h (by simpa using ha) (by simpa using hb) hn
    unfold lexB
    rw [if_neg (by omega), if_neg (by omega)]
    exact ih
theorem ltS_eq_len {x y : List Int} (h : x.length = y.length) : ltS x y = lexB x y := by unfold ltS; rw [if_neg (by omega), if_neg (by omega)]
theorem ltS_ne_len {x y : List Int} (h : x.length ≠ y.length) : ltS x y = decide (x.length < y.length) := by
  unfold ltS
  by_cases e : x.length < y.length
  · rw [if_pos e, decide_eq_true e]
  · rw [if_neg e, if_pos (by omega), decide_eq_false e]
theorem placeS_first {l : List (List Int)} {b : List Int} {i : Nat} (h : l[i]? = some b) (hn : b ∉ l.take i) : placeS l b = i := by
  have hj := (List.getElem?_eq_some_iff.1 h)
  have hjl := hj.1
  unfold placeS
  rw [if_pos (List.mem_of_getElem? h)]
  have e : l = l.take i ++ b :: l.drop (i + 1) := by rw [← hj.2]; simp
  have : l.idxOf b = i := by
    rw [e, List.idxOf_append, if_neg hn, List.idxOf_cons_self, List.length_take]
    omega
  rw [this]

end Go.Proofs.YtifcoalhkcflnaaGreat

/- Links, chains and edges by numbers (layer 8): plain. -/


namespace Go.Proofs.YtifcoalhkcflnaaGreat
open Go Go.RowKit Go.Sort
set_option linter.unusedVariables false
set_option linter.unusedSimpArgs false

/-- The edges of the first nodes behind the root. -/
def edgeF (U B : List Int) : Nat → Int × Int → Option Int
  | 0, _ => none
  | j + 1, q => if q = ((U[j + 1]?).getD 0, (B[j + 1]?).getD 0) then some ((j : Int) + 1) else edgeF U B j q
theorem edgeF_some {U B : List Int} {q : Int × Int} {k : Int} : ∀ {j : Nat}, edgeF U B j q = some k → ∃ i : Nat, 1 ≤ i ∧ i ≤ j ∧ k = i ∧ q = ((U[i]?).getD 0, (B[i]?).getD 0)
  | 0, h => by simp [edgeF] at h
  | j + 1, h => by
    unfold edgeF at h
    split at h
    · rename_i hq
      exact ⟨j + 1, by omega, Nat.le_refl _, by have := Option.some.inj h; omega, hq⟩
    · obtain ⟨i, h1, h2, h3⟩ := edgeF_some h
      exact ⟨i, h1, by omega, h3⟩
theorem edgeF_none {U B : List Int} {q : Int × Int} : ∀ {j : Nat}, edgeF U B j q = none → ∀ i : Nat, 1 ≤ i → i ≤ j → q ≠ ((U[i]?).getD 0, (B[i]?).getD 0)
  | 0, h, i, h1, h2 => by omega
  | j + 1, h, i, h1, h2 => by
    unfold edgeF at h
    split at h
    · cases h
    · rename_i hq
      by_cases e : i = j + 1
      · subst e; exact hq
      · exact edgeF_none h i h1 (by omega)

section
variable {ws : List (List Int)}
theorem node_zero {i : Nat} {x : List Int} (hx : (nodesL ws)[i]? = some x) : i = 0 ↔ x = [] := by
  have h0 := nodesL_head ws
  constructor
  · rintro rfl
    rw [h0] at hx
    exact (Option.some.inj hx).symm
  · rintro rfl
    have h1 := placeS_at (nodesL_srt ws).nodup hx
    have h2 := placeS_at (nodesL_srt ws).nodup h0
    omega
theorem node_inj {i k : Nat} {x : List Int} (hi : (nodesL ws)[i]? = some x) (hk : (nodesL ws)[k]? = some x) : i = k := by
  have h1 := placeS_at (nodesL_srt ws).nodup hi
  have h2 := placeS_at (nodesL_srt ws).nodup hk
  omega
theorem trie_row {i : Nat} {y : List Int} (hy : (nodesL ws)[i]? = some y) : (trieP ws).up[i]? = some (placeS (nodesL ws) y.dropLast) ∧ (trieP ws).byt[i]? = some (lastB y) ∧ (trieP ws).dep[i]? = some (y.length : Int) ∧ (trieP ws).wrd[i]? = some (placeS ws y) := by
  simp [trieP, hy]
theorem up_mem {y : List Int} (hy : y ∈ nodesL ws) : y.dropLast ∈ nodesL ws := (mem_nodesL ws).2 ((mem_nodesL ws).1 hy).up
theorem snoc_last {y : List Int} (h : y ≠ []) : y = y.dropLast ++ [lastB y] := by
  obtain ⟨q, hq⟩ : ∃ q, y.length = q + 1 := ⟨y.length - 1, by have : y.length ≠ 0 := fun e => h (List.eq_nil_of_length_eq_zero e); omega⟩
  unfold lastB
  rw [List.getLast?_eq_some_getLast h]
  exact (List.dropLast_concat_getLast h).symm
/-- What the edges say: the node of the bytes and one more, if it is one. -/
theorem edge_is {z : Nat} {x : List Int} (hx : (nodesL ws)[z]? = some x) (c : Int) :
    edgeF (trieP ws).up (trieP ws).byt ((nodesL ws).length - 1) ((z : Int), c) = if x ++ [c] ∈ nodesL ws then some (placeS (nodesL ws) (x ++ [c])) else none := by
  have hnd := (nodesL_srt ws).nodup
  cases e : edgeF (trieP ws).up (trieP ws).byt ((nodesL ws).length - 1) ((z : Int), c) with
  | some k =>
    obtain ⟨i, h1, h2, rfl, hq⟩ := edgeF_some e
    obtain ⟨y, hy⟩ : ∃ y, (nodesL ws)[i]? = some y := ⟨(nodesL ws)[i]'(by omega), by simp⟩
    obtain ⟨u1, u2, _⟩ := trie_row hy
    rw [u1, u2] at hq
    simp only [Option.getD_some, Prod.mk.injEq] at hq
    have hy0 : y ≠ [] := fun e2 => by have := (node_zero hy).2 e2; omega
    obtain ⟨j, hj⟩ := List.getElem?_of_mem (up_mem (List.mem_of_getElem? hy))
    have hp := placeS_at hnd hj
    have hjz : j = z := by omega
    subst hjz
    rw [hx] at hj
    have hxy : x ++ [c] = y := by rw [Option.some.inj hj, hq.2]; exact (snoc_last hy0).symm
    rw [hxy, if_pos (List.mem_of_getElem? hy), placeS_at hnd hy]
  | none =>
    rw [if_neg]
    intro hm
    obtain ⟨i, hi⟩ := List.getElem?_of_mem hm
    have hil := (List.getElem?_eq_some_iff.1 hi).1
    have hi0 : i ≠ 0 := fun e2 => by have := (node_zero hi).1 e2; simp at this
    obtain ⟨u1, u2, _⟩ := trie_row hi
    refine edgeF_none e i (by omega) (by omega) ?_
    rw [u1, u2]
    simp only [Option.getD_some, Prod.mk.injEq, List.dropLast_concat]
    refine ⟨(placeS_at hnd hx).symm, ?_⟩
    simp [lastB]

/-- A node's chain, by numbers, over a row of links. -/
def chN (L : List Int) : Nat → Nat → List Nat
  | 0, z => [z]
  | f + 1, z => if z = 0 then [z] else z :: chN L f ((L[z]?).getD 0).toNat
/-- The first links are the nodes'. -/
def LinkOK (ws : List (List Int)) (L : List Int) (i : Nat) : Prop := ∀ (j : Nat) (x : List Int), j < i → (nodesL ws)[j]? = some x → L[j]? = some (linkI ws x)
theorem LinkOK.at_ {L : List Int} {i z : Nat} (h : LinkOK ws L i) {x : List Int} (hz : z < i) (hx : (nodesL ws)[z]? = some x) (h0 : z ≠ 0) : ∃ k : Nat, L[z]? = some (k : Int) ∧ k < z ∧ (nodesL ws)[k]? = some (linkL (nodesL ws) x) := by
  obtain ⟨k, h1, h2⟩ := linkI_at (ws := ws) x
  have hl := h z x hz hx
  rw [h1] at hl
  refine ⟨k, hl, idx_len hx h2 (linkL_len fun e => h0 ((node_zero hx).2 e)), h2⟩
theorem ch_chain {L : List Int} {i : Nat} (h : LinkOK ws L i) : ∀ {f g z : Nat} {x : List Int}, z < i → z ≤ f → (nodesL ws)[z]? = some x → x.length ≤ g → (chN L f z).map (fun k => (nodesL ws)[k]?) = (chainL (nodesL ws) g x).map some
  | 0, g, z, x, hz, hf, hx, hg => by
    obtain rfl : z = 0 := by omega
    have hx0 := (node_zero hx).1 rfl
    subst hx0
    cases g <;> simp [chN, chainL, hx]
  | f + 1, g, z, x, hz, hf, hx, hg => by
    unfold chN
    by_cases h0 : z = 0
    · subst h0
      have hx0 := (node_zero hx).1 rfl
      subst hx0
      cases g <;> simp [chainL, hx]
    · have hx0 : x ≠ [] := fun e => h0 ((node_zero hx).2 e)
      obtain ⟨k, h1, h2, h3⟩ := h.at_ hz hx h0
      obtain ⟨g', rfl⟩ : ∃ g', g = g' + 1 := ⟨g - 1, by have : x.length ≠ 0 := fun e => hx0 (List.eq_nil_of_length_eq_zero e); omega⟩
      unfold chainL
      rw [if_neg h0, if_neg hx0, h1, List.map_cons, List.map_cons, hx, Option.getD_some, Int.toNat_natCast, ch_chain (g := g') h (by omega) (by omega) h3 (by have := linkL_len (N := nodesL ws) hx0; omega)]
theorem ch_split {L : List Int} {i f g z0 : Nat} (h : LinkOK ws L i) {x : List Int} (hz : z0 < i) (hf : z0 ≤ f) (hx : (nodesL ws)[z0]? = some x) (hg : x.length ≤ g) {p : List Nat} {r : List Nat} (hs : chN L f z0 = p ++ r) :
    ∃ l1 l2, chainL (nodesL ws) g x = l1 ++ l2 ∧ p.map (fun k => (nodesL ws)[k]?) = l1.map some ∧ r.map (fun k => (nodesL ws)[k]?) = l2.map some := by
  have hc := ch_chain h hz hf hx hg
  rw [hs, List.map_append] at hc
  obtain ⟨l1, l2, h1, h2, h3⟩ := List.map_eq_append_iff.1 hc.symm
  exact ⟨l1, l2, h1, h2.symm, h3.symm⟩
theorem find_none {c : Int} {p : List Nat} {l1 : List (List Int)} (hp : p.map (fun k => (nodesL ws)[k]?) = l1.map some) (hn : ∀ y ∈ p, edgeF (trieP ws).up (trieP ws).byt ((nodesL ws).length - 1) ((y : Int), c) = none) : ∀ y ∈ l1, ¬ (y ++ [c] ∈ nodesL ws) := by
  intro y hy hm
  have : some y ∈ p.map (fun k => (nodesL ws)[k]?) := by rw [hp]; exact List.mem_map_of_mem hy
  obtain ⟨k, hk, hk2⟩ := List.mem_map.1 this
  have h1 := hn k hk
  rw [edge_is hk2, if_pos hm] at h1
  cases h1
/-- The step, where an edge is found. -/
theorem step_some {L : List Int} {i f z0 z : Nat} (h : LinkOK ws L i) {x : List Int} (hz : z0 < i) (hf : z0 ≤ f) (hx : (nodesL ws)[z0]? = some x) {p r : List Nat} {c k : Int} (hs : chN L f z0 = p ++ [z] ++ r)
    (hn : ∀ y ∈ p, edgeF (trieP ws).up (trieP ws).byt ((nodesL ws).length - 1) ((y : Int), c) = none) (hk : edgeF (trieP ws).up (trieP ws).byt ((nodesL ws).length - 1) ((z : Int), c) = some k) : k = placeS (nodesL ws) (lsf (nodesL ws) (x ++ [c])) := by
  obtain ⟨l0, l2, h1, h2, _⟩ := ch_split h hz hf hx (Nat.le_refl _) hs
  rw [List.map_append] at h2
  obtain ⟨l1, ly, rfl, h3, h4⟩ := List.map_eq_append_iff.1 h2.symm
  obtain ⟨y, rfl, hy⟩ : ∃ y, ly = [y] ∧ (nodesL ws)[z]? = some y := by
    cases ly with
    | nil => simp at h4
    | cons y t =>
      cases t with
      | nil => exact ⟨y, rfl, by simpa using h4.symm⟩
      | cons _ _ => simp at h4
  rw [edge_is hy] at hk
  have hm : y ++ [c] ∈ nodesL ws := by
    by_cases e : y ++ [c] ∈ nodesL ws
    · exact e
    · rw [if_neg e] at hk; cases hk
  rw [if_pos hm] at hk
  rw [step_chain (nodes_pre ws) c (List.mem_of_getElem? hx) (Nat.le_refl _), h1]
  have hf1 : l1.find? (fun y => decide (y ++ [c] ∈ nodesL ws)) = none := by
    rw [List.find?_eq_none]
    intro q hq
    simpa using find_none h3.symm hn q hq
  rw [List.append_assoc, List.find?_append, hf1]
  simp [hm]
  exact (Option.some.inj hk).symm
/-- .. where none is. -/
theorem step_none {L : List Int} {i f z0 : Nat} (h : LinkOK ws L i) {x : List Int} (hz : z0 < i) (hf : z0 ≤ f) (hx : (nodesL ws)[z0]? = some x) {c : Int}
    (hn : ∀ y ∈ chN L f z0, edgeF (trieP ws).up (trieP ws).byt ((nodesL ws).length - 1) ((y : Int), c) = none) : (0 : Int) = placeS (nodesL ws) (lsf (nodesL ws) (x ++ [c])) := by
  have hc := ch_chain h hz hf hx (Nat.le_refl _)
  rw [step_chain (nodes_pre ws) c (List.mem_of_getElem? hx) (Nat.le_refl _)]
  have hf1 : (chainL (nodesL ws) x.length x).find? (fun y => decide (y ++ [c] ∈ nodesL ws)) = none := by
    rw [List.find?_eq_none]
    intro q hq
    simpa using find_none hc hn q hq
  rw [hf1]
  have := placeS_at (nodesL_srt ws).nodup (nodesL_head ws)
  simp [this]
theorem linksP_at {j : Nat} {x : List Int} (hx : (nodesL ws)[j]? = some x) : (linksP ws)[j]? = some (linkI ws x) := by simp [linksP, hx]
theorem linksOK (ws : List (List Int)) (i : Nat) : LinkOK ws (linksP ws) i := fun j x _ hx => linksP_at hx
theorem linkI_up {j u : Nat} {x : List Int} (hx : (nodesL ws)[j]? = some x) (h0 : j ≠ 0) (hu : (trieP ws).up[j]? = some (u : Int)) :
    ∃ y, (nodesL ws)[u]? = some y ∧ u < j ∧ (trieP ws).byt[j]? = some (lastB x) ∧ x = y ++ [lastB x] ∧ (u = 0 → linkI ws x = 0) ∧ (u ≠ 0 → ∃ (k : Nat) (v : List Int), linkI ws y = k ∧ (nodesL ws)[k]? = some v ∧ linkI ws x = placeS (nodesL ws) (lsf (nodesL ws) (v ++ [lastB x]))) := by
  have hx0 : x ≠ [] := fun e => h0 ((node_zero hx).2 e)
  obtain ⟨u1, u2, _⟩ := trie_row hx
  obtain ⟨q, hq⟩ := List.getElem?_of_mem (up_mem (List.mem_of_getElem? hx))
  have hp := placeS_at (nodesL_srt ws).nodup hq
  rw [u1, hp] at hu
  obtain rfl : q = u := by have := Option.some.inj hu; omega
  have hxs := snoc_last hx0
  refine ⟨x.dropLast, hq, idx_len hx hq (by rw [List.length_dropLast]; have : x.length ≠ 0 := fun e => hx0 (List.eq_nil_of_length_eq_zero e); omega), u2, hxs, fun e => ?_, fun e => ?_⟩
  · have hd : x.dropLast = [] := (node_zero hq).1 e
    rw [hd] at hxs
    unfold linkI
    rw [hxs]
    show placeS (nodesL ws) (linkL (nodesL ws) ([] ++ [lastB x])) = 0
    rw [List.nil_append, link_one]
    exact placeS_at (nodesL_srt ws).nodup (nodesL_head ws)
  · have hd : x.dropLast ≠ [] := fun e2 => e ((node_zero hq).2 e2)
    obtain ⟨k, h1, h2⟩ := linkI_at (ws := ws) x.dropLast
    refine ⟨k, _, h1, h2, ?_⟩
    rw [← link_up hd, ← hxs]
    rfl
end

end Go.Proofs.YtifcoalhkcflnaaGreat
