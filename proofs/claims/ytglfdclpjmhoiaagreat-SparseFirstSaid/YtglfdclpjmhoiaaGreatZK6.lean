/- Parts of the proof, one behind the other: VG, Kp, V1, V3, V4, V5, Rw. No condition but what each theorem states. -/
import Derived.Deep.DrawnRows
import Derived.Deep.RegionHeld3
import Derived.RangeFuncWrites
import Derived.Test.YtglfdclpjmhoiaaGreatZK1
import Derived.Test.YtglfdclpjmhoiaaGreatZK5
set_option linter.unusedVariables false
set_option linter.unusedSimpArgs false

/- Plain laws of layer 7: the document's way of reading a trie. -/

namespace Go.Proofs.YtglfdclpjmhoiaaGreat

/-- A node's bytes, by what is told above it: so many steps at most. -/
def spR (T : TrieT) : Nat → Int → List Int → List Int
 | 0, _, out => out
 | k + 1, node, out => if 0 < node ∧ node < (T.up.length : Int) ∧ node < (T.byt.length : Int) then spR T k ((T.up[node.toNat]?).getD 0) (((T.byt[node.toNat]?).getD 0) :: out) else out
def spellR (T : TrieT) (node : Int) : List Int := spR T 32 node []
def wordsFrom (T : TrieT) : Nat → Nat → List (List Int)
 | 0, _ => []
 | f + 1, w => match T.wrd.findIdx? (fun v => decide (v = (w : Int))) with
  | none => []
  | some i => spellR T i :: wordsFrom T f (w + 1)
def wordsR (T : TrieT) : List (List Int) := wordsFrom T 64 0
def rightR7 (T : TrieT) : Bool := decide (T.up.length ≤ 400 ∧ T.wrd.length ≤ 400) && (rightP false (wordsR T) && eqT (trieP (wordsR T)) T)
section
variable {ws : List (List Int)}
theorem spR_trie : ∀ (k : Nat) {j : Nat} {x out : List Int}, (nodesL ws)[j]? = some x → x.length ≤ k → spR (trieP ws) k (j : Int) out = x ++ out
 | 0, j, x, out, hx, hk => by
  have : x = [] := List.eq_nil_of_length_eq_zero (by omega)
  subst this
  rfl
 | k + 1, j, x, out, hx, hk => by
  by_cases h0 : x = []
  ·
   subst h0
   have hj := nodup_at (nodesL_srt ws).nodup hx (nodesL_head ws)
   subst hj
   unfold spR
   rw [if_neg (fun h => by have := h.1; omega)]
   rfl
  ·
   obtain ⟨i, hij, hup, hix⟩ := trie_up hx h0
   have hjl := (List.getElem?_eq_some_iff.1 hx).1
   obtain ⟨l1, l2, l3, l4⟩ := trie_lens (ws := ws)
   have hlen : x.dropLast.length ≤ k := by rw [List.length_dropLast]; omega
   unfold spR
   rw [if_pos ⟨by omega, by omega, by omega⟩, Int.toNat_natCast, hup, trie_byt hx, Option.getD_some, Option.getD_some, spR_trie k hix hlen]
   rw [← List.singleton_append, ← List.append_assoc, dropLast_lastB h0]
theorem node_len (h : rightP false ws = true) {j : Nat} {x : List Int} (hx : (nodesL ws)[j]? = some x) : x.length ≤ 32 := by
 obtain ⟨h1, h2, h3, _⟩ := right_spec h
 obtain ⟨w, hw, hp⟩ := node_prefix h2 (List.mem_of_getElem? hx)
 have := hp.length_le
 have := (h3 w hw).2
 omega
theorem spellR_trie (h : rightP false ws = true) {j : Nat} {x : List Int} (hx : (nodesL ws)[j]? = some x) : spellR (trieP ws) j = x := by
 unfold spellR
 rw [spR_trie 32 hx (node_len h hx), List.append_nil]
theorem wordsFrom_trie (h : rightP false ws = true) : ∀ (f w : Nat), ws.length ≤ w + f → wordsFrom (trieP ws) f w = ws.drop w
 | 0, w, hf => by rw [List.drop_eq_nil_of_le (by omega)]; rfl
 | f + 1, w, hf => by
  have hnd := (right_nodup h).1
  unfold wordsFrom
  by_cases hw : w < ws.length
  ·
   obtain ⟨x, hx⟩ : ∃ x, ws[w]? = some x := ⟨ws[w], by simp [hw]⟩
   obtain ⟨j, j1, j2, j3, j4⟩ := word_find h hx
   cases e : (trieP ws).wrd.findIdx? (fun v => decide (v = (w : Int))) with
   | none =>
    rw [List.findIdx?_eq_none_iff] at e
    have := e _ (List.mem_of_getElem? j4)
    simp at this
   | some i =>
    obtain ⟨hi, h1, _⟩ := List.findIdx?_eq_some_iff_getElem.1 e
    have h1 := of_decide_eq_true h1
    have hil : i < (nodesL ws).length := by rw [← trie_lens.2.2.1]; exact hi
    obtain ⟨y, hy⟩ : ∃ y, (nodesL ws)[i]? = some y := ⟨(nodesL ws)[i], by simp [hil]⟩
    have hwy := trie_wrd hy
    rw [List.getElem?_eq_getElem hi, h1] at hwy
    have hpy := Option.some.inj hwy
    have hyx : y = x := by
     by_cases hm : y ∈ ws
     ·
      obtain ⟨v, hv⟩ := List.getElem?_of_mem hm
      rw [placeS_at hnd hv] at hpy
      have : v = w := by omega
      subst this
      rw [hv] at hx
      exact Option.some.inj hx
     · rw [placeS_no hm] at hpy; omega
    subst hyx
    dsimp only
    rw [spellR_trie h hy, wordsFrom_trie h f (w + 1) (by omega)]
    rw [List.drop_eq_getElem_cons hw]
    congr 1
    rw [List.getElem?_eq_getElem hw] at hx
    exact (Option.some.inj hx).symm
  ·
   have e : (trieP ws).wrd.findIdx? (fun v => decide (v = (w : Int))) = none := by
    rw [List.findIdx?_eq_none_iff]
    intro v hv
    obtain ⟨i, hi⟩ := List.getElem?_of_mem hv
    have hil := (List.getElem?_eq_some_iff.1 hi).1
    rw [trie_lens.2.2.1] at hil
    obtain ⟨y, hy⟩ : ∃ y, (nodesL ws)[i]? = some y := ⟨(nodesL ws)[i], by simp [hil]⟩
    rw [trie_wrd hy] at hi
    have hpy := Option.some.inj hi
    apply decide_eq_false
    intro e
    rw [e] at hpy
    by_cases hm : y ∈ ws
    ·
     obtain ⟨u, hu⟩ := List.getElem?_of_mem hm
     rw [placeS_at hnd hu] at hpy
     have := (List.getElem?_eq_some_iff.1 hu).1
     omega
    · rw [placeS_no hm] at hpy; omega
   rw [e, List.drop_eq_nil_of_le (by omega)]
theorem wordsR_trie (h : rightP false ws = true) : wordsR (trieP ws) = ws := by
 unfold wordsR
 rw [wordsFrom_trie h 64 0 (by have := (right_spec h).1; omega), List.drop_zero]
end
/-- The document's trie that may be is the program's. -/
theorem rightR7_eq (T : TrieT) : rightR7 T = (readP T).isSome := by
 cases e : readP T with
 | some r =>
  obtain ⟨sp, ws⟩ := r
  obtain ⟨h1, rfl, rfl⟩ := readP_iff.1 e
  have hn := (right_nodes h1).2
  unfold rightR7
  rw [wordsR_trie h1, h1, eqT_iff.2 rfl, decide_eq_true ⟨by rw [trie_lens.1]; exact hn, by rw [trie_lens.2.2.1]; exact hn⟩]
  rfl
 | none =>
  cases h : rightR7 T with
  | false => rfl
  | true =>
   exfalso
   unfold rightR7 at h
   rw [Bool.and_eq_true, Bool.and_eq_true] at h
   have h2 := eqT_iff.1 h.2.2
   have h3 := readP_trie h.2.1
   rw [h2, e] at h3
   cases h3
theorem readR7 {T : TrieT} {sp ws : List (List Int)} (h : readP T = some (sp, ws)) : wordsR T = ws ∧ ∀ (j : Nat) (x : List Int), sp[j]? = some x → spellR T j = x := by
 obtain ⟨h1, rfl, rfl⟩ := readP_iff.1 h
 exact ⟨wordsR_trie h1, fun j x hx => spellR_trie h1 hx⟩
/-- Where the document puts a text in. -/
theorem putS_at : ∀ {l : List (List Int)} {b : List Int} {k : Nat}, k ≤ l.length → (∀ (i : Nat) (y : List Int), i < k → l[i]? = some y → ltS y b = true) → (∀ y, l[k]? = some y → ltS y b = false) → putS l b = if l[k]? = some b then l else l.take k ++ b :: l.drop k
 | [], b, k, hk, _, _ => by
  have : k = 0 := by simpa using hk
  subst this
  simp [putS]
 | y :: ys, b, 0, _, _, h2 => by
  have h := h2 y rfl
  unfold putS
  rw [if_neg (by rw [h]; simp)]
  by_cases e : y = b
  · rw [if_pos e, if_pos (by rw [e]; rfl)]
  ·
   rw [if_neg e, if_neg (by simpa using e)]
   rfl
 | y :: ys, b, k + 1, hk, h1, h2 => by
  have h := h1 0 y (by omega) rfl
  have ih := putS_at (l := ys) (b := b) (k := k) (by simpa using hk) (fun i z hi hz => h1 (i + 1) z (by omega) (by simpa using hz)) (fun z hz => h2 z (by simpa using hz))
  unfold putS
  rw [if_pos h, ih]
  simp only [List.getElem?_cons_succ, List.take_succ_cons, List.drop_succ_cons]
  split
  · rfl
  · rfl
/-- A text lesser than another one of its length: by the first byte in which they differ. -/
theorem lexB_at : ∀ {x y : List Int} {i : Nat} {a b : Int}, x.take i = y.take i → x[i]? = some a → y[i]? = some b → a ≠ b → lexB x y = decide (a < b)
 | [], _, i, a, b, _, h, _, _ => by simp at h
 | _ :: _, [], i, a, b, _, _, h, _ => by simp at h
 | p :: x, q :: y, 0, a, b, _, ha, hb, hn => by
  simp at ha hb
  subst ha hb
  unfold lexB
  by_cases h : p < q
  · rw [if_pos h, decide_eq_true h]
  · rw [if_neg h, if_pos (by omega), decide_eq_false h]
 | p :: x, q :: y, i + 1, a, b, h, ha, hb, hn => by
  simp only [List.take_succ_cons, List.cons.injEq] at h
  obtain ⟨rfl, h⟩ := h
  have ih := lexB_at h (by simpa using ha) (by simpa using hb) hn
  unfold lexB
  rw [if_neg (by omega), if_neg (by omega)]
  exact ih
theorem ltS_eq_len {x y : List Int} (h : x.length = y.length) : ltS x y = lexB x y := by unfold ltS; rw [if_neg (by omega), if_neg (by omega)]
theorem ltS_ne_len {x y : List Int} (h : x.length ≠ y.length) : ltS x y = decide (x.length < y.length) := by
 unfold ltS
 by_cases e : x.length < y.length
 · rw [if_pos e, decide_eq_true e]
 · rw [if_neg e, if_pos (by omega), decide_eq_false e]
theorem placeS_first {l : List (List Int)} {b : List Int} {i : Nat} (h : l[i]? = some b) (hn : b ∉ l.take i) : placeS l b = i := by
 have hj := (List.getElem?_eq_some_iff.1 h)
 have hjl := hj.1
 unfold placeS
 rw [if_pos (List.mem_of_getElem? h)]
 have e : l = l.take i ++ b :: l.drop (i + 1) := by rw [← hj.2]; simp
 have : l.idxOf b = i := by
  rw [e, List.idxOf_append, if_neg hn, List.idxOf_cons_self, List.length_take]
  omega
 rw [this]

end Go.Proofs.YtglfdclpjmhoiaaGreat

/- Links, chains and edges by numbers (layer 8): plain. -/

namespace Go.Proofs.YtglfdclpjmhoiaaGreat
open Go Go.RowKit Go.Sort

/-- The edges of the first nodes behind the root. -/
def edgeF (U B : List Int) : Nat → Int × Int → Option Int
 | 0, _ => none
 | j + 1, q => if q = ((U[j + 1]?).getD 0, (B[j + 1]?).getD 0) then some ((j : Int) + 1) else edgeF U B j q
theorem edgeF_some {U B : List Int} {q : Int × Int} {k : Int} : ∀ {j : Nat}, edgeF U B j q = some k → ∃ i : Nat, 1 ≤ i ∧ i ≤ j ∧ k = i ∧ q = ((U[i]?).getD 0, (B[i]?).getD 0)
 | 0, h => by simp [edgeF] at h
 | j + 1, h => by
  unfold edgeF at h
  split at h
  ·
   rename_i hq
   exact ⟨j + 1, by omega, Nat.le_refl _, by have := Option.some.inj h; omega, hq⟩
  ·
   obtain ⟨i, h1, h2, h3⟩ := edgeF_some h
   exact ⟨i, h1, by omega, h3⟩
theorem edgeF_none {U B : List Int} {q : Int × Int} : ∀ {j : Nat}, edgeF U B j q = none → ∀ i : Nat, 1 ≤ i → i ≤ j → q ≠ ((U[i]?).getD 0, (B[i]?).getD 0)
 | 0, h, i, h1, h2 => by omega
 | j + 1, h, i, h1, h2 => by
  unfold edgeF at h
  split at h
  · cases h
  ·
   rename_i hq
   by_cases e : i = j + 1
   · subst e; exact hq
   · exact edgeF_none h i h1 (by omega)

section
variable {ws : List (List Int)}
theorem node_zero {i : Nat} {x : List Int} (hx : (nodesL ws)[i]? = some x) : i = 0 ↔ x = [] := by
 have h0 := nodesL_head ws
 constructor
 ·
  rintro rfl
  rw [h0] at hx
  exact (Option.some.inj hx).symm
 ·
  rintro rfl
  have h1 := placeS_at (nodesL_srt ws).nodup hx
  have h2 := placeS_at (nodesL_srt ws).nodup h0
  omega
theorem trie_row {i : Nat} {y : List Int} (hy : (nodesL ws)[i]? = some y) : (trieP ws).up[i]? = some (placeS (nodesL ws) y.dropLast) ∧ (trieP ws).byt[i]? = some (lastB y) ∧ (trieP ws).dep[i]? = some (y.length : Int) ∧ (trieP ws).wrd[i]? = some (placeS ws y) := by
 simp [trieP, hy]
theorem up_mem {y : List Int} (hy : y ∈ nodesL ws) : y.dropLast ∈ nodesL ws := (mem_nodesL ws).2 ((mem_nodesL ws).1 hy).up
theorem snoc_last {y : List Int} (h : y ≠ []) : y = y.dropLast ++ [lastB y] := by
 obtain ⟨q, hq⟩ : ∃ q, y.length = q + 1 := ⟨y.length - 1, by have : y.length ≠ 0 := fun e => h (List.eq_nil_of_length_eq_zero e); omega⟩
 unfold lastB
 rw [List.getLast?_eq_some_getLast h]
 exact (List.dropLast_concat_getLast h).symm
/-- What the edges say: the node of the bytes and one more, if it is one. -/
theorem edge_is {z : Nat} {x : List Int} (hx : (nodesL ws)[z]? = some x) (c : Int) :
  edgeF (trieP ws).up (trieP ws).byt ((nodesL ws).length - 1) ((z : Int), c) = if x ++ [c] ∈ nodesL ws then some (placeS (nodesL ws) (x ++ [c])) else none := by
 have hnd := (nodesL_srt ws).nodup
 cases e : edgeF (trieP ws).up (trieP ws).byt ((nodesL ws).length - 1) ((z : Int), c) with
 | some k =>
  obtain ⟨i, h1, h2, rfl, hq⟩ := edgeF_some e
  obtain ⟨y, hy⟩ : ∃ y, (nodesL ws)[i]? = some y := ⟨(nodesL ws)[i]'(by omega), by simp⟩
  obtain ⟨u1, u2, _⟩ := trie_row hy
  rw [u1, u2] at hq
  simp only [Option.getD_some, Prod.mk.injEq] at hq
  have hy0 : y ≠ [] := fun e2 => by have := (node_zero hy).2 e2; omega
  obtain ⟨j, hj⟩ := List.getElem?_of_mem (up_mem (List.mem_of_getElem? hy))
  have hp := placeS_at hnd hj
  have hjz : j = z := by omega
  subst hjz
  rw [hx] at hj
  have hxy : x ++ [c] = y := by rw [Option.some.inj hj, hq.2]; exact (snoc_last hy0).symm
  rw [hxy, if_pos (List.mem_of_getElem? hy), placeS_at hnd hy]
 | none =>
  rw [if_neg]
  intro hm
  obtain ⟨i, hi⟩ := List.getElem?_of_mem hm
  have hil := (List.getElem?_eq_some_iff.1 hi).1
  have hi0 : i ≠ 0 := fun e2 => by have := (node_zero hi).1 e2; simp at this
  obtain ⟨u1, u2, _⟩ := trie_row hi
  refine edgeF_none e i (by omega) (by omega) ?_
  rw [u1, u2]
  simp only [Option.getD_some, Prod.mk.injEq, List.dropLast_concat]
  refine ⟨(placeS_at hnd hx).symm, ?_⟩
  simp [lastB]

/-- A node's chain, by numbers, over a row of links. -/
def chN (L : List Int) : Nat → Nat → List Nat
 | 0, z => [z]
 | f + 1, z => if z = 0 then [z] else z :: chN L f ((L[z]?).getD 0).toNat
/-- The first links are the nodes'. -/
def LinkOK (ws : List (List Int)) (L : List Int) (i : Nat) : Prop := ∀ (j : Nat) (x : List Int), j < i → (nodesL ws)[j]? = some x → L[j]? = some (linkI ws x)
theorem LinkOK.at_ {L : List Int} {i z : Nat} (h : LinkOK ws L i) {x : List Int} (hz : z < i) (hx : (nodesL ws)[z]? = some x) (h0 : z ≠ 0) : ∃ k : Nat, L[z]? = some (k : Int) ∧ k < z ∧ (nodesL ws)[k]? = some (linkL (nodesL ws) x) := by
 obtain ⟨k, h1, h2⟩ := linkI_at (ws := ws) x
 have hl := h z x hz hx
 rw [h1] at hl
 refine ⟨k, hl, idx_len hx h2 (linkL_len fun e => h0 ((node_zero hx).2 e)), h2⟩
theorem ch_chain {L : List Int} {i : Nat} (h : LinkOK ws L i) : ∀ {f g z : Nat} {x : List Int}, z < i → z ≤ f → (nodesL ws)[z]? = some x → x.length ≤ g → (chN L f z).map (fun k => (nodesL ws)[k]?) = (chainL (nodesL ws) g x).map some
 | 0, g, z, x, hz, hf, hx, hg => by
  obtain rfl : z = 0 := by omega
  have hx0 := (node_zero hx).1 rfl
  subst hx0
  cases g <;> simp [chN, chainL, hx]
 | f + 1, g, z, x, hz, hf, hx, hg => by
  unfold chN
  by_cases h0 : z = 0
  ·
   subst h0
   have hx0 := (node_zero hx).1 rfl
   subst hx0
   cases g <;> simp [chainL, hx]
  ·
   have hx0 : x ≠ [] := fun e => h0 ((node_zero hx).2 e)
   obtain ⟨k, h1, h2, h3⟩ := h.at_ hz hx h0
   obtain ⟨g', rfl⟩ : ∃ g', g = g' + 1 := ⟨g - 1, by have : x.length ≠ 0 := fun e => hx0 (List.eq_nil_of_length_eq_zero e); omega⟩
   unfold chainL
   rw [if_neg h0, if_neg hx0, h1, List.map_cons, List.map_cons, hx, Option.getD_some, Int.toNat_natCast, ch_chain (g := g') h (by omega) (by omega) h3 (by have := linkL_len (N := nodesL ws) hx0; omega)]
theorem ch_split {L : List Int} {i f g z0 : Nat} (h : LinkOK ws L i) {x : List Int} (hz : z0 < i) (hf : z0 ≤ f) (hx : (nodesL ws)[z0]? = some x) (hg : x.length ≤ g) {p : List Nat} {r : List Nat} (hs : chN L f z0 = p ++ r) :
  ∃ l1 l2, chainL (nodesL ws) g x = l1 ++ l2 ∧ p.map (fun k => (nodesL ws)[k]?) = l1.map some ∧ r.map (fun k => (nodesL ws)[k]?) = l2.map some := by
 have hc := ch_chain h hz hf hx hg
 rw [hs, List.map_append] at hc
 obtain ⟨l1, l2, h1, h2, h3⟩ := List.map_eq_append_iff.1 hc.symm
 exact ⟨l1, l2, h1, h2.symm, h3.symm⟩
theorem find_none {c : Int} {p : List Nat} {l1 : List (List Int)} (hp : p.map (fun k => (nodesL ws)[k]?) = l1.map some) (hn : ∀ y ∈ p, edgeF (trieP ws).up (trieP ws).byt ((nodesL ws).length - 1) ((y : Int), c) = none) : ∀ y ∈ l1, ¬ (y ++ [c] ∈ nodesL ws) := by
 intro y hy hm
 have : some y ∈ p.map (fun k => (nodesL ws)[k]?) := by rw [hp]; exact List.mem_map_of_mem hy
 obtain ⟨k, hk, hk2⟩ := List.mem_map.1 this
 have h1 := hn k hk
 rw [edge_is hk2, if_pos hm] at h1
 cases h1
/-- The step, where an edge is found. -/
theorem step_some {L : List Int} {i f z0 z : Nat} (h : LinkOK ws L i) {x : List Int} (hz : z0 < i) (hf : z0 ≤ f) (hx : (nodesL ws)[z0]? = some x) {p r : List Nat} {c k : Int} (hs : chN L f z0 = p ++ [z] ++ r)
  (hn : ∀ y ∈ p, edgeF (trieP ws).up (trieP ws).byt ((nodesL ws).length - 1) ((y : Int), c) = none) (hk : edgeF (trieP ws).up (trieP ws).byt ((nodesL ws).length - 1) ((z : Int), c) = some k) : k = placeS (nodesL ws) (lsf (nodesL ws) (x ++ [c])) := by
 obtain ⟨l0, l2, h1, h2, _⟩ := ch_split h hz hf hx (Nat.le_refl _) hs
 rw [List.map_append] at h2
 obtain ⟨l1, ly, rfl, h3, h4⟩ := List.map_eq_append_iff.1 h2.symm
 obtain ⟨y, rfl, hy⟩ : ∃ y, ly = [y] ∧ (nodesL ws)[z]? = some y := by
  cases ly with
  | nil => simp at h4
  | cons y t =>
   cases t with
   | nil => exact ⟨y, rfl, by simpa using h4.symm⟩
   | cons _ _ => simp at h4
 rw [edge_is hy] at hk
 have hm : y ++ [c] ∈ nodesL ws := by
  by_cases e : y ++ [c] ∈ nodesL ws
  · exact e
  · rw [if_neg e] at hk; cases hk
 rw [if_pos hm] at hk
 rw [step_chain (nodes_pre ws) c (List.mem_of_getElem? hx) (Nat.le_refl _), h1]
 have hf1 : l1.find? (fun y => decide (y ++ [c] ∈ nodesL ws)) = none := by
  rw [List.find?_eq_none]
  intro q hq
  simpa using find_none h3.symm hn q hq
 rw [List.append_assoc, List.find?_append, hf1]
 simp [hm]
 exact (Option.some.inj hk).symm
/-- .. where none is. -/
theorem step_none {L : List Int} {i f z0 : Nat} (h : LinkOK ws L i) {x : List Int} (hz : z0 < i) (hf : z0 ≤ f) (hx : (nodesL ws)[z0]? = some x) {c : Int}
  (hn : ∀ y ∈ chN L f z0, edgeF (trieP ws).up (trieP ws).byt ((nodesL ws).length - 1) ((y : Int), c) = none) : (0 : Int) = placeS (nodesL ws) (lsf (nodesL ws) (x ++ [c])) := by
 have hc := ch_chain h hz hf hx (Nat.le_refl _)
 rw [step_chain (nodes_pre ws) c (List.mem_of_getElem? hx) (Nat.le_refl _)]
 have hf1 : (chainL (nodesL ws) x.length x).find? (fun y => decide (y ++ [c] ∈ nodesL ws)) = none := by
  rw [List.find?_eq_none]
  intro q hq
  simpa using find_none hc hn q hq
 rw [hf1]
 have := placeS_at (nodesL_srt ws).nodup (nodesL_head ws)
 simp [this]
theorem linksP_at {j : Nat} {x : List Int} (hx : (nodesL ws)[j]? = some x) : (linksP ws)[j]? = some (linkI ws x) := by simp [linksP, hx]
theorem linksOK (ws : List (List Int)) (i : Nat) : LinkOK ws (linksP ws) i := fun j x _ hx => linksP_at hx
theorem linkI_up {j u : Nat} {x : List Int} (hx : (nodesL ws)[j]? = some x) (h0 : j ≠ 0) (hu : (trieP ws).up[j]? = some (u : Int)) :
  ∃ y, (nodesL ws)[u]? = some y ∧ u < j ∧ (trieP ws).byt[j]? = some (lastB x) ∧ x = y ++ [lastB x] ∧ (u = 0 → linkI ws x = 0) ∧ (u ≠ 0 → ∃ (k : Nat) (v : List Int), linkI ws y = k ∧ (nodesL ws)[k]? = some v ∧ linkI ws x = placeS (nodesL ws) (lsf (nodesL ws) (v ++ [lastB x]))) := by
 have hx0 : x ≠ [] := fun e => h0 ((node_zero hx).2 e)
 obtain ⟨u1, u2, _⟩ := trie_row hx
 obtain ⟨q, hq⟩ := List.getElem?_of_mem (up_mem (List.mem_of_getElem? hx))
 have hp := placeS_at (nodesL_srt ws).nodup hq
 rw [u1, hp] at hu
 obtain rfl : q = u := by have := Option.some.inj hu; omega
 have hxs := snoc_last hx0
 refine ⟨x.dropLast, hq, idx_len hx hq (by rw [List.length_dropLast]; have : x.length ≠ 0 := fun e => hx0 (List.eq_nil_of_length_eq_zero e); omega), u2, hxs, fun e => ?_, fun e => ?_⟩
 ·
  have hd : x.dropLast = [] := (node_zero hq).1 e
  rw [hd] at hxs
  unfold linkI
  rw [hxs]
  show placeS (nodesL ws) (linkL (nodesL ws) ([] ++ [lastB x])) = 0
  rw [List.nil_append, link_one]
  exact placeS_at (nodesL_srt ws).nodup (nodesL_head ws)
 ·
  have hd : x.dropLast ≠ [] := fun e2 => e ((node_zero hq).2 e2)
  obtain ⟨k, h1, h2⟩ := linkI_at (ws := ws) x.dropLast
  refine ⟨k, _, h1, h2, ?_⟩
  rw [← link_up hd, ← hxs]
  rfl
end

end Go.Proofs.YtglfdclpjmhoiaaGreat

/- The bytes of a trie's nodes (layer 7): walked. -/

namespace Go.Proofs.YtglfdclpjmhoiaaGreat
open Go.RowKit Go.Sort

abbrev Sv := Option Addr × Nat × Nat
abbrev svV (v : Sv) : Value := .slice v.1 v.2.1 v.2.2
/-- Rows that a call lays one by one into a block of its own: the first ones are laid, the others are nil. -/
structure RowsAt (g n : Nat) (l : List (List Int)) (W : World) : Prop where
 ex : ∃ vs : List Sv, W.heap[g]? = some (.cells (vs.map svV).toArray 25 (0, 0)) ∧ vs.length = n ∧ l.length ≤ n ∧ ∀ (i : Nat) (v : Sv) (x : List Int), vs[i]? = some v → l[i]? = some x → Bys W v.1 v.2.1 x ∧ v.2.1 ≤ v.2.2

theorem sl_info : (Tryz.prog.info? 25).map (fun i => (i.zero, i.size, i.bytes)) = some (some (.slice none 0 0), 1, 24) := by kernel_rfl
def rowsNil (n : Nat) : Array Value := Array.replicate n (.slice none 0 0)
theorem made_nil (n : Nat) : madeCells (Value.slice none 0 0).cells n = rowsNil n := by
 apply Array.ext
 · simp [madeCells, rowsNil]
 ·
  intro i h1 h2
  simp [madeCells, rowsNil, Value.cells, Nat.mod_one]
theorem spTo_none {T : TrieT} {i : Nat} (hi : 1 ≤ i) (h : spTo T i = none) : ∀ k, i ≤ k → spTo T k = none := by
 intro k hk
 obtain ⟨d, rfl⟩ : ∃ d, k = i + d := ⟨k - i, by omega⟩
 clear hk
 induction d with
 | zero => exact h
 | succ d ih =>
  obtain ⟨j, hj⟩ : ∃ j, i + d = j + 1 := ⟨i + d - 1, by omega⟩
  rw [show i + (d + 1) = j + 2 by omega]
  unfold spTo
  rw [← hj, ih]
  rfl

theorem Bys.setSl {w : World} {a : Option Addr} {n : Nat} {x : List Int} (h : Bys w a n x) {g i : Nat} {vs : List Sv} {t : TypeId} (hg : w.heap[g]? = some (.cells (vs.map svV).toArray t (0, 0))) (u : Value) : Bys (w.setCell ⟨g, i, none⟩ u) a n x := by
 refine ⟨⟨h.1.1, ?_⟩, h.2⟩
 rcases h.1.2 with h0 | ⟨b, off, e, hlt, hc⟩
 · exact .inl h0
 ·
  by_cases hn : x = []
  · left; have := h.1.1; rw [hn] at this; simpa using this.symm
  ·
   refine .inr ⟨b, off, e, by simpa [World.setCell] using hlt, fun j y hy => ?_⟩
   have hbg : g ≠ b := by
    rintro rfl
    have hj := hc j y hy
    rw [cell_of_row w g (off + j) _ _ _ hg] at hj
    simp only [List.getElem?_toArray, List.getElem?_map, Option.map_eq_some_iff] at hj
    obtain ⟨v, _, hv⟩ := hj
    cases hv
   rw [World.cell?_setCell_far _ _ _ _ hbg]
   exact hc j y hy

theorem RowsAt.step {g n i : Nat} {l : List (List Int)} {W W2 : World} (hR : RowsAt g n l W) (hl : l.length = i) (hi : i < n) (hB : Below W.heap.size W W2) {a : Option Addr} {m c : Nat} {x : List Int} (hx : Bys W2 a m x) (hm : m ≤ c) :
  RowsAt g n (l ++ [x]) (W2.setCell ⟨g, i, none⟩ (.slice a m c)) := by
 obtain ⟨vs, hvs, hvl, hll, hrow⟩ := hR.ex
 have h2 : W2.heap[g]? = _ := (hB.block g (Array.getElem?_eq_some_iff.1 hvs).1).trans hvs
 refine ⟨vs.set i (a, m, c), ?_, by simp [hvl], by simp; omega, fun j v y hv hy => ?_⟩
 ·
  have := set_at (i := i) h2 (.slice a m c)
  simpa [List.map_set, svV] using this
 ·
  by_cases hj : j = i
  ·
   subst hj
   rw [List.getElem?_set_self (by omega)] at hv
   obtain rfl := Option.some.inj hv
   rw [← hl, List.getElem?_concat_length] at hy
   obtain rfl := Option.some.inj hy
   exact ⟨hx.setSl h2 _, hm⟩
  ·
   rw [List.getElem?_set_ne (Ne.symm hj)] at hv
   have hjl := (List.getElem?_eq_some_iff.1 hy).1
   rw [List.getElem?_append_left (by simp at hjl; omega)] at hy
   obtain ⟨h3, h4⟩ := hrow j v y hv hy
   exact ⟨(h3.below hB).setSl h2 _, h4⟩

theorem spTo_lt {T : TrieT} : ∀ {i : Nat} {l : List (List Int)}, spTo T i = some l → ∀ x ∈ l, x.length < i
 | 0, l, h => by simp [spTo] at h
 | 1, l, h => by simp [spTo] at h; subst h; simp
 | i + 2, l, h => by
  unfold spTo at h
  obtain ⟨l0, h0, h1⟩ := Option.bind_eq_some_iff.1 h
  have ih := spTo_lt h0
  split at h1
  ·
   split at h1
   ·
    obtain ⟨p, hp, rfl⟩ := Option.map_eq_some_iff.1 h1
    intro x hx
    rcases List.mem_append.1 hx with hx | hx
    · have := ih x hx; omega
    ·
     rw [List.mem_singleton] at hx
     subst hx
     have := ih p (List.mem_of_getElem? hp)
     simp
     omega
   · cases h1
  · cases h1
/-- append of a slice that came in, nil or not, at a step of a region that draws its order. -/
theorem step_append_sl1 {P : Program} {w : World} {ops : Array Oper} {o : Oper} {a : Act} {K : Act → World → Prop} {Q : Exit → Act → World → Prop} {E : Prop} (hgd : o.guard = none) (s x : Operand) (t : TypeId)
  (ho : o.op = .call { callee := .builtin .append, args := #[s, x], argTypes := #[t, t] }) {α : Type} {enc : α → Value} (hone : ∀ x, (enc x).oneCell' = true)
  (base : Nat) (e : TypeId) (i : TypeInfo) (z : Value) (bytes : Nat) (ht : P.underlying t = some (.slice e)) (hi : P.info? e = some i) (hz : i.zero = some z) (hsize : i.size = 1) (hby : i.bytes = bytes) (hzs : z.cells.size = 1)
  (v : Value) (n : Nat) (xs : List Value) (hs : a.eval s = v) (hown : w.ownsRow base e 1 v n xs) (A : Option Addr) (m c : Nat) (ys : List α) (hx : a.eval x = .slice A m c) (hsl : Sl1 enc w A m ys)
  (h63 : n + m ≤ maxLen) (hbytes : (n + m) * bytes ≤ 140737488355328) (hbase : base ≤ w.heap.size)
  (h : ∀ v' w', w'.ownsRow base e 1 v' (n + m) (xs ++ ys.map enc) → w.grownBy w' v.ownBlock → (v'.ownBlock = v.ownBlock ∨ v'.ownBlock = some w.heap.size) → K (a.put o.dst v') w') :
  if Region.wanted o (yielded ops a.tmps) = true then Oper.wp P o a w K Q else E := by
 have hw : Region.wanted o (yielded ops a.tmps) = true := by simp [Region.wanted, hgd]
 rw [if_pos hw]
 obtain ⟨v', w', hr, h2, h3, h4⟩ := run_append_sl1 (P := P) hone w base t o.type e i z bytes ht hi hz hsize hby hzs v n xs hown A m c ys hsl h63 hbytes hbase
 unfold Oper.wp execOp
 simp only [ho, resolve, invoke, builtin, Sem.run_bind, Sem.run_pure, Result.andThen_ok, List.map_toArray, List.map_cons, List.map_nil, hs, hx, hr]
 exact h v' w' h2 h3 h4

attribute [local go_sem ↓] Go.wp_at_zero Go.wp_at_succ
set_option maxRecDepth 100000 in
set_option maxHeartbeats 4000000 in
theorem spell_any (t : TV) (T : TrieT) (w : World) (hT : Tri w t T) (hb : t.un ≤ 140737488351232) :
    Calls Tryz.prog 106 #[.agg t.cells] w fun e w' => (∀ sp, spO T = some sp → ∃ g, e = .returned (.tuple #[.slice (some ⟨g, 0, none⟩) sp.length sp.length, .bool true]) ∧ w.heap.size ≤ g ∧ RowsAt g sp.length sp w') ∧ (spO T = none → e = .returned (.tuple #[.slice none 0 0, .bool false])) ∧ Below w.heap.size w w' := by
  obtain ⟨ua, un, uc, da, dn, dc, xa, xn, xc, ba, bn, bc⟩ := t
  dsimp only at hb
  obtain ⟨W, hW⟩ : ∃ W, W = w.alloc (.cells #[.slice ua un uc, .slice da dn dc, .slice xa xn xc, .slice ba bn bc] 34) := ⟨_, rfl⟩
  have hB : Below w.heap.size w W := by rw [hW]; exact below_alloc _ _
  have hO : Bx w.heap.size [.cells #[.slice ua un uc, .slice da dn dc, .slice xa xn xc, .slice ba bn bc] 34] W := by rw [hW]; exact (Bx.nil _ w).snoc _ rfl
  have hT2 := hT.below hB
  by_cases hok : 1 ≤ un ∧ un ≤ 400 ∧ bn = un ∧ dn = un ∧ xn = un
  · obtain ⟨h1, h2, e1, e2, e3⟩ := hok
    subst e1 e2 e3
    have HO : Hid (spO T = spTo T xn) := by
      unfold Hid spO
      rw [hT.up.1, hT.byt.1.1, hT.dep.1, hT.wrd.1, if_pos ⟨h1, h2, rfl, rfl, rfl⟩]
    have c0 : W.cell? ⟨w.heap.size, 0, none⟩ = some (.slice ua _ uc) := hO.cell (i := 0) rfl rfl
    have c1 : W.cell? ⟨w.heap.size, 1, none⟩ = some (.slice da _ dc) := hO.cell (i := 0) rfl rfl
    have c2 : W.cell? ⟨w.heap.size, 2, none⟩ = some (.slice xa _ xc) := hO.cell (i := 0) rfl rfl
    have c3 : W.cell? ⟨w.heap.size, 3, none⟩ = some (.slice ba _ bc) := hO.cell (i := 0) rfl rfl
    have hmk : ∀ V : World, (Instr.makeSlice 22 (.int .i64 xn) (.int .i64 xn)).run Tryz.prog V = .ok (.slice (some ⟨V.heap.size, 0, none⟩) xn xn) (V.alloc (.cells (rowsNil xn) 25)) := fun V => by
      obtain ⟨i0, hi, hz0, hz1, hz2⟩ := info_parts sl_info
      have h := run_makeSlice (P := Tryz.prog) (w := V) 22 25 i0 (.slice none 0 0) Tryz.underlying22 hi hz0 .i64 .i64 (xn : Int) (xn : Int) (by omega) (by omega) (by rw [hz1]; omega) (by rw [hz2]; omega) (by omega)
      rw [hz1] at h
      have e1 : (xn : Int).toNat * 1 = xn := by omega
      rw [e1, made_nil, Int.toNat_natCast] at h
      exact h
    go_enter Tryz.func106, Tryz.ntmps106
    go_upto_region 1 with fail
    rw [← hW]
    clear hW
    go_upto_region 5 with fail
    clear hmk c0 c1 c2 c3
    obtain ⟨V, hV⟩ : ∃ V, V = W.alloc (.cells (rowsNil xn) 25) := ⟨_, rfl⟩
    obtain ⟨g, hg⟩ : ∃ g, g = W.heap.size := ⟨_, rfl⟩
    have hR : RowsAt g xn [[]] V := by
      rw [hV, hg]
      refine ⟨List.replicate xn (none, 0, 0), ?_, by simp, by simpa using h1, fun i v x hv hx => ?_⟩
      · rw [World.alloc_heap_new]; simp [rowsNil, svV]
      · rw [List.getElem?_replicate] at hv
        split at hv
        · obtain rfl := Option.some.inj hv
          cases i with
          | zero => simp at hx; subst hx; exact ⟨Bys.nil _ _, Nat.le_refl _⟩
          | succ i => simp at hx
        · cases hv
    have hBV : Below W.heap.size W V := by rw [hV]; exact below_alloc _ _
    have hOV := hO.below hBV
    rw [← hV, ← hg]
    clear hV
    have HG := Lib.hid hg
    clear hg
    go_wp2
    go_loopw [6, 7] (fun s6 _ wr => ∃ (i : Nat) (l : List (List Int)), 1 ≤ i ∧ i ≤ xn ∧ s6 = .int .i64 i ∧ Hid (spTo T i = some l) ∧ RowsAt g xn l wr ∧ Below W.heap.size W wr ∧ Bx w.heap.size [.cells #[.slice ua xn uc, .slice da xn dc, .slice xa xn xc, .slice ba xn bc] 34] wr) (fun s6 _ _ => xn - (intOf s6).toNat)
    case atStart => exact ⟨1, [[]], Nat.le_refl _, h1, rfl, rfl, hR, hBV, hOV⟩
    case round =>
      clear hR hBV hOV
      obtain ⟨i, l, hi1, hi2, rfl, HS, hR, hBV, hOV⟩ := hrel
      have c0 : wr.cell? ⟨w.heap.size, 0, none⟩ = some (.slice ua xn uc) := hOV.cell (i := 0) rfl rfl
      by_cases hil : i < xn
      · have hdi : decide ((i : Int) < xn) = true := by simp; omega
        obtain ⟨b0, o0, u, hb0, hl0, cu, hu⟩ := sl1_at (hT2.up.below hBV) hil
        subst hb0
        have HU := Lib.hid hu
        clear hu
        by_cases hur : 0 ≤ u ∧ u < i
        · have hd1 : decide (u < 0) = false := by simp; omega
          have hd2 : decide ((i : Int) ≤ u) = false := by simp; omega
          obtain ⟨k, rfl⟩ : ∃ k : Nat, u = k := ⟨u.toNat, by omega⟩
          have hki : k < i := by omega
          clear hur
          obtain ⟨vs, hvs, hvl, hll, hrow⟩ := hR.ex
          have hlen : l.length = i := spTo_length HS.out
          obtain ⟨⟨va, vn, vc⟩, hv⟩ : ∃ v, vs[k]? = some v := ⟨vs[k]'(by omega), by simp⟩
          obtain ⟨p, hp⟩ : ∃ p, l[k]? = some p := ⟨l[k]'(by omega), by simp⟩
          obtain ⟨hpb, hvc⟩ := hrow k _ _ hv hp
          dsimp only at hpb hvc
          obtain ⟨b3, o3, c, rfl, hb3, cb, hc⟩ := sl1_at (hT2.byt.1.below hBV) hil
          have hcr := hT2.byt.2 c (List.mem_of_getElem? hc)
          have HSS : Hid (spTo T (i + 1) = some (l ++ [p ++ [c]])) := by
            obtain ⟨j, rfl⟩ : ∃ j, i = j + 1 := ⟨i - 1, by omega⟩
            show spTo T (j + 1 + 1) = _
            unfold spTo
            rw [HS.out, Option.bind_some, HU.out, hc]
            dsimp only
            rw [if_pos (show 0 ≤ (k : Int) ∧ (k : Int) < (j : Int) + 1 by omega), Int.toNat_natCast, hp]
            rfl
          have HPL : Hid (p.length < i) := spTo_lt HS.out p (List.mem_of_getElem? hp)
          have hgl : g < wr.heap.size := (Array.getElem?_eq_some_iff.1 hvs).1
          have HK : Hid (∀ w', Below wr.heap.size wr w' → w'.cell? ⟨g, k, none⟩ = some (.slice va vn vc) ∧ w'.cell? ⟨w.heap.size, 3, none⟩ = some (.slice (some ⟨b3, o3, none⟩) xn bc) ∧ w'.cell? ⟨b3, o3 + i, none⟩ = some (.int .u8 c)) := by
            intro w' hb'
            have hO' := hOV.below hb'
            refine ⟨?_, hO'.cell (i := 0) rfl rfl, (hb'.cell (p := ⟨b3, o3 + i, none⟩) hb3).trans cb⟩
            rw [cell_of_row w' g k _ _ _ ((hb'.block g hgl).trans hvs)]
            simp [hv, svV]
          have hwg : w.heap.size < g := by
            have h := HG.out
            have := hO 0 _ rfl
            have := (Array.getElem?_eq_some_iff.1 this).1
            omega
          have h3g : g ≠ b3 := by
            rintro rfl
            rw [cell_of_row wr g _ _ _ _ hvs] at cb
            simp only [List.getElem?_toArray, List.getElem?_map, Option.map_eq_some_iff] at cb
            obtain ⟨v, _, hv⟩ := cb
            cases hv
          have HKS : Hid (∀ w', Below wr.heap.size wr w' → ∀ u, (w'.setCell ⟨g, i, none⟩ u).cell? ⟨g, k, none⟩ = some (.slice va vn vc) ∧ (w'.setCell ⟨g, i, none⟩ u).cell? ⟨w.heap.size, 3, none⟩ = some (.slice (some ⟨b3, o3, none⟩) xn bc) ∧ (w'.setCell ⟨g, i, none⟩ u).cell? ⟨b3, o3 + i, none⟩ = some (.int .u8 c)) := by
            intro w' hb' u
            obtain ⟨_, h2, h3⟩ := HK.out w' hb'
            refine ⟨?_, ?_, ?_⟩
            · rw [cell_of_row _ g k _ _ _ (set_at (i := i) ((hb'.block g hgl).trans hvs) u), Array.getElem?_setIfInBounds_ne (by omega)]
              simp [hv, svV]
            · rw [World.cell?_setCell_far _ _ _ _ (by show g ≠ w.heap.size; omega)]; exact h2
            · rw [World.cell?_setCell_far _ _ _ _ h3g]; exact h3
          have HF : Hid (∀ w', Below wr.heap.size wr w' → w'.cell? ⟨g, i, none⟩ = some (svV (vs[i]'(by omega))) ∧ w'.frozen? ⟨g, i, none⟩ = false) := by
            intro w' hb'
            have := (hb'.block g hgl).trans hvs
            refine ⟨?_, by simp [World.frozen?, this]⟩
            rw [cell_of_row w' g i _ _ _ this, List.getElem?_toArray, List.getElem?_map, List.getElem?_eq_getElem (by omega)]
            rfl
          clear cb hc hv hp hrow hvs hll
          go_wp2
          have hBd : Below wr.heap.size wr wr.drew := (Below.refl _ _).drew
          have i1 : k < xn := by omega
          have i2 : (0 : Int) ≤ (k : Int) := by omega
          have i3 : (k : Int) < (xn : Int) := by omega
          have i4 : (0 : Int) ≤ (i : Int) := by omega
          have i5 : (i : Int) < (xn : Int) := by omega
          obtain ⟨k1, k2, k3⟩ := HK.out wr (Below.refl _ _)
          have f0 := HF.out wr (Below.refl _ _)
          have hpd : Bys wr.drew va vn p := hpb.below ((Below.refl _ _).drew)
          have hvn : vn < 400 := by have := HPL.out; have := hpb.len; omega
          obtain ⟨i0, hi, hz0, hz1, hz2⟩ := info_parts u8_info
          have hB3 : ∀ o, Below wr.heap.size wr (wr.alloc o).drew := fun o => ((Below.refl _ _).alloc (Nat.le_refl _) o).drew
          have hpd3 : ∀ o, Bys (wr.alloc o).drew va vn p := fun o => hpb.below (hB3 o)
          have hsz3 : ∀ o, wr.heap.size ≤ (wr.alloc o).drew.heap.size := fun o => (hB3 o).size
          have hS3 : ∀ (c : Int) (t : TypeId), Sl1 (Value.int .u8) (wr.alloc (.cells #[.int .u8 c] t)).drew (some ⟨wr.heap.size, 0, none⟩) 1 [c] := fun c t => (Sl1.lay (Value.int .u8) wr [c] t _ rfl).below ((Below.refl _ _).drew)
          have hBA : ∀ o, Below wr.heap.size wr (wr.drew.alloc o) := fun o => hBd.alloc (Nat.le_refl _) o
          go_region_held3 (fun w' => w'.cell? ⟨g, k, none⟩ = some (.slice va vn vc) ∧ w'.cell? ⟨w.heap.size, 3, none⟩ = some (.slice (some ⟨b3, o3, none⟩) xn bc) ∧ w'.cell? ⟨b3, o3 + i, none⟩ = some (.int .u8 c)) (first | (go_keep; done) | exact HK.out _ (hBA _) | exact HK.out _ (hB1.alloc hB1.size _) | exact HKS.out _ hB2 _) (first
            | (refine step_append_sl1 (by rfl) _ _ 25 (by rfl) u8_one wr.heap.size 5 i0 (.int .u8 0) 1 Tryz.underlying25 hi hz0 hz1 hz2 rfl (.slice none 0 0) 0 [] (by rfl) (World.ownsRow_nil _ _ _ _) va vn vc p (by rfl) hpd.1 (by unfold maxLen; omega) (by omega) (Nat.le_refl _) ?_
               intro v1 w1 hown1 hg1 hat1
               have hB1 : Below wr.heap.size wr w1 := hBd.grown hg1 (Nat.le_refl _) (fun k e => by cases e)
               rw [Nat.zero_add, List.nil_append] at hown1
               obtain ⟨a1, c1, rfl, hc1, _⟩ := own_sl1 (enc := Value.int .u8) (xs := p) hown1
               obtain ⟨d1, d2, d3⟩ := HK.out w1 hB1
               clear hat1)
            | (refine step_append_sl1 (by rfl) _ _ 25 (by rfl) u8_one wr.heap.size 5 i0 (.int .u8 0) 1 Tryz.underlying25 hi hz0 hz1 hz2 rfl (.slice none 0 0) 0 [] (by rfl) (World.ownsRow_nil _ _ _ _) va vn vc p (by rfl) (hpd3 _).1 (by unfold maxLen; omega) (by omega) (hsz3 _) ?_
               intro v1 w1 hown1 hg1 hat1
               have hB1 : Below wr.heap.size wr w1 := (hB3 _).grown hg1 (hsz3 _) (fun k e => by cases e)
               have hS1 : Sl1 (Value.int .u8) w1 (some ⟨wr.heap.size, 0, none⟩) 1 [c] := (hS3 c _).below ((Below.refl _ _).grown hg1 (Nat.le_refl _) (fun k e => by cases e))
               rw [Nat.zero_add, List.nil_append] at hown1
               obtain ⟨a1, c1, rfl, hc1, _⟩ := own_sl1 (enc := Value.int .u8) (xs := p) hown1
               obtain ⟨d1, d2, d3⟩ := HK.out w1 hB1
               clear hat1)
            | (refine step_append_sl1 (by rfl) _ _ 25 (by rfl) u8_one wr.heap.size 5 i0 (.int .u8 0) 1 Tryz.underlying25 hi hz0 hz1 hz2 rfl (.slice a1 vn c1) vn (p.map (Value.int .u8)) (by rfl) (hown1.alloc _) (some ⟨w1.heap.size, 0, none⟩) 1 1 [c] (by rfl) (Sl1.lay (Value.int .u8) w1 [c] _ _ rfl) (by unfold maxLen; omega) (by omega) (by have := hB1.size; simp; omega) ?_
               intro v2 w2 hown2 hg2 hat2
               have hB2 : Below wr.heap.size wr w2 := (hB1.alloc hB1.size _).grown hg2 (by have := hB1.size; simp; omega) (fun j hj => (hown1.lt j hj).1)
               obtain ⟨a2, c2, rfl, hc2, hsl2⟩ := own_sl1 (enc := Value.int .u8) (xs := p ++ [c]) (by simpa using hown2)
               obtain ⟨e1, e2, e3⟩ := HK.out w2 hB2
               obtain ⟨e4, e5⟩ := HF.out w2 hB2
               clear hat2)
            | (refine step_append_sl1 (by rfl) _ _ 25 (by rfl) u8_one wr.heap.size 5 i0 (.int .u8 0) 1 Tryz.underlying25 hi hz0 hz1 hz2 rfl (.slice a1 vn c1) vn (p.map (Value.int .u8)) (by rfl) hown1 (some ⟨wr.heap.size, 0, none⟩) 1 1 [c] (by rfl) hS1 (by unfold maxLen; omega) (by omega) hB1.size ?_
               intro v2 w2 hown2 hg2 hat2
               have hB2 : Below wr.heap.size wr w2 := hB1.grown hg2 hB1.size (fun j hj => (hown1.lt j hj).1)
               obtain ⟨a2, c2, rfl, hc2, hsl2⟩ := own_sl1 (enc := Value.int .u8) (xs := p ++ [c]) (by simpa using hown2)
               obtain ⟨e1, e2, e3⟩ := HK.out w2 hB2
               obtain ⟨e4, e5⟩ := HF.out w2 hB2
               clear hat2))
          all_goals
            go_wp2
            have hBf : Below W.heap.size W (w2.setCell ⟨g, i, none⟩ (.slice a2 (vn + 1) c2)) := (hBV.trans (hB2.mono hBV.size)).setCell (by show W.heap.size ≤ g; exact Nat.le_of_eq HG.out.symm) _
            go_roundw
            case rel =>
              refine ⟨i + 1, _, by omega, by omega, by go_num, HSS, hR.step hlen hil hB2 ⟨hsl2, fun x hx => ?_⟩ hc2, hBf, hO.below hBf⟩
              rcases List.mem_append.1 hx with hx | hx
              · exact hpb.2 x hx
              · rw [List.mem_singleton] at hx; subst hx; exact hcr
            case measure => simp [intOf]; omega
        · have HN : Hid (∀ k, i + 1 ≤ k → spTo T k = none) := by
            refine spTo_none (by omega) ?_
            obtain ⟨j, rfl⟩ : ∃ j, i = j + 1 := ⟨i - 1, by omega⟩
            unfold spTo
            rw [HS.out, Option.bind_some, HU.out]
            cases hby : T.byt[j + 1]? with
            | none => rfl
            | some c => simp; omega
          by_cases hu0 : u < 0
          · have hd1 : decide (u < 0) = true := by simp; omega
            have HZ : Hid (spO T = none) := by rw [Hid, HO.out]; exact HN.out xn (by omega)
            go_wp2
            go_ret2
            exact ⟨fun sp h => (by rw [HZ.out] at h; cases h), fun _ => rfl, hB.trans (hBV.mono hB.size)⟩
          · have hd1 : decide (u < 0) = false := by simp; omega
            have hd2 : decide ((i : Int) ≤ u) = true := by simp; omega
            have HZ : Hid (spO T = none) := by rw [Hid, HO.out]; exact HN.out xn (by omega)
            go_wp2
            go_ret2
            exact ⟨fun sp h => (by rw [HZ.out] at h; cases h), fun _ => rfl, hB.trans (hBV.mono hB.size)⟩
      · obtain rfl : i = xn := by omega
        have hdi : decide ((i : Int) < i) = false := by simp
        have HLN : Hid (l.length = i) := spTo_length HS.out
        go_wp2
        go_ret2
        refine ⟨fun sp h => ?_, fun h => ?_, hB.trans (hBV.mono hB.size)⟩
        · rw [HO.out, HS.out] at h
          obtain rfl := Option.some.inj h
          rw [HLN.out]
          exact ⟨g, rfl, by rw [HG.out]; exact hB.size, hR⟩
        · rw [HO.out, HS.out] at h; cases h
  · have HZ : Hid (spO T = none) := by
      unfold Hid spO
      rw [if_neg]
      rw [hT.up.1, hT.byt.1.1, hT.dep.1, hT.wrd.1]
      exact hok
    have c0 : W.cell? ⟨w.heap.size, 0, none⟩ = some (.slice ua un uc) := hO.cell (i := 0) rfl rfl
    have c1 : W.cell? ⟨w.heap.size, 1, none⟩ = some (.slice da dn dc) := hO.cell (i := 0) rfl rfl
    have c2 : W.cell? ⟨w.heap.size, 2, none⟩ = some (.slice xa xn xc) := hO.cell (i := 0) rfl rfl
    have c3 : W.cell? ⟨w.heap.size, 3, none⟩ = some (.slice ba bn bc) := hO.cell (i := 0) rfl rfl
    by_cases q1 : un < 1
    · have g1 : decide ((un : Int) < 1) = true := by simp; omega
      go_enter Tryz.func106, Tryz.ntmps106
      go_upto_region 1 with fail
      rw [← hW]
      clear hW
      go_wp2
      go_ret2
      exact ⟨fun sp h => (by rw [HZ.out] at h; cases h), fun _ => rfl, hB⟩
    · have g1 : decide ((un : Int) < 1) = false := by simp; omega
      by_cases q2 : 400 < un
      · have g2 : decide (400 < (un : Int)) = true := by simp; omega
        go_enter Tryz.func106, Tryz.ntmps106
        go_upto_region 1 with fail
        rw [← hW]
        clear hW
        go_wp2
        go_ret2
        exact ⟨fun sp h => (by rw [HZ.out] at h; cases h), fun _ => rfl, hB⟩
      · have g2 : decide (400 < (un : Int)) = false := by simp; omega
        by_cases q3 : bn = un
        · subst q3
          by_cases q4 : dn = bn
          · subst q4
            have q5 : xn ≠ dn := fun e => hok ⟨by omega, by omega, rfl, rfl, e⟩
            have g5 : ((xn : Int) != dn) = true := by simp; omega
            go_enter Tryz.func106, Tryz.ntmps106
            go_upto_region 1 with fail
            rw [← hW]
            clear hW
            go_wp2
            go_ret2
            exact ⟨fun sp h => (by rw [HZ.out] at h; cases h), fun _ => rfl, hB⟩
          · have g4 : ((dn : Int) != bn) = true := by simp; omega
            go_enter Tryz.func106, Tryz.ntmps106
            go_upto_region 1 with fail
            rw [← hW]
            clear hW
            go_wp2
            go_ret2
            exact ⟨fun sp h => (by rw [HZ.out] at h; cases h), fun _ => rfl, hB⟩
        · have g3 : ((bn : Int) != un) = true := by simp; omega
          go_enter Tryz.func106, Tryz.ntmps106
          go_upto_region 1 with fail
          rw [← hW]
          clear hW
          go_wp2
          go_ret2
          exact ⟨fun sp h => (by rw [HZ.out] at h; cases h), fun _ => rfl, hB⟩

end Go.Proofs.YtglfdclpjmhoiaaGreat

/- The words of a trie by their numbers (layer 7): walked. -/

namespace Go.Proofs.YtglfdclpjmhoiaaGreat
open Go.RowKit Go.Sort

/-- A row of numbers that a call lays. -/
def IntRow (g : Nat) (l : List Int) (W : World) : Prop := W.heap[g]? = some (.cells (l.map (Value.int .i64)).toArray 3 (0, 0))

def intsNil (n : Nat) : Array Value := Array.replicate n (.int .i64 0)
theorem made_ints (n : Nat) : madeCells (Value.int .i64 0).cells n = intsNil n := by
 apply Array.ext
 · simp [madeCells, intsNil]
 ·
  intro i h1 h2
  simp [madeCells, intsNil, Value.cells, Nat.mod_one]
theorem nuTo_none {T : TrieT} {n i : Nat} (h : nuTo T n i = none) : ∀ k, i ≤ k → nuTo T n k = none := by
 intro k hk
 obtain ⟨d, rfl⟩ : ∃ d, k = i + d := ⟨k - i, by omega⟩
 clear hk
 induction d with
 | zero => exact h
 | succ d ih =>
  show nuTo T n (i + d + 1) = none
  unfold nuTo
  rw [ih]
  rfl
theorem nuO_none {T : TrieT} {sp : List (List Int)} {i : Nat} (hi : i ≤ T.wrd.length) (h : nuTo T sp.length i = none) : nuO T sp = none := by
 unfold nuO
 rw [nuTo_none h _ hi]
 rfl
theorem wdTo_none {sp : List (List Int)} {l : List Int} {i : Nat} (h : wdTo sp l i = none) : ∀ k, i ≤ k → wdTo sp l k = none := by
 intro k hk
 obtain ⟨d, rfl⟩ : ∃ d, k = i + d := ⟨k - i, by omega⟩
 clear hk
 induction d with
 | zero => exact h
 | succ d ih =>
  show wdTo sp l (i + d + 1) = none
  unfold wdTo
  rw [ih]
  rfl
theorem wdTo_length {sp : List (List Int)} {l : List Int} : ∀ {i : Nat} {r : List (List Int)}, wdTo sp l i = some r → r.length = i
 | 0, r, h => by simp [wdTo] at h; simp [← h]
 | i + 1, r, h => by
  unfold wdTo at h
  obtain ⟨r0, h0, h⟩ := Option.bind_eq_some_iff.1 h
  have ih := wdTo_length h0
  split at h
  ·
   split at h
   · cases h
   ·
    obtain ⟨p, hp, rfl⟩ := Option.map_eq_some_iff.1 h
    simp [ih]
  · cases h
theorem snoc_rows {P : Sv → List Int → Prop} {vs : List Sv} {r : List (List Int)} {v0 : Sv} {x0 : List Int} (hl : vs.length = r.length) (h : ∀ (i : Nat) (v : Sv) (x : List Int), vs[i]? = some v → r[i]? = some x → P v x) (h0 : P v0 x0) :
  ∀ (i : Nat) (v : Sv) (x : List Int), (vs ++ [v0])[i]? = some v → (r ++ [x0])[i]? = some x → P v x := fun i v x hv hx => by
 rw [List.getElem?_append] at hv hx
 by_cases hi : i < vs.length
 ·
  rw [if_pos hi] at hv
  rw [if_pos (by omega)] at hx
  exact h i v x hv hx
 ·
  rw [if_neg hi] at hv
  rw [if_neg (by omega)] at hx
  have hi0 : i - vs.length = 0 := by
   have := (List.getElem?_eq_some_iff.1 hv).1
   simp at this
   omega
  rw [hi0] at hv
  rw [← hl, hi0] at hx
  simp at hv hx
  subst hv hx
  exact h0
theorem IntRow.new (W : World) (n : Nat) : IntRow W.heap.size (List.replicate n 0) (W.alloc (.cells (intsNil n) 3)) := by
 unfold IntRow
 rw [World.alloc_heap_new]
 simp [intsNil]

set_option maxRecDepth 100000 in
set_option maxHeartbeats 4000000 in
theorem number7_any (t : TV) (T : TrieT) (g n : Nat) (sp : List (List Int)) (w : World) (hT : Tri w t T) (hR : RowsAt g n sp w) (hn : sp.length = n) (hn4 : n ≤ 400) (hx : t.xn = n) :
  Calls Tryz.prog 107 #[.agg t.cells, .slice (some ⟨g, 0, none⟩) n n] w fun e w' => (∀ ws, nuO T sp = some ws → ∃ v c, e = .returned (.tuple #[.slice v ws.length c, .bool true]) ∧ Wds w' v ws.length ws ∧ ws.length ≤ c) ∧ (nuO T sp = none → e = .returned (.tuple #[.slice none 0 0, .bool false])) ∧ Below w.heap.size w w' := by
 obtain ⟨ua, un, uc, da, dn, dc, xa, xn, xc, ba, bn, bc⟩ := t
 dsimp only at hx
 replace hx := hx.symm
 subst hx
 obtain ⟨W, hW⟩ : ∃ W, W = w.alloc (.cells #[.slice ua un uc, .slice da dn dc, .slice xa n xc, .slice ba bn bc] 34) := ⟨_, rfl⟩
 have hB : Below w.heap.size w W := by rw [hW]; exact below_alloc _ _
 have hO : Bx w.heap.size [.cells #[.slice ua un uc, .slice da dn dc, .slice xa n xc, .slice ba bn bc] 34] W := by rw [hW]; exact (Bx.nil _ w).snoc _ rfl
 have hT2 := hT.below hB
 have c2 : W.cell? ⟨w.heap.size, 2, none⟩ = some (.slice xa n xc) := hO.cell (i := 0) rfl rfl
 have hmk : ∀ V : World, (Instr.makeSlice 32 (.int .i64 n) (.int .i64 n)).run Tryz.prog V = .ok (.slice (some ⟨V.heap.size, 0, none⟩) n n) (V.alloc (.cells (intsNil n) 3)) := fun V => by
  obtain ⟨i0, hi, hz0, hz1, hz2⟩ := info_parts i64_info7
  have h := run_makeSlice (P := Tryz.prog) (w := V) 32 3 i0 (.int .i64 0) Tryz.underlying32 hi hz0 .i64 .i64 (n : Int) (n : Int) (by omega) (by omega) (by rw [hz1]; omega) (by rw [hz2]; omega) (by omega)
  rw [hz1] at h
  have e1 : (n : Int).toNat * 1 = n := by omega
  rw [e1, made_ints, Int.toNat_natCast] at h
  exact h
 go_enter Tryz.func107, Tryz.ntmps107
 go_upto_region 1 with fail
 rw [← hW]
 clear hW
 go_upto_region 2 with fail
 clear hmk
 obtain ⟨V, hV⟩ : ∃ V, V = W.alloc (.cells (intsNil n) 3) := ⟨_, rfl⟩
 obtain ⟨q, hq⟩ : ∃ q, q = W.heap.size := ⟨_, rfl⟩
 have hI : IntRow q (List.replicate n 0) V := by rw [hV, hq]; exact IntRow.new W n
 have hBV : Below W.heap.size W V := by rw [hV]; exact below_alloc _ _
 have hOV := hO.below hBV
 have c2V : V.cell? ⟨w.heap.size, 2, none⟩ = some (.slice xa n xc) := hOV.cell (i := 0) rfl rfl
 rw [← hV, ← hq]
 have HQ := Lib.hid hq
 clear hV hq
 go_wp2
 go_loopw [7, 19] (fun m s wr => ∃ (i : Nat) (l : List Int) (k : Nat), i ≤ n ∧ s = .int .i64 i ∧ m = .int .i64 k ∧ Hid (nuTo T n i = some (l, (k : Int))) ∧ l.length = n ∧ Hid (l.countP (fun x => x != 0) = k) ∧ Hid (∀ x ∈ l, 0 ≤ x ∧ x < n) ∧ IntRow q l wr ∧ Below W.heap.size W wr) (fun _ s _ => n - (intOf s).toNat)
 case atStart =>
  refine ⟨0, List.replicate n 0, 0, Nat.zero_le _, rfl, rfl, rfl, by simp, by simp [Hid], ?_, hI, hBV⟩
  intro x hx
  obtain ⟨h0, rfl⟩ := List.mem_replicate.1 hx
  omega
 case round =>
  clear hI hBV hOV c2V
  obtain ⟨i, l, k, hin, rfl, rfl, HS, hll, HC, HE, hI, hBV⟩ := hrel
  by_cases hil : i < n
  ·
   have hdi : decide ((i : Int) < n) = true := by simp; omega
   obtain ⟨b0, o0, x, hb0, hl0, cx, hx⟩ := sl1_at (hT2.wrd.below hBV) hil
   subst hb0
   have HX := Lib.hid hx
   clear hx
   by_cases h1 : x = -1
   ·
    have HS1 : Hid (nuTo T n (i + 1) = some (l, (k : Int))) := by
     unfold Hid nuTo
     rw [HS.out, Option.bind_some, HX.out]
     simp [h1]
    subst h1
    go_wp2
    go_roundw
    case rel => exact ⟨i + 1, l, k, by omega, by go_num, rfl, HS1, hll, HC, HE, hI, hBV⟩
    case measure => simp [intOf]; omega
   ·
    by_cases h2 : 0 ≤ x ∧ x < n ∧ i ≠ 0 ∧ (l[x.toNat]?).getD 0 = 0
    ·
     obtain ⟨h3, h4, h5, h6⟩ := h2
     obtain ⟨k', rfl⟩ : ∃ k' : Nat, x = k' := ⟨x.toNat, by omega⟩
     rw [Int.toNat_natCast] at h6
     have hkn : k' < n := by omega
     have hkl : k' < l.length := by omega
     have hl0 : l[k'] = 0 := by rw [List.getElem?_eq_getElem hkl] at h6; exact h6
     have HS1 : Hid (nuTo T n (i + 1) = some (l.set k' i, ((k + 1 : Nat) : Int))) := by
      unfold Hid nuTo
      rw [HS.out, Option.bind_some, HX.out]
      dsimp only
      rw [if_neg h1, if_neg (by rw [Int.toNat_natCast, h6]; omega), Int.toNat_natCast]
      simp
     have HC1 : Hid ((l.set k' (i : Int)).countP (fun x => x != 0) = k + 1) := by
      rw [Hid, List.countP_set hkl, HC.out, hl0]
      simp
      omega
     have HE1 : Hid (∀ x ∈ l.set k' (i : Int), 0 ≤ x ∧ x < n) := fun x hx => by
      rcases List.mem_or_eq_of_mem_set hx with h | rfl
      · exact HE.out x h
      · omega
     have hI1 : IntRow q (l.set k' i) (wr.setCell ⟨q, k', none⟩ (.int .i64 i)) := by
      have := set_at (i := k') hI (.int .i64 i)
      unfold IntRow
      simpa [List.map_set] using this
     have hB1 : Below W.heap.size W (wr.setCell ⟨q, k', none⟩ (.int .i64 i)) := hBV.setCell (by show W.heap.size ≤ q; exact Nat.le_of_eq HQ.out.symm) _
     have cq : wr.cell? ⟨q, k', none⟩ = some (.int .i64 0) := by
      rw [cell_of_row wr q k' _ _ _ hI]
      simp [hkl, hl0]
     have fq : wr.frozen? ⟨q, k', none⟩ = false := by simp [World.frozen?, show wr.heap[q]? = _ from hI]
     have hll1 : (l.set k' (i : Int)).length = n := by simpa using hll
     have d1 : (((k' : Int)) == -1) = false := by simp
     have hkb : k ≤ n := by have := HC.out; have := List.countP_le_length (p := fun x : Int => x != 0) (l := l); omega
     have d2 : decide ((k' : Int) < 0) = false := by simp
     have d3 : decide ((n : Int) ≤ (k' : Int)) = false := by simp; omega
     have d4 : ((i : Int) == 0) = false := by simp; omega
     have i2 : (0 : Int) ≤ (k' : Int) := by omega
     have i3 : (k' : Int) < (n : Int) := by omega
     clear hI hl0 h6
     go_wp2
     go_roundw
     case rel => exact ⟨i + 1, _, k + 1, by omega, by go_num, by go_num, HS1, hll1, HC1, HE1, hI1, hB1⟩
     case measure => simp [intOf]; omega
    ·
     have HN : Hid (nuO T sp = none) := by
      refine nuO_none (i := i + 1) (by have h7 := hT.wrd.1; dsimp only at h7; omega) ?_
      rw [hn]
      unfold nuTo
      rw [HS.out, Option.bind_some, HX.out]
      dsimp only
      rw [if_neg h1, if_pos]
      rcases Classical.em (x < 0) with h3 | h3
      · exact .inl h3
      ·
       rcases Classical.em ((n : Int) ≤ x) with h4 | h4
       · exact .inr (.inl h4)
       ·
        rcases Classical.em (i = 0) with h5 | h5
        · exact .inr (.inr (.inl h5))
        · exact .inr (.inr (.inr fun h6 => h2 ⟨by omega, by omega, h5, h6⟩))
     have hBf : Below w.heap.size w wr := hB.trans (hBV.mono hB.size)
     have d1 : (x == -1) = false := by simpa using h1
     by_cases h3 : x < 0
     ·
      have d2 : decide (x < 0) = true := by simpa using h3
      clear h2 h3 h1
      go_wp2
      go_ret2
      exact ⟨fun ws h => (by rw [HN.out] at h; cases h), fun _ => rfl, hBf⟩
     ·
      have d2 : decide (x < 0) = false := by simpa using h3
      by_cases h4 : (n : Int) ≤ x
      ·
       have d3 : decide ((n : Int) ≤ x) = true := by simpa using h4
       clear h2 h3 h1 h4
       go_wp2
       go_ret2
       exact ⟨fun ws h => (by rw [HN.out] at h; cases h), fun _ => rfl, hBf⟩
      ·
       have d3 : decide ((n : Int) ≤ x) = false := by simpa using h4
       by_cases h5 : i = 0
       ·
        have d4 : ((i : Int) == 0) = true := by simpa using h5
        clear h2 h3 h1 h4 h5
        go_wp2
        go_ret2
        exact ⟨fun ws h => (by rw [HN.out] at h; cases h), fun _ => rfl, hBf⟩
       ·
        have d4 : ((i : Int) == 0) = false := by simpa using h5
        obtain ⟨k', rfl⟩ : ∃ k' : Nat, x = k' := ⟨x.toNat, by omega⟩
        have hkn : k' < n := by omega
        have hkl : k' < l.length := by omega
        have hne : l[k'] ≠ 0 := fun e => h2 ⟨by omega, by omega, h5, by rw [Int.toNat_natCast, List.getElem?_eq_getElem hkl]; exact e⟩
        obtain ⟨y, hy⟩ : ∃ y, l[k'] = y := ⟨_, rfl⟩
        rw [hy] at hne
        have cq : wr.cell? ⟨q, k', none⟩ = some (.int .i64 y) := by
         rw [cell_of_row wr q k' _ _ _ hI]
         simp [hkl, hy]
        have d5 : (y != 0) = true := by simpa using hne
        have i2 : (0 : Int) ≤ (k' : Int) := by omega
        have i3 : (k' : Int) < (n : Int) := by omega
        clear h2 h3 h1 h4 hy
        go_wp2
        go_ret2
        exact ⟨fun ws h => (by rw [HN.out] at h; cases h), fun _ => rfl, hBf⟩
  ·
   obtain rfl : i = n := by omega
   have hdi : decide ((i : Int) < i) = false := by simp
   have hkn : k ≤ i := by have := HC.out; have := List.countP_le_length (p := fun x : Int => x != 0) (l := l); omega
   have hk1 : (0 : Int) ≤ (k : Int) := by omega
   have hk2 : (k : Int) ≤ (i : Int) := by omega
   have hNU : Hid (nuO T sp = wdTo sp l k) := by
    unfold Hid nuO
    have h7 := hT.wrd.1
    dsimp only at h7
    rw [hn, h7, HS.out, Option.bind_some, Int.toNat_natCast]
   have hBw : Below w.heap.size w wr := hB.trans (hBV.mono hB.size)
   have hql : q < wr.heap.size := (Array.getElem?_eq_some_iff.1 hI).1
   obtain ⟨vs0, hvs, hvl, _, hrow⟩ := hR.ex
   have hgl : g < w.heap.size := (Array.getElem?_eq_some_iff.1 hvs).1
   have hgs : wr.heap[g]? = _ := (hBw.block g hgl).trans hvs
   have hgl2 : g < wr.heap.size := (Array.getElem?_eq_some_iff.1 hgs).1
   have HROW := Lib.hid hrow
   have HI := Lib.hid hI
   have HGS := Lib.hid hgs
   clear hrow hI hgs hvs
   obtain ⟨i0, hi, hz0, hz1, hz2⟩ := info_parts sl_info
   obtain ⟨V2, hV2⟩ : ∃ V, V = wr := ⟨_, rfl⟩
   subst hV2
   go_wp2
   go_loopw [10, 12, 56] (fun s10 _ s56 wq => ∃ (j : Nat) (vs : List Sv) (r : List (List Int)), j ≤ k ∧ s56 = .int .i64 j ∧ wq.ownsRow V2.heap.size 25 1 s10 j (vs.map svV) ∧ vs.length = j ∧ Hid (wdTo sp l j = some r) ∧ Hid (∀ (i : Nat) (v : Sv) (x : List Int), vs[i]? = some v → r[i]? = some x → Bys V2 v.1 v.2.1 x ∧ v.2.1 ≤ v.2.2) ∧ Below V2.heap.size V2 wq) (fun _ _ s56 _ => k - (intOf s56).toNat)
   case atStart => exact ⟨0, [], [], Nat.zero_le _, rfl, World.ownsRow_nil _ _ _ _, rfl, rfl, (by intro i v x h; simp at h), Below.refl _ _⟩
   case round =>
    obtain ⟨j, vs, r, hjk, rfl, hown, hvj, HW, HE2, hBq⟩ := hrel
    by_cases hjl : j < k
    ·
     have hdj : decide ((j : Int) < k) = true := by simp; omega
     have hjl2 : j < l.length := by omega
     obtain ⟨y, hy⟩ : ∃ y, l[j]? = some y := ⟨l[j], by simp [hjl2]⟩
     have hyb := HE.out y (List.mem_of_getElem? hy)
     have cj : wr.cell? ⟨q, j, none⟩ = some (.int .i64 y) := by
      rw [cell_of_row wr q j _ _ _ ((hBq.block q hql).trans HI.out)]
      simp [hy]
     have i2 : (0 : Int) ≤ (j : Int) := by omega
     have i3 : (j : Int) < (k : Int) := by omega
     have hyk : ((j : Nat) : Int).toNat = j := by simp
     by_cases hy0 : y = 0
     ·
      subst hy0
      have HZ : Hid (nuO T sp = none) := by
       rw [Hid, hNU.out]
       refine wdTo_none (i := j + 1) ?_ k (by omega)
       unfold wdTo
       rw [HW.out, Option.bind_some, hy]
       simp
      clear hy
      go_wp2
      go_ret2
      exact ⟨fun ws h => (by rw [HZ.out] at h; cases h), fun _ => rfl, hBw.trans (hBq.mono hBw.size)⟩
     ·
      have d1 : (y == 0) = false := by simpa using hy0
      obtain ⟨y', rfl⟩ : ∃ y' : Nat, y = y' := ⟨y.toNat, by omega⟩
      have hyn : y' < i := by omega
      have hysp : y' < sp.length := by omega
      obtain ⟨x, hx⟩ : ∃ x, sp[y']? = some x := ⟨sp[y'], by simp [hysp]⟩
      obtain ⟨⟨va, vn, vc⟩, hv⟩ : ∃ v, vs0[y']? = some v := ⟨vs0[y']'(by omega), by simp⟩
      have HV := HROW.out y' _ _ hv hx
      have cg : wr.cell? ⟨g, y', none⟩ = some (.slice va vn vc) := by
       rw [cell_of_row wr g y' _ _ _ ((hBq.block g hgl2).trans HGS.out)]
       simp [hv, svV]
      have HW1 : Hid (wdTo sp l (j + 1) = some (r ++ [x])) := by
       unfold Hid wdTo
       rw [HW.out, Option.bind_some, hy]
       dsimp only
       rw [if_neg hy0, Int.toNat_natCast, hx]
       rfl
      have HE3 : Hid (∀ (i : Nat) (v : Sv) (x1 : List Int), (vs ++ [((va, vn, vc) : Sv)])[i]? = some v → (r ++ [x])[i]? = some x1 → Bys V2 v.1 v.2.1 x1 ∧ v.2.1 ≤ v.2.2) :=
       snoc_rows (by rw [hvj, wdTo_length HW.out]) HE2.out ⟨HV.1.below hBw, HV.2⟩
      have hvj1 : Hid ((vs ++ [((va, vn, vc) : Sv)]).length = j + 1) := by simp [Hid, hvj]
      have i4 : (0 : Int) ≤ (y' : Int) := by omega
      have i5 : (y' : Int) < (i : Int) := by omega
      have hqs := hBq.size
      clear hy hx hv HV hy0
      go_wp2_with (at_builtin; refine wpList_append_own _ rfl _ _ 22 rfl V2.heap.size 25 i0 (.slice none 0 0) 1 24 Tryz.underlying22 hi hz0 hz1 hz2 rfl (by decide) _ _ _ rfl (hown.alloc _) ⟨wr.heap.size, 0, none⟩ 1 1 [svV (va, vn, vc)] rfl rfl (cells_new _ _ (by simp)) (by simp [Value.oneCell']) (by unfold maxLen; omega) (by omega) (by simp; omega) ?_; intro v' w6 hown6 hg6 hnil)
      have hB6 : Below V2.heap.size V2 w6 := (hBq.alloc hqs _).grown hg6 (by simp; omega) (fun k e => (hown.lt k e).1)
      go_roundw
      case rel => exact ⟨j + 1, _, _, by omega, by go_num, (by simpa using hown6), hvj1, HW1, HE3, hB6⟩
      case measure => simp [intOf]; omega
    ·
     obtain rfl : j = k := by omega
     have hdj : decide ((j : Int) < j) = false := by simp
     have HWL := Lib.hid (wdTo_length HW.out)
     obtain ⟨va, vc, rfl, hvc, hsl⟩ := own_sl1 (enc := svV) hown
     go_wp2
     go_ret2
     refine ⟨fun ws h => ?_, fun h => ?_, hBw.trans (hBq.mono hBw.size)⟩
     ·
      rw [hNU.out, HW.out] at h
      obtain rfl := Option.some.inj h
      rw [HWL.out]
      exact ⟨va, vc, rfl, ⟨vs, hsl, by rw [hvj, HWL.out], fun i v x hv hx => ⟨(HE2.out i v x hv hx).1.below hBq, (HE2.out i v x hv hx).2⟩⟩, hvc⟩
     · rw [hNU.out, HW.out] at h; cases h

end Go.Proofs.YtglfdclpjmhoiaaGreat

/- A trie read (layer 7): walked. -/

namespace Go.Proofs.YtglfdclpjmhoiaaGreat
open Go.RowKit Go.Sort

/-- What has been read of a trie, in a box. -/
structure RdAt (W : World) (g : Nat) (t : TV) (sp ws : List (List Int)) : Prop where
 ex : ∃ (sa : Option Addr) (sc : Nat) (wa : Option Addr) (wc : Nat), W.heap[g]? = some (.cells #[.slice t.ua t.un t.uc, .slice t.da t.dn t.dc, .slice t.xa t.xn t.xc, .slice t.ba t.bn t.bc, .slice sa sp.length sc, .slice wa ws.length wc] 167 (0, 0)) ∧ Wds W sa sp.length sp ∧ Wds W wa ws.length ws ∧ sp.length ≤ sc ∧ ws.length ≤ wc
theorem RdAt.below {W V : World} {g : Nat} {t : TV} {sp ws : List (List Int)} (h : RdAt W g t sp ws) (hb : Below W.heap.size W V) : RdAt V g t sp ws := by
 obtain ⟨sa, sc, wa, wc, h1, h2, h3, h4⟩ := h.ex
 exact ⟨sa, sc, wa, wc, (hb.block g (Array.getElem?_eq_some_iff.1 h1).1).trans h1, h2.below hb, h3.below hb, h4⟩
theorem RowsAt.wds {g n : Nat} {l : List (List Int)} {W : World} (h : RowsAt g n l W) (hl : l.length = n) : Wds W (some ⟨g, 0, none⟩) n l := by
 obtain ⟨vs, h1, h2, h3, h4⟩ := h.ex
 refine ⟨vs, ⟨h2, .inr ⟨g, 0, rfl, (Array.getElem?_eq_some_iff.1 h1).1, fun j x hx => ?_⟩⟩, by omega, h4⟩
 rw [cell_of_row W g (0 + j) _ _ _ h1]
 simp [hx]
theorem RowsAt.below {g n : Nat} {l : List (List Int)} {W V : World} (h : RowsAt g n l W) (hb : Below W.heap.size W V) : RowsAt g n l V := by
 obtain ⟨vs, h1, h2, h3, h4⟩ := h.ex
 exact ⟨vs, (hb.block g (Array.getElem?_eq_some_iff.1 h1).1).trans h1, h2, h3, fun i v x hv hx => ⟨(h4 i v x hv hx).1.below hb, (h4 i v x hv hx).2⟩⟩
theorem spO_ok {T : TrieT} {sp : List (List Int)} (h : spO T = some sp) : sp.length = T.up.length ∧ T.up.length ≤ 400 ∧ T.wrd.length = T.up.length ∧ ∀ x ∈ sp, x.length < 400 := by
 unfold spO at h
 split at h
 ·
  rename_i hc
  refine ⟨spTo_length h, hc.2.1, hc.2.2.2.2, fun x hx => ?_⟩
  have := spTo_lt h x hx
  omega
 · cases h
theorem wdTo_mem {sp : List (List Int)} {l : List Int} : ∀ {i : Nat} {r : List (List Int)}, wdTo sp l i = some r → ∀ x ∈ r, x ∈ sp
 | 0, r, h => by unfold wdTo at h; obtain rfl := Option.some.inj h; simp
 | i + 1, r, h => by
  unfold wdTo at h
  obtain ⟨r0, h0, h⟩ := Option.bind_eq_some_iff.1 h
  have ih := wdTo_mem h0
  split at h
  ·
   split at h
   · cases h
   ·
    obtain ⟨p, hp, rfl⟩ := Option.map_eq_some_iff.1 h
    intro x hx
    rcases List.mem_append.1 hx with hx | hx
    · exact ih x hx
    · rw [List.mem_singleton] at hx; subst hx; exact List.mem_of_getElem? hp
  · cases h
theorem nuTo_le {T : TrieT} {n : Nat} : ∀ {i : Nat} {s : List Int × Int}, nuTo T n i = some s → s.2 ≤ i
 | 0, s, h => by simp [nuTo] at h; simp [← h]
 | i + 1, s, h => by
  unfold nuTo at h
  obtain ⟨s0, h0, h⟩ := Option.bind_eq_some_iff.1 h
  have ih := nuTo_le h0
  split at h
  ·
   split at h
   · obtain rfl := Option.some.inj h; omega
   ·
    split at h
    · cases h
    · obtain rfl := Option.some.inj h; dsimp only; omega
  · cases h
theorem nuO_ok {T : TrieT} {sp ws : List (List Int)} (h : nuO T sp = some ws) : ws.length ≤ T.wrd.length ∧ ∀ x ∈ ws, x ∈ sp := by
 unfold nuO at h
 obtain ⟨s, h0, h⟩ := Option.bind_eq_some_iff.1 h
 have := nuTo_le h0
 have := wdTo_length h
 exact ⟨by omega, wdTo_mem h⟩
theorem begL_bd {fold : Bool} {ws : List (List Int)} {m M : Nat} (h1 : ws.length ≤ m) (h2 : ∀ x ∈ ws, x.length ≤ M) : (begL fold ws).length ≤ m * M := by
 refine Nat.le_trans ?_ (Nat.mul_le_mul_right M h1)
 clear h1
 revert h2
 refine snoc_ind (P := fun ws => (∀ x ∈ ws, x.length ≤ M) → (begL fold ws).length ≤ ws.length * M) (by simp [begL]) (fun l x ih h => ?_) ws
 have := ih (fun y hy => h y (by simp [hy]))
 have := h x (by simp)
 rw [begL_snoc, List.length_append, begW_length, foldL_length, List.length_append, List.length_singleton, Nat.add_mul]
 omega

set_option maxRecDepth 100000 in
set_option maxHeartbeats 4000000 in
theorem read_any (t : TV) (T : TrieT) (w : World) (hT : Tri w t T) (hb : t.un ≤ 140737488351232) :
  Calls Tryz.prog 86 #[.agg t.cells] w fun e w' => (∀ sp ws, readP T = some (sp, ws) → ∃ g, e = .returned (.tuple #[.pointer (some ⟨g, 0, none⟩), .bool true]) ∧ RdAt w' g t sp ws ∧ w.heap.size ≤ g) ∧ (readP T = none → e = .returned (.tuple #[.pointer none, .bool false])) ∧ Below w.heap.size w w' := by
 have HT0 := Lib.hid hT
 obtain ⟨ua, un, uc, da, dn, dc, xa, xn, xc, ba, bn, bc⟩ := t
 dsimp only at hb
 obtain ⟨W, hW⟩ : ∃ W, W = w.alloc (.cells #[.slice ua un uc, .slice da dn dc, .slice xa xn xc, .slice ba bn bc] 34) := ⟨_, rfl⟩
 have hB : Below w.heap.size w W := by rw [hW]; exact below_alloc _ _
 have hO : Bx w.heap.size [.cells #[.slice ua un uc, .slice da dn dc, .slice xa xn xc, .slice ba bn bc] 34] W := by rw [hW]; exact (Bx.nil _ w).snoc _ rfl
 have hT2 := hT.below hB
 have cells : ∀ V, Below W.heap.size W V → V.cell? ⟨w.heap.size, 0, none⟩ = some (.slice ua un uc) ∧ V.cell? ⟨w.heap.size, 1, none⟩ = some (.slice da dn dc) ∧ V.cell? ⟨w.heap.size, 2, none⟩ = some (.slice xa xn xc) ∧ V.cell? ⟨w.heap.size, 3, none⟩ = some (.slice ba bn bc) := fun V hV => by
  have h := hO.below hV
  exact ⟨h.cell (i := 0) rfl rfl, h.cell (i := 0) rfl rfl, h.cell (i := 0) rfl rfl, h.cell (i := 0) rfl rfl⟩
 have HC := Lib.hid cells
 clear cells hO
 obtain ⟨c0, c1, c2, c3⟩ := HC.out W (Below.refl _ _)
 have k1 := Lib.hid (spell_any _ T W hT2 hb)
 go_enter Tryz.func86, Tryz.ntmps86
 go_upto_region 1 with fail
 rw [← hW]
 clear hW
 go_wp2_with fail
 refine k1.out.mono ?_
 rintro e w1 ⟨hs, hn, hb1⟩
 cases hsp : spO T with
 | none =>
  obtain rfl := hn hsp
  have HZ : Hid (readP T = none) := by unfold Hid readP; rw [hsp]; rfl
  clear hs hn hsp
  go_wp2
  go_ret2
  exact ⟨fun sp ws h => (by rw [HZ.out] at h; cases h), fun _ => rfl, hB.trans (hb1.mono hB.size)⟩
 | some sp =>
  obtain ⟨g, rfl, hg, hR⟩ := hs sp hsp
  obtain ⟨o1, o2, o3, o4⟩ := spO_ok hsp
  have HSP := Lib.hid hsp
  clear hs hn hsp c0 c1 c2 c3
  have hun : T.up.length = un := hT.up.1
  have hxn : T.wrd.length = xn := hT.wrd.1
  obtain ⟨n, hnn⟩ : ∃ n, sp.length = n := ⟨_, rfl⟩
  rw [hnn] at hR ⊢
  obtain ⟨c0, c1, c2, c3⟩ := HC.out w1 hb1
  have hT3 := hT2.below hb1
  have k2 := Lib.hid (number7_any _ T g n sp w1 hT3 hR hnn (by omega) (by show xn = n; omega))
  go_wp2_with fail
  refine k2.out.mono ?_
  rintro e w2 ⟨hs, hn, hb2⟩
  have hB2 : Below W.heap.size W w2 := hb1.trans (hb2.mono hb1.size)
  cases hnu : nuO T sp with
  | none =>
   obtain rfl := hn hnu
   have HZ : Hid (readP T = none) := by unfold Hid readP; rw [HSP.out, Option.bind_some, hnu]; rfl
   clear hs hn hnu
   go_wp2
   go_ret2
   exact ⟨fun sp ws h => (by rw [HZ.out] at h; cases h), fun _ => rfl, hB.trans (hB2.mono hB.size)⟩
  | some ws =>
   obtain ⟨v, c, rfl, hWd, hvc⟩ := hs ws hnu
   obtain ⟨p1, p2⟩ := nuO_ok hnu
   have HNU := Lib.hid hnu
   clear hs hn hnu c0 c1 c2 c3
   obtain ⟨c0, c1, c2, c3⟩ := HC.out w2 hB2
   have hwl : ws.length ≤ 400 := by omega
   have hwm : ∀ x ∈ ws, x.length ≤ 400 := fun x hx => Nat.le_of_lt (o4 x (p2 x hx))
   have hbg : (begL false ws).length ≤ 1000000 := Nat.le_trans (begL_bd hwl hwm) (by omega)
   obtain ⟨m, hm⟩ : ∃ m, ws.length = m := ⟨_, rfl⟩
   rw [hm] at hWd hvc ⊢
   have hfin : Hid (readP T = if (rightP false ws && eqT (trieP ws) T) = true then some (sp, ws) else none) := by unfold Hid readP; rw [HSP.out, Option.bind_some, HNU.out, Option.bind_some]
   cases hr : rightP false ws with
   | false =>
    have k3 := Lib.hid (make7_no false v m c ws w2 hWd (by omega) (fun x hx => by have := hwm x hx; omega) hbg hr)
    have HZ : Hid (readP T = none) := by unfold Hid; rw [hfin.out, hr]; rfl
    clear hr
    go_wp2_with fail
    refine k3.out.mono ?_
    rintro e w3 ⟨rfl, hb3⟩
    have hB3 : Below W.heap.size W w3 := hB2.trans (hb3.mono hB2.size)
    go_wp2
    go_ret2
    have hBf : Below w.heap.size w w3 := hB.trans (hB3.mono hB.size)
    exact ⟨fun sp ws h => (by rw [HZ.out] at h; cases h), fun _ => rfl, hBf.alloc hBf.size _⟩
   | true =>
    have k3 := Lib.hid (make7_yes false v m c ws w2 hWd (by omega) (fun x hx => by have := hwm x hx; omega) hbg hr)
    have nn := right_nodes hr
    have HRR := Lib.hid hr
    clear hr
    go_wp2_with fail
    refine k3.out.mono ?_
    rintro e w3 ⟨u, rfl, hU, hb3⟩
    have hB3 : Below W.heap.size W w3 := hB2.trans (hb3.mono hB2.size)
    have hul : u.un ≤ 400 ∧ u.dn ≤ 400 ∧ u.xn ≤ 400 ∧ u.bn ≤ 400 := by
     obtain ⟨l1, l2, l3, l4⟩ := trie_lens (ws := ws)
     have := hU.up.1; have := hU.dep.1; have := hU.wrd.1; have := hU.byt.1.1
     omega
    obtain ⟨va, vn, vc, ea, en, ec, ya, yn, yc, fa, fn, fc⟩ := u
    dsimp only at hul
    go_upto_region 8 with fail
    obtain ⟨w4, hw4⟩ : ∃ w4, w4 = w3.alloc (.cells #[.slice va vn vc, .slice ea en ec, .slice ya yn yc, .slice fa fn fc] 34) := ⟨_, rfl⟩
    have hb4 : Below w3.heap.size w3 w4 := by rw [hw4]; exact below_alloc _ _
    have hO4 : Bx w3.heap.size [.cells #[.slice va vn vc, .slice ea en ec, .slice ya yn yc, .slice fa fn fc] 34] w4 := by rw [hw4]; exact (Bx.nil _ w3).snoc _ rfl
    rw [← hw4]
    clear hw4
    have hB4 : Below W.heap.size W w4 := hB3.trans (hb4.mono hB3.size)
    have q0 : w4.cell? ⟨w3.heap.size, 0, none⟩ = some (.slice va vn vc) := hO4.cell (i := 0) rfl rfl
    have q1 : w4.cell? ⟨w3.heap.size, 1, none⟩ = some (.slice ea en ec) := hO4.cell (i := 0) rfl rfl
    have q2 : w4.cell? ⟨w3.heap.size, 2, none⟩ = some (.slice ya yn yc) := hO4.cell (i := 0) rfl rfl
    have q3 : w4.cell? ⟨w3.heap.size, 3, none⟩ = some (.slice fa fn fc) := hO4.cell (i := 0) rfl rfl
    obtain ⟨c0, c1, c2, c3⟩ := HC.out w4 hB4
    have k4 := Lib.hid (tsame_any _ _ (trieP ws) T w4 (hU.below hb4) (hT2.below hB4) (by dsimp only; omega))
    clear hO4 hU
    go_wp2_with fail
    refine k4.out.mono ?_
    rintro e w5 ⟨rfl, hb5⟩
    have hB5 : Below W.heap.size W w5 := hB4.trans (hb5.mono hB4.size)
    have hBf : Below w.heap.size w w5 := hB.trans (hB5.mono hB.size)
    clear c0 c1 c2 c3 q0 q1 q2 q3
    obtain ⟨c0, c1, c2, c3⟩ := HC.out w5 hB5
    cases he : eqT (trieP ws) T with
    | false =>
     have HZ : Hid (readP T = none) := by unfold Hid; rw [hfin.out, HRR.out, he]; rfl
     clear he
     go_wp2
     go_ret2
     exact ⟨fun sp ws h => (by rw [HZ.out] at h; cases h), fun _ => rfl, hBf⟩
    | true =>
     have HZ : Hid (readP T = some (sp, ws)) := by unfold Hid; rw [hfin.out, HRR.out, he]; rfl
     clear he
     have HNN := Lib.hid hnn
     have HM := Lib.hid hm
     go_wp2
     go_ret2
     refine ⟨fun sp' ws' h => ?_, fun h => (by rw [HZ.out] at h; cases h), hBf.alloc hBf.size _⟩
     rw [HZ.out] at h
     injection h with h
     injection h with e1 e2
     subst e1 e2
     have hb6 : Below w5.heap.size w5 (w5.alloc (.cells #[.slice ua un uc, .slice da dn dc, .slice xa xn xc, .slice ba bn bc, .slice (some ⟨g, 0, none⟩) n n, .slice v m c] 167)) := below_alloc _ _
     have hb26 : Below w2.heap.size w2 w5 := hb3.trans ((hb4.trans (hb5.mono hb4.size)).mono hb3.size)
     have hb16 : Below w1.heap.size w1 w5 := hb2.trans (hb26.mono hb2.size)
     refine ⟨_, rfl, ⟨_, n, _, c, by rw [HNN.out, HM.out]; exact World.alloc_heap_new _ _, ?_, ?_, by rw [HNN.out]; exact Nat.le_refl _, by rw [HM.out]; exact hvc⟩, hBf.size⟩
     · rw [HNN.out]; exact ((hR.below hb16).wds HNN.out).below hb6
     · rw [HM.out]; exact (hWd.below hb26).below hb6

theorem read_yes (t : TV) (T : TrieT) (sp ws : List (List Int)) (w : World) (hT : Tri w t T) (hb : t.un ≤ 140737488351232) (hr : readP T = some (sp, ws)) :
  Calls Tryz.prog 86 #[.agg t.cells] w fun e w' => ∃ g, e = .returned (.tuple #[.pointer (some ⟨g, 0, none⟩), .bool true]) ∧ RdAt w' g t sp ws ∧ Below w.heap.size w w' :=
 (read_any t T w hT hb).mono fun e w' ⟨h1, _, h3⟩ => (h1 sp ws hr).elim fun g ⟨e1, e2, _⟩ => ⟨g, e1, e2, h3⟩
theorem read_no (t : TV) (T : TrieT) (w : World) (hT : Tri w t T) (hb : t.un ≤ 140737488351232) (hr : readP T = none) :
  Calls Tryz.prog 86 #[.agg t.cells] w fun e w' => e = .returned (.tuple #[.pointer none, .bool false]) ∧ Below w.heap.size w w' :=
 (read_any t T w hT hb).mono fun e w' ⟨_, h2, h3⟩ => ⟨h2 hr, h3⟩

end Go.Proofs.YtglfdclpjmhoiaaGreat

/- What is asked of a trie that is read (layer 7): walked. Printed by gen_v5.py. -/

namespace Go.Proofs.YtglfdclpjmhoiaaGreat
open Go.RowKit Go.Sort

theorem Wds.nil (w : World) (a : Option Addr) : Wds w a 0 [] := ⟨[], ⟨rfl, .inl rfl⟩, rfl, fun i v x h => by simp at h⟩
theorem readP_len {T : TrieT} {sp ws : List (List Int)} (h : readP T = some (sp, ws)) : sp.length ≤ 400 ∧ ws.length ≤ 400 ∧ sp.length = T.up.length := by
 obtain ⟨h1, rfl, rfl⟩ := readP_iff.1 h
 have := right_nodes h1
 have := words_lt h1
 exact ⟨by omega, by omega, trie_lens.1.symm⟩
def rightT (T : TrieT) : Bool := (readP T).isSome
def wordsT (T : TrieT) : List (List Int) := match readP T with | some r => r.2 | none => []
set_option maxRecDepth 100000 in
set_option maxHeartbeats 4000000 in
theorem tright_any (t : TV) (T : TrieT) (w : World) (hT : Tri w t T) (hb : t.un ≤ 140737488351232) :
  Calls Tryz.prog 64 #[.agg t.cells] w fun e w' => e = .returned (.bool (rightT T)) ∧ Below w.heap.size w w' := by
 obtain ⟨ua, un, uc, da, dn, dc, xa, xn, xc, ba, bn, bc⟩ := t
 dsimp only at hb
 obtain ⟨W, hW⟩ : ∃ W, W = w.alloc (.cells #[.slice ua un uc, .slice da dn dc, .slice xa xn xc, .slice ba bn bc] 34) := ⟨_, rfl⟩
 have hB : Below w.heap.size w W := by rw [hW]; exact below_alloc _ _
 have hO : Bx w.heap.size [.cells #[.slice ua un uc, .slice da dn dc, .slice xa xn xc, .slice ba bn bc] 34] W := by rw [hW]; exact (Bx.nil _ w).snoc _ rfl
 have hT2 := hT.below hB
 have c0 : W.cell? ⟨w.heap.size, 0, none⟩ = some (.slice ua un uc) := hO.cell (i := 0) rfl rfl
 have c1 : W.cell? ⟨w.heap.size, 1, none⟩ = some (.slice da dn dc) := hO.cell (i := 0) rfl rfl
 have c2 : W.cell? ⟨w.heap.size, 2, none⟩ = some (.slice xa xn xc) := hO.cell (i := 0) rfl rfl
 have c3 : W.cell? ⟨w.heap.size, 3, none⟩ = some (.slice ba bn bc) := hO.cell (i := 0) rfl rfl
 have hup : T.up.length = un := hT.up.1
 cases hr : readP T with
 | none =>
  have HZ : Hid (rightT T = false) := by unfold Hid rightT; rw [hr]; rfl
  have k1 := Lib.hid (read_no _ T W hT2 hb hr)
  clear hr hT hT2
  go_enter Tryz.func64, Tryz.ntmps64
  go_upto_region 1 with fail
  rw [← hW]
  clear hW
  go_wp2_with fail
  refine k1.out.mono ?_
  rintro e w1 ⟨rfl, hb1⟩
  have hBf : Below w.heap.size w w1 := hB.trans (hb1.mono hB.size)
  go_wp2
  go_ret
  exact ⟨(by rw [HZ.out]; rfl), hBf⟩
 | some r =>
  obtain ⟨sp, ws⟩ := r
  have HZ : Hid (rightT T = true) := by unfold Hid rightT; rw [hr]; rfl
  have k1 := Lib.hid (read_yes _ T sp ws W hT2 hb hr)
  obtain ⟨hsp4, hws4, hspu⟩ := readP_len hr
  clear hr
  go_enter Tryz.func64, Tryz.ntmps64
  go_upto_region 1 with fail
  rw [← hW]
  clear hW
  go_wp2_with fail
  refine k1.out.mono ?_
  rintro e w1 ⟨g, rfl, hRd, hb1⟩
  obtain ⟨sa, sc, wa, wc, hg, hS, hWs, hsc, hwc⟩ := hRd.ex
  dsimp only at hg
  have hBf : Below w.heap.size w w1 := hB.trans (hb1.mono hB.size)
  have g0 : w1.cell? ⟨g, 0, none⟩ = some (.slice ua un uc) := by simp [World.cell?, hg]
  have g4 : w1.cell? ⟨g, 4, none⟩ = some (.slice sa sp.length sc) := by simp [World.cell?, hg]
  have g5 : w1.cell? ⟨g, 5, none⟩ = some (.slice wa ws.length wc) := by simp [World.cell?, hg]
  go_wp2
  go_ret
  exact ⟨(by rw [HZ.out]; rfl), hBf⟩

end Go.Proofs.YtglfdclpjmhoiaaGreat

/- Ranging over a function that writes cells of its own between two rounds: the law of a range over a function, where the iterator's own blocks may turn. -/

namespace Go.Proofs.YtglfdclpjmhoiaaGreat
open Go Go.RowKit Go.Sort

/-- It abides growth, the turn of a walk beyond B, and the turn of a block of the iterator's own. -/
def AbidesW {β : Type} (B : Nat) (Pb : Nat → Prop) (J : β → World → Prop) : Prop :=
 ∀ (s : β) (W W' : World) (row : Option Nat), J s W → W.grownBy W' row → (∀ r, row = some r → (B ≤ r ∧ ∃ o : Obj, W.heap[r]? = some o ∧ o.isWalk = true) ∨ Pb r) → J s W'
/-- It abides growth, the turn of what is no cells beyond B, and the turn of a block of the iterator's own. -/
def OwnsW {β : Type} (B : Nat) (Pb : Nat → Prop) (I : β → World → Prop) : Prop :=
 ∀ (s : β) (W W' : World) (row : Option Nat), I s W → W.grownBy W' row → (∀ r, row = some r → (B ≤ r ∧ ∃ o : Obj, W.heap[r]? = some o ∧ o.isCells = false) ∨ Pb r) → I s W'
/-- The contract of an iterator that may write its own blocks. -/
def SeqStopsW {α : Type} (F : Fence) (n : Nat) (P : Program) (g : Nat) (lb : Array Value) (encs : α → Array Value) (Kp : World → World → Prop) (Pb : Nat → Prop) (S Sp : List α → Prop) (N : Nat) (w : World) : Prop :=
 ∀ (l : Nat) (J Jx : List α → World → Prop) (W : World), Below w.heap.size w W → AbidesW W.heap.size Pb J → AbidesW W.heap.size Pb Jx →
  (∀ pre x W1, J pre W1 → pre.length < N → YieldAt F (n - 1) P l (encs x) W1 fun e W' => (e = .returned (.bool true) ∧ J (pre ++ [x]) W' ∧ Kp W1 W') ∨ (e = .returned (.bool false) ∧ Jx (pre ++ [x]) W')) →
  J [] W →
  CallsIn F n P g (#[.func (.yield l) #[] #[]] ++ lb) W fun e W' => (∃ v, e = .returned v) ∧ ((∃ xs, S xs ∧ J xs W') ∨ (∃ pre, Sp pre ∧ Jx pre W'))

theorem OwnsW.of {β : Type} {B : Nat} {Pb : Nat → Prop} {I : β → World → Prop} (h : OwnFrom B I) (h2 : ∀ (s : β) (W W' : World) (r : Nat), I s W → Pb r → W.grownBy W' (some r) → I s W') : OwnsW B Pb I := by
 intro s W W' row hs hg hr
 cases row with
 | none => exact h s W W' none hs hg (fun r e => by cases e)
 | some r =>
  rcases hr r rfl with h3 | h3
  · exact h s W W' _ hs hg (fun q e => by cases e; exact h3)
  · exact h2 s W W' r hs h3 hg
theorem OwnsW.and {β : Type} {B : Nat} {Pb : Nat → Prop} {I I' : β → World → Prop} (h : OwnsW B Pb I) (h' : OwnsW B Pb I') : OwnsW B Pb (fun s W => I s W ∧ I' s W) := fun s W W' row hs hg hr => ⟨h s W W' row hs.1 hg hr, h' s W W' row hs.2 hg hr⟩
theorem OwnsW.pure {β : Type} (B : Nat) (Pb : Nat → Prop) (p : β → Prop) : OwnsW B Pb (fun s (_ : World) => p s) := fun s W W' row hs _ _ => hs
theorem OwnsW.box {β : Type} (B : Nat) (Pb : Nat → Prop) (b : Nat) (t : TypeId) (f : β → Value) (hb : ¬ Pb b) : OwnsW B Pb (fun s W => Boxed W b t (f s)) := fun s W W' row hs hg hr =>
 (hg.block b (Array.getElem?_eq_some_iff.1 hs).1 (fun e => by
  rcases hr b e.symm with ⟨_, o, ho, hc⟩ | h
  ·
   have hs' : W.heap[b]? = some (.cells #[f s] t (0, 0)) := hs
   rw [hs'] at ho; cases ho; cases hc
  · exact hb h)).trans hs
theorem OwnsW.below {β : Type} {B n₀ : Nat} {Pb : Nat → Prop} {w : World} (hB : n₀ ≤ B) (hn : n₀ ≤ w.heap.size) (hP : ∀ r, Pb r → n₀ ≤ r) : OwnsW B Pb (fun (_ : β) W => Below n₀ w W) := fun s W W' row hs hg hr =>
 hs.grown hg (Nat.le_trans hn hs.size) (fun k e => by rcases hr k e with ⟨h, _⟩ | h; exact Nat.le_trans hB h; exact hP k h)
theorem OwnsW.size {β : Type} (B : Nat) (Pb : Nat → Prop) (n : Nat) : OwnsW B Pb (fun (_ : β) W => n ≤ W.heap.size) := fun s W W' row hs hg _ => Nat.le_trans hs hg.size
theorem OwnsW.block {β : Type} (B : Nat) (Pb : Nat → Prop) (b : Nat) (cs : β → Array Value) (t : TypeId) (fr : Nat × Nat) (hb : ¬ Pb b) : OwnsW B Pb (fun s W => W.heap[b]? = some (.cells (cs s) t fr)) := fun s W W' row hs hg hr =>
 (hg.block b (Array.getElem?_eq_some_iff.1 hs).1 (fun e => by
  rcases hr b e.symm with ⟨_, o, ho, hc⟩ | h
  ·
   have hs' : W.heap[b]? = some (.cells (cs s) t fr) := hs
   rw [hs'] at ho; cases ho; cases hc
  · exact hb h)).trans hs
theorem abides_w {β : Type} {B : Nat} {Pb : Nat → Prop} {J : β → World → Prop} (h : AbidesW B Pb J) {s : β} {w w' : World} (hj : J s w) (hb : Below w.heap.size w w') : J s w' :=
 h s w w' none hj (grownBy_of_below hb) (fun r e => by cases e)
theorem abides_p {β : Type} {B : Nat} {Pb : Nat → Prop} {J : β → World → Prop} (h : AbidesW B Pb J) {s : β} {w : World} (hj : J s w) {p : Nat} (hp : Pb p) (i : Nat) (u : Value) : J s (w.setCell ⟨p, i, none⟩ u) :=
 h s w _ (some p) hj ⟨rfl, rfl, rfl, by simp, fun k _ hk => Below.heap_setCell w ⟨p, i, none⟩ u k (fun e => hk (by rw [e]))⟩ (fun r e => by cases e; exact .inr hp)

set_option maxHeartbeats 1000000 in
theorem rangeW {P : Program} {α : Type} {g : Operand} {ps : Array Tmp} {assign body : Code} {Q : Exit → Act → World → Prop} {a : Act} {w : World} {gf : Nat} {lb : Array Value}
  (hg : a.eval g = .func (.func gf) #[] lb) (eg : ∀ args w, (callFunc gf args).run P w = .ok (.enter gf args) w)
  {encs : α → Array Value} {Kp : World → World → Prop} {Pb : Nat → Prop} {S Sp : List α → Prop} {N : Nat} (hseq : SeqStopsW Fence.wide 8 P gf lb encs Kp Pb S Sp N w) (hPb : ∀ r, Pb r → r < w.heap.size)
  (hKt : ∀ {A B C : World}, Kp A B → Kp B C → Kp A C) (hKb : ∀ (W : World) (l : Nat) (o o' : Obj), w.heap.size ≤ l → W.heap[l]? = some o → o.isCells = false → o.isWalk = false → Kp W (W.putObj l o')) (hps : ∀ x, (encs x).size = ps.size)
  (I : List α → World → Prop) (Ix : Code → List α → World → Prop) (hI : OwnsW w.heap.size Pb I) (hIx : ∀ c, OwnsW w.heap.size Pb (Ix c)) (h0 : I [] w) (a₁ : α → Act)
  (hassign : ∀ (l : Nat) (x : α) (W : World) (K : Act → World → Prop), K (a₁ x) W →
   assign.wpIn (Fence.wide.inRound l) 7 P (Exit.then K (fun _ _ _ => False)) { tmps := (ps.zip (encs x)).foldl (fun t (p, v) => t.setIfInBounds p v) a.tmps, defers := [] } W)
  (hbody : ∀ (l : Nat) (pre : List α) (x : α) (W : World), I pre W → pre.length < N → body.wpIn (Fence.wide.inRound l) 7 P (ownPostG w.heap.size Kp I Ix (pre ++ [x]) W) (a₁ x) W)
  (hdone : ∀ (D : Nat) (xs : List α) (W : World), w.heap.size ≤ D → S xs → I xs W → W.heap[D]? = some (.deferred (some [])) → Q .normal { a with defers := { target := .collected D, args := #[] } :: a.defers } W)
  (hstop : ∀ (D : Nat) (c : Code) (pre : List α) (W : World), w.heap.size ≤ D → Sp pre → Ix c pre W → W.heap[D]? = some (.deferred (some [])) → c.wp P Q { a with defers := { target := .collected D, args := #[] } :: a.defers } W) :
  (Code.rangeFunc g ps assign body).wp P Q a w := by
 refine (wpIn_wide (n := 9)).1 (wpIn_rangeFunc fun fn hfn => ?_)
 -- the loop's record, and where it and the block for the rounds' deferred calls lie
 let rec_ : LoopState → Option Code → Loop := fun st pe => { state := st, pending := pe, fn, tmps := a.tmps, params := ps, assign, body, defers := w.heap.size }
 have hrec : ∀ st pe, rec_ st pe = { state := st, pending := pe, fn, tmps := a.tmps, params := ps, assign, body, defers := w.heap.size } := fun _ _ => rfl
 clear_value rec_
 have put : ∀ {J : List α → World → Prop}, OwnsW w.heap.size Pb J → ∀ {s : List α} {W : World} {q : Nat} {o : Obj} (o' : Obj), J s W → w.heap.size ≤ q → W.heap[q]? = some o → o.isCells = false → J s (W.putObj q o') := fun hJ _ W q o o' hs hq ho hc =>
  hJ _ _ _ _ hs (grownBy_putObj' W q o') (fun r e => by cases e; exact .inl ⟨hq, o, ho, hc⟩)
 have al : ∀ {J : List α → World → Prop}, OwnsW w.heap.size Pb J → ∀ {s : List α} {W : World} (o : Obj), J s W → J s (W.alloc o) := fun hJ _ W o hs => hJ _ _ _ none hs (World.grownBy_alloc W o none) (fun r e => by cases e)
 obtain ⟨W1, hW1⟩ : ∃ W1, (w.alloc (.deferred (some []))).alloc (.loop (rec_ .ready none)) = W1 := ⟨_, rfl⟩
 have hL1 : W1.heap[w.heap.size + 1]? = some (.loop (rec_ .ready none)) := by
  rw [← hW1]; have := World.alloc_heap_new (w.alloc (.deferred (some []))) (.loop (rec_ .ready none)); rwa [World.size_alloc] at this
 have hK1 : W1.heap[w.heap.size]? = some (.deferred (some [])) := by
  rw [← hW1]; exact (Below.heap_alloc _ _ _ (by simp)).trans (World.alloc_heap_new w _)
 have hI1 : I [] W1 := by rw [← hW1]; exact al hI _ (al hI _ h0)
 have hb1 : Below w.heap.size w W1 := by rw [← hW1]; exact ((Below.refl _ w).alloc (Nat.le_refl _) _).alloc (by simp) _
 have hsz1 : W1.heap.size = w.heap.size + 1 + 1 := by rw [← hW1]; simp
 refine ⟨w.heap.size + 1, [{ target := .collected w.heap.size, args := #[] }], W1, { target := .fn (.func gf) lb, args := #[.func (.yield (w.heap.size + 1)) #[] #[]] }, W1, gf,
  #[.func (.yield (w.heap.size + 1)) #[] #[]] ++ lb, W1, ?_, ?_, ?_, ?_, fun _ => (by decide), ?_⟩
 · rw [← hW1, hrec]; exact run_enterLoop_outer _ _ _ _ _
 ·
  simp only [resolve, hg]
  simp [go_sem]
 · intro f' hf'; trivial
 · simp [invoke, go_sem, eg]
 ·
  -- a turn that the iterator may do turns neither the record nor the other block
  have stays : ∀ {A B : World} {row : Option Nat}, A.grownBy B row → (∀ r, row = some r → (W1.heap.size ≤ r ∧ ∃ o : Obj, A.heap[r]? = some o ∧ o.isWalk = true) ∨ Pb r) → ∀ q, w.heap.size ≤ q → q < W1.heap.size → ∀ o, A.heap[q]? = some o → B.heap[q]? = some o := fun hg' hr q h1 h2 o ho =>
   (hg'.block q (Array.getElem?_eq_some_iff.1 ho).1 (fun e => by
    rcases hr q e.symm with ⟨h, _⟩ | h
    · omega
    · have := hPb q h; omega)).trans ho
  have own : ∀ {A : World} {row : Option Nat}, (∀ r, row = some r → (W1.heap.size ≤ r ∧ ∃ o : Obj, A.heap[r]? = some o ∧ o.isWalk = true) ∨ Pb r) → ∀ r, row = some r → (w.heap.size ≤ r ∧ ∃ o : Obj, A.heap[r]? = some o ∧ o.isCells = false) ∨ Pb r := fun hr r e => by
   rcases hr r e with ⟨h, o, ho, hw⟩ | h
   · exact .inl ⟨by omega, o, ho, Obj.not_cells_of_walk hw⟩
   · exact .inr h
  refine (hseq (w.heap.size + 1)
   (fun pre W => I pre W ∧ W.heap[w.heap.size + 1]? = some (.loop (rec_ .ready none)) ∧ W.heap[w.heap.size]? = some (.deferred (some [])))
   (fun pre W => ∃ c, Ix c pre W ∧ W.heap[w.heap.size + 1]? = some (.loop (rec_ .done (some c))) ∧ W.heap[w.heap.size]? = some (.deferred (some [])))
   W1 hb1
   (fun s A B row hs hg' hr => ⟨hI s A B row hs.1 hg' (own hr), stays hg' hr _ (by omega) (by omega) _ hs.2.1, stays hg' hr _ (by omega) (by omega) _ hs.2.2⟩)
   (fun s A B row hs hg' hr => by
    obtain ⟨c, hc, hl, hk⟩ := hs
    exact ⟨c, hIx c s A B row hc hg' (own hr), stays hg' hr _ (by omega) (by omega) _ hl, stays hg' hr _ (by omega) (by omega) _ hk⟩)
   ?_ ⟨hI1, hL1, hK1⟩).mono ?_
  ·
   rintro pre x W ⟨hi, hl, hk⟩ hlen
   have hlt : w.heap.size + 1 < W.heap.size := (Array.getElem?_eq_some_iff.1 hl).1
   have hy := run_yield (P := P) (args := encs x) hl (by rw [hrec]; exact hps x)
   rw [hrec] at hy
   refine ⟨fn, _, assign, body, hy, roundIn_of_wpIn hfn (hassign _ x W _ ⟨_, run_beginRound hl (by rw [hrec]), ?_⟩)⟩
   obtain ⟨V, hV⟩ : ∃ V, W.putObj (w.heap.size + 1) (.loop { rec_ .ready none with state := .busy }) = V := ⟨_, rfl⟩
   rw [hV]
   have hl2 : V.heap[w.heap.size + 1]? = some (.loop { rec_ .ready none with state := .busy }) := by rw [← hV]; exact World.putObj_heap_same hlt
   have hk2 : V.heap[w.heap.size]? = some (.deferred (some [])) := by rw [← hV]; exact (World.putObj_heap_other (by omega)).trans hk
   have hw2 : Kp W V := by rw [← hV]; exact hKb _ _ _ _ (by omega) hl rfl rfl
   have hiV : I pre V := by rw [← hV]; exact put hI _ hi (by omega) hl rfl
   refine wpIn_mono (hbody _ pre x V hiV hlen) ?_
   have fin : ∀ (jump : Option Code) (W3 : World), KeepsFrom w.heap.size V W3 →
     (Instr.endRound (w.heap.size + 1) jump).run P W3 = .ok (.bool jump.isNone) (W3.putObj (w.heap.size + 1) (.loop (rec_ (if jump.isNone then .ready else .done) jump))) ∧
     W3.heap[w.heap.size + 1]? = some (.loop { rec_ .ready none with state := .busy }) ∧
     (W3.putObj (w.heap.size + 1) (.loop (rec_ (if jump.isNone then .ready else .done) jump))).heap[w.heap.size + 1]? = some (.loop (rec_ (if jump.isNone then .ready else .done) jump)) ∧
     (W3.putObj (w.heap.size + 1) (.loop (rec_ (if jump.isNone then .ready else .done) jump))).heap[w.heap.size]? = some (.deferred (some [])) := fun jump W3 hk3 => by
    have hl3 := hk3.same _ _ (by omega) hl2 rfl
    have hk4 := hk3.same _ _ (Nat.le_refl _) hk2 rfl
    have hend := run_endRound (P := P) jump hl3
    rw [hrec] at hend
    refine ⟨?_, hl3, World.putObj_heap_same (Array.getElem?_eq_some_iff.1 hl3).1, (World.putObj_heap_other (by omega)).trans hk4⟩
    rw [hrec]
    exact hend
   have leave : ∀ (c : Code) (W3 : World), KeepsFrom w.heap.size V W3 → Ix c (pre ++ [x]) W3 → ∃ (c' : Code), Ix c' (pre ++ [x]) (W3.putObj (w.heap.size + 1) (.loop (rec_ .done (some c)))) ∧ c' = c := fun c W3 hk3 hi3 => by
    obtain ⟨_, hl3, _, _⟩ := fin (some c) W3 hk3
    exact ⟨c, put (hIx _) _ hi3 (by omega) hl3 rfl, rfl⟩
   rintro e a3 W3 hp
   cases e with
   | normal =>
    obtain ⟨hk3, hkp3, hi3⟩ := hp
    obtain ⟨hr, hl3, hl4, hk4⟩ := fin none W3 hk3
    exact ⟨_, _, hr, .inl ⟨rfl, ⟨put hI _ hi3 (by omega) hl3 rfl, hl4, hk4⟩, hKt (hKt hw2 hkp3) (hKb _ _ _ _ (by omega) hl3 rfl rfl)⟩⟩
   | ret =>
    obtain ⟨hr, _, hl4, hk4⟩ := fin (some .ret) W3 hp.1
    obtain ⟨_, h, rfl⟩ := leave .ret W3 hp.1 hp.2
    exact ⟨_, _, hr, .inr ⟨rfl, _, h, hl4, hk4⟩⟩
   | exit id =>
    obtain ⟨hr, _, hl4, hk4⟩ := fin (some (.exit id)) W3 hp.1
    obtain ⟨_, h, rfl⟩ := leave (.exit id) W3 hp.1 hp.2
    exact ⟨_, _, hr, .inr ⟨rfl, _, h, hl4, hk4⟩⟩
   | goto t =>
    obtain ⟨hr, _, hl4, hk4⟩ := fin (some (.goto t)) W3 hp.1
    obtain ⟨_, h, rfl⟩ := leave (.goto t) W3 hp.1 hp.2
    exact ⟨_, _, hr, .inr ⟨rfl, _, h, hl4, hk4⟩⟩
   | panic ch => exact hp.elim
   | outgrown => exact hp.elim
  ·
   rintro e W2 ⟨⟨v, rfl⟩, (⟨xs, hS, hi, hl, hk⟩ | ⟨pre, hSp, c, hi, hl, hk⟩)⟩
   · exact ⟨none, _, by have := run_endLoop (P := P) hl (by rw [hrec]; simp); rw [hrec] at this; exact this, hdone _ xs _ (Nat.le_refl _) hS (put hI _ hi (by omega) hl rfl) ((World.putObj_heap_other (by omega)).trans hk)⟩
   · exact ⟨some c, _, by have := run_endLoop (P := P) hl (by rw [hrec]; simp); rw [hrec] at this; exact this, wpIn_wide.2 (hstop _ c pre _ (Nat.le_refl _) hSp (put (hIx c) _ hi (by omega) hl rfl) ((World.putObj_heap_other (by omega)).trans hk))⟩

end Go.Proofs.YtglfdclpjmhoiaaGreat
