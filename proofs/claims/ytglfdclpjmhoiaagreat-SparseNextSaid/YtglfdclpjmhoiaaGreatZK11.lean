/- Parts of the proof, one behind the other: Ar, As, A9, YE, HO, Hr, Ay, Au, G4, G5. No condition but what each theorem states. -/
import Derived.Test.YtglfdclpjmhoiaaGreatZK3
import Derived.Test.YtglfdclpjmhoiaaGreatZK5
import Derived.Test.YtglfdclpjmhoiaaGreatZK8
import Derived.Test.YtglfdclpjmhoiaaGreatZK9
import Derived.Test.YtglfdclpjmhoiaaGreatZK10
set_option linter.unusedVariables false
set_option linter.unusedSimpArgs false

/- Fewer places (layer 12), plain: what is told of a table: bases, places, kids, where one goes on. -/

namespace Go.Proofs.YtglfdclpjmhoiaaGreat
open Go Go.RowKit Go.Sort

/-- A node's base; what stands at a place; a node's kid, by a byte. -/
def baT (ba : List Int) (i : Int) : Int := if 0 ≤ i ∧ i < (ba.length : Int) then (ba[i.toNat]?).getD (-1) else -1
def atT (ow ki : List Int) (p : Int) : Int × Int := if p < 0 ∨ freeP ow p.toNat = true then (-1, 0) else ((ow[p.toNat]?).getD 0, (ki[p.toNat]?).getD 0)
def kidT (L ow ki ba : List Int) (i : Int) (c : Nat) : Int × Bool := if baT ba i < 0 then (0, false) else if (atT ow ki (baT ba i + (L[c]?).getD 0)).1 = i then ((atT ow ki (baT ba i + (L[c]?).getD 0)).2, true) else (0, false)

/-- The table of the words. -/
def owW (fold : Bool) (ws : List (List Int)) : List Int := (placesW fold ws (nodesL ws).length).1
def kiW (fold : Bool) (ws : List (List Int)) : List Int := (placesW fold ws (nodesL ws).length).2.1
def baW (fold : Bool) (ws : List (List Int)) : List Int := (placesW fold ws (nodesL ws).length).2.2
theorem plW {fold : Bool} {ws : List (List Int)} (h : OkT fold ws) : PlOK (kQ fold ws) (manyP fold ws) (nodesL ws).length (owW fold ws) (kiW fold ws) (baW fold ws) := placesW_ok h.great h.byt _
theorem atT_free {ow ki : List Int} {p : Nat} (h : freeP ow p = true) : atT ow ki (p : Int) = (-1, 0) := by unfold atT; rw [if_pos (.inr (by rw [Int.toNat_natCast]; exact h))]
theorem atT_some {ow ki : List Int} {p : Nat} {o k : Int} (h : ow[p]? = some o) (h0 : 0 ≤ o) (hk : ki[p]? = some k) : atT ow ki (p : Int) = (o, k) := by
 unfold atT
 rw [if_neg]
 · rw [Int.toNat_natCast, h, hk]; rfl
 ·
  rintro (hp | hp)
  · omega
  ·
   rw [Int.toNat_natCast] at hp
   unfold freeP at hp
   rw [h] at hp
   have := of_decide_eq_true hp
   omega
theorem baT_node {fold : Bool} {ws : List (List Int)} (h : OkT fold ws) {j : Nat} (hj : j < (nodesL ws).length) : baT (baW fold ws) (j : Int) = ((baW fold ws)[j]?).getD (-1) := by
 unfold baT
 rw [if_pos ⟨by omega, by rw [(plW h).bal]; omega⟩, Int.toNat_natCast]
theorem baT_out {fold : Bool} {ws : List (List Int)} (h : OkT fold ws) {i : Int} (hi : i < 0 ∨ ((nodesL ws).length : Int) ≤ i) : baT (baW fold ws) i = -1 := by
 unfold baT
 rw [if_neg]
 rintro ⟨h1, h2⟩
 rw [(plW h).bal] at h2
 omega
/-- A node's kid is found just if it is a node. -/
theorem kidT_node {fold : Bool} {ws : List (List Int)} (h : OkT fold ws) {j : Nat} {x : List Int} (hx : (nodesL ws)[j]? = some x) {c : Nat} (hc : c < 256) :
  kidT (clsP fold ws) (owW fold ws) (kiW fold ws) (baW fold ws) (j : Int) c = findP (nodesL ws) (x ++ [fcB fold c]) := by
 have hj := (List.getElem?_eq_some_iff.1 hx).1
 have hP := plW h
 obtain ⟨d, hd, hd2⟩ := fcB_byte (fold := fold) hc
 unfold kidT
 rw [baT_node h hj]
 by_cases hk : x ++ [fcB fold c] ∈ nodesL ws
 ·
  obtain ⟨k, hk2⟩ := List.getElem?_of_mem hk
  have hw : wordB ws (fcB fold c) := node_word hk
  have hp := (inB_fc h.great).2 hw
  have hq : (clsO (inB fold ws) fold d, k) ∈ kQ fold ws j := (mem_kQ h.great h.byt).2 ⟨x, d, k, hx, by rw [← hd]; exact hk2, rfl⟩
  have hne : kQ fold ws j ≠ [] := fun e => by rw [e] at hq; cases hq
  obtain ⟨b, hb, hst, _⟩ := hP.std j hj hne
  obtain ⟨h1, h2⟩ := hst _ hq
  rw [cls_in h.great hc, if_pos hp, hb, Option.getD_some, Option.getD_some, if_neg (by omega), clsO_fc hd, ← Int.natCast_add, atT_some h1 (by omega) h2, if_pos rfl, findP_at (nodesL_srt ws).nodup hk2]
 ·
  rw [findP_no hk]
  split
  · rfl
  ·
   rename_i hb
   rw [if_neg]
   intro hat
   unfold atT at hat
   split at hat
   ·
    have hat' : (-1 : Int) = (j : Int) := hat
    omega
   ·
    rename_i hp
    obtain ⟨o, ho, h0⟩ := freeP_no (by simpa using (not_or.1 hp).2)
    rw [ho] at hat
    have hat' : o = (j : Int) := hat
    rcases hP.own _ _ ho with ⟨e, _⟩ | ⟨node, b, e, hn, hbn, q, hq, hpq, _⟩
    · omega
    ·
     have hnj : node = j := by omega
     subst hnj
     rw [hbn, Option.getD_some, cls_in h.great hc] at hpq
     obtain ⟨x', c', j', e1, e2, e3⟩ := (mem_kQ h.great h.byt).1 hq
     rw [hx] at e1
     cases e1
     have hw' := node_word (List.mem_of_getElem? e2)
     have hpos := clsO_pos (inB fold ws) fold c'
     rw [e3] at hpq
     by_cases hin : inB fold ws (c : Int) = true
     ·
      rw [if_pos hin, Option.getD_some, clsO_fc hd] at hpq
      have hcl : clsO (inB fold ws) fold c' = clsO (inB fold ws) fold d := by
       have : (clsO (inB fold ws) fold c', j').1 = clsO (inB fold ws) fold c' := rfl
       rw [this] at hpq
       omega
      have hwd := (inB_fc h.great).1 hin
      rw [hd] at hwd
      have := word_inj h.great hw' hwd hcl
      subst this
      exact hk (by rw [hd]; exact List.mem_of_getElem? e2)
     ·
      rw [if_neg hin, Option.getD_some] at hpq
      have : (clsO (inB fold ws) fold c', j').1 = clsO (inB fold ws) fold c' := rfl
      rw [this] at hpq
      omega
theorem kidT_out {fold : Bool} {ws : List (List Int)} (h : OkT fold ws) {i : Int} (hi : i < 0 ∨ ((nodesL ws).length : Int) ≤ i) (c : Nat) : kidT (clsP fold ws) (owW fold ws) (kiW fold ws) (baW fold ws) i c = (0, false) := by
 unfold kidT
 rw [baT_out h hi, if_pos (by omega)]
/-- One goes on: to a kid; from the root; else by the link. -/
theorem on_here {ws : List (List Int)} {x : List Int} {d : Int} (h : x ++ [d] ∈ nodesL ws) : findP (nodesL ws) (x ++ [d]) = (goesV ws x d, true) := by
 obtain ⟨j, hj⟩ := List.getElem?_of_mem h
 unfold goesV
 rw [lsf_of_mem h, findP_at (nodesL_srt ws).nodup hj, placeS_at (nodesL_srt ws).nodup hj]
theorem on_root {ws : List (List Int)} {d : Int} (h : [] ++ [d] ∉ nodesL ws) : goesV ws [] d = 0 := by
 unfold goesV
 rw [List.nil_append, lsf_none (show [d] ∉ nodesL ws from h)]
 exact placeS_at (nodesL_srt ws).nodup (nodesL_head ws)
theorem on_fall {ws : List (List Int)} {x : List Int} {d : Int} (hx : x ≠ []) (h : x ++ [d] ∉ nodesL ws) : goesV ws x d = goesV ws (linkL (nodesL ws) x) d := by
 unfold goesV
 cases x with
 | nil => exact absurd rfl hx
 | cons a t =>
  have hk' : a :: (t ++ [d]) ∉ nodesL ws := h
  have e : lsf (nodesL ws) (a :: t ++ [d]) = lsf (nodesL ws) (t ++ [d]) := by
   show lsf (nodesL ws) (a :: (t ++ [d])) = _
   conv => lhs; unfold lsf
   rw [if_neg hk']
  rw [e, lsf_step (nodes_pre ws)]
  rfl
/-- Where bytes lead from a node. -/
def goesB (fold : Bool) (ws : List (List Int)) (x : List Int) (b : List Int) : List Int := lsf (nodesL ws) (x ++ b.map (fcB fold))
theorem goesB_nil {fold : Bool} {ws : List (List Int)} {x : List Int} (hx : x ∈ nodesL ws) : goesB fold ws x [] = x := by unfold goesB; simp; exact lsf_of_mem hx
theorem goesB_snoc {fold : Bool} {ws : List (List Int)} {x : List Int} (b : List Int) (c : Int) : nodeI ws (goesB fold ws x (b ++ [c])) = goesV ws (goesB fold ws x b) (fcB fold c) := by
 unfold goesB goesV nodeI
 rw [List.map_append, ← List.append_assoc]
 show placeS _ (lsf _ (_ ++ [fcB fold c])) = _
 rw [lsf_step (nodes_pre ws)]
theorem goesB_mem {fold : Bool} {ws : List (List Int)} {x : List Int} (b : List Int) : goesB fold ws x b ∈ nodesL ws := lsf_mem (nodes_pre ws).1 _
theorem goesB_app {fold : Bool} {ws : List (List Int)} {x : List Int} (b d : List Int) : goesB fold ws (goesB fold ws x b) d = goesB fold ws x (b ++ d) := by
 have hN := nodes_pre ws
 have key : ∀ (d s : List Int), lsf (nodesL ws) (lsf (nodesL ws) s ++ d) = lsf (nodesL ws) (s ++ d) := by
  intro d
  induction d with
  | nil => intro s; simp; exact lsf_of_mem (lsf_mem hN.1 s)
  | cons c d ih =>
   intro s
   have e1 : ∀ u : List Int, u ++ c :: d = (u ++ [c]) ++ d := fun u => by simp
   rw [e1, e1, ← ih, ← lsf_step hN, ih]
 unfold goesB
 rw [key, List.map_append, List.append_assoc]
theorem goesB_root {fold : Bool} {ws : List (List Int)} (b : List Int) : goesB fold ws [] b = lsf (nodesL ws) (foldL fold b) := by unfold goesB; rw [foldL_fcB]; rfl
/-- Bytes from any number on; what is no node tells nothing. -/
def nextT (fold : Bool) (ws : List (List Int)) (i : Int) (b : List Int) : Int × Bool := if 0 ≤ i ∧ i < ((nodesL ws).length : Int) then (nodeI ws (goesB fold ws ((nodesL ws)[i.toNat]?.getD []) b), true) else (0, false)
theorem nextT_node {fold : Bool} {ws : List (List Int)} {j : Nat} {x : List Int} (hx : (nodesL ws)[j]? = some x) (b : List Int) : nextT fold ws (j : Int) b = (nodeI ws (goesB fold ws x b), true) := by
 have hj := (List.getElem?_eq_some_iff.1 hx).1
 unfold nextT
 rw [if_pos ⟨by omega, by omega⟩, Int.toNat_natCast, hx, Option.getD_some]
theorem nextT_out {fold : Bool} {ws : List (List Int)} {i : Int} (hi : i < 0 ∨ ((nodesL ws).length : Int) ≤ i) (b : List Int) : nextT fold ws i b = (0, false) := by
 unfold nextT
 rw [if_neg (by rintro ⟨h1, h2⟩; omega)]
end Go.Proofs.YtglfdclpjmhoiaaGreat

/- Fewer places (layer 12), plain: what the stage's theorem wants: each kid stands at one place; the bases are the least; there are as many places as nodes at least. -/

namespace Go.Proofs.YtglfdclpjmhoiaaGreat
open Go Go.RowKit Go.Sort

/-- A kid, by its row of the trie. -/
theorem kid_row {fold : Bool} {ws : List (List Int)} (h : OkT fold ws) {node : Nat} {q : Nat × Nat} : q ∈ kQ fold ws node ↔ 1 ≤ q.2 ∧ q.2 < (nodesL ws).length ∧ (trieP ws).up[q.2]? = some (node : Int) ∧ ∃ c : Nat, (trieP ws).byt[q.2]? = some (c : Int) ∧ c < 256 ∧ (clsP fold ws)[c]? = some (q.1 : Int) := by
 constructor
 ·
  intro hq
  obtain ⟨x, c, j, h1, h2, rfl⟩ := (mem_kQ h.great h.byt).1 hq
  have hj := (List.getElem?_eq_some_iff.1 h2).1
  obtain ⟨t1, t2, _, _⟩ := trie_row h2
  have hw := node_word (List.mem_of_getElem? h2)
  have hc := h.byt _ hw
  have h0 : j ≠ 0 := fun e => by
   subst e
   rw [nodesL_head] at h2
   have := Option.some.inj h2
   simp at this
  refine ⟨by show 1 ≤ j; omega, hj, ?_, c, ?_, by omega, ?_⟩
  ·
   show (trieP ws).up[j]? = _
   rw [t1, List.dropLast_concat, placeS_at (nodesL_srt ws).nodup h1]
  ·
   show (trieP ws).byt[j]? = _
   rw [t2]
   unfold lastB
   simp
  · rw [cls_in h.great (by omega), if_pos (inB_word hw)]
 ·
  rintro ⟨h1, h2, h3, c, h4, h5, h6⟩
  obtain ⟨y, hy⟩ : ∃ y, (nodesL ws)[q.2]? = some y := ⟨(nodesL ws)[q.2]'h2, by simp⟩
  obtain ⟨t1, t2, _, _⟩ := trie_row hy
  have hne : y ≠ [] := fun e => by
   have := (node_zero hy).2 e
   omega
  rw [t1] at h3
  rw [t2] at h4
  have e := snoc_last hne
  rw [Option.some.inj h4] at e
  have hup := up_mem (List.mem_of_getElem? hy)
  obtain ⟨j, hj⟩ := List.getElem?_of_mem hup
  have hjn : j = node := by
   have := placeS_at (nodesL_srt ws).nodup hj
   rw [this] at h3
   have := Option.some.inj h3
   omega
  subst hjn
  refine (mem_kQ h.great h.byt).2 ⟨y.dropLast, c, q.2, hj, by rw [← e]; exact hy, ?_⟩
  have hw : wordB ws (c : Int) := by
   have := List.mem_of_getElem? hy
   rw [e] at this
   exact node_word this
  rw [cls_in h.great h5, if_pos (inB_word hw)] at h6
  have := Option.some.inj h6
  refine Prod.ext ?_ rfl
  show q.1 = clsO (inB fold ws) fold c
  omega
/-- Who stands at a place. -/
theorem place_kid {fold : Bool} {ws : List (List Int)} (h : OkT fold ws) {p : Nat} {o : Int} (ho : (owW fold ws)[p]? = some o) (h0 : 0 ≤ o) :
  ∃ k c v b : Nat, (kiW fold ws)[p]? = some (k : Int) ∧ 1 ≤ k ∧ k < (nodesL ws).length ∧ (trieP ws).up[k]? = some o ∧ (trieP ws).byt[k]? = some (c : Int) ∧ c < 256 ∧ (clsP fold ws)[c]? = some (v : Int) ∧ baT (baW fold ws) o = (b : Int) ∧ p = b + v ∧ o < ((nodesL ws).length : Int) := by
 rcases (plW h).own p o ho with ⟨e, _⟩ | ⟨node, b, e, hn, hb, q, hq, hp, hk⟩
 · omega
 ·
  obtain ⟨h1, h2, h3, c, h4, h5, h6⟩ := (kid_row h).1 hq
  subst e
  exact ⟨q.2, c, q.1, b, hk, h1, h2, h3, h4, h5, h6, by rw [baT_node h hn, hb]; rfl, hp, by omega⟩
/-- Each kid stands at one place. -/
theorem kid_place {fold : Bool} {ws : List (List Int)} (h : OkT fold ws) {k : Nat} (h1 : 1 ≤ k) (h2 : k < (nodesL ws).length) :
  ∃ (q : Nat) (o : Int), (owW fold ws)[q]? = some o ∧ 0 ≤ o ∧ (kiW fold ws)[q]? = some (k : Int) ∧ 1 ≤ q ∧ ∀ (p : Nat) (o' : Int), (owW fold ws)[p]? = some o' → 0 ≤ o' → (kiW fold ws)[p]? = some (k : Int) → p = q := by
 obtain ⟨y, hy⟩ : ∃ y, (nodesL ws)[k]? = some y := ⟨(nodesL ws)[k]'h2, by simp⟩
 have hne : y ≠ [] := fun e => by
  have := (node_zero hy).2 e
  omega
 have e := snoc_last hne
 obtain ⟨j, hj⟩ := List.getElem?_of_mem (up_mem (List.mem_of_getElem? hy))
 have hjl := (List.getElem?_eq_some_iff.1 hj).1
 have hw : wordB ws (lastB y) := by
  have := List.mem_of_getElem? hy
  rw [e] at this
  exact node_word this
 have hc := h.byt _ hw
 obtain ⟨c, hcn⟩ : ∃ c : Nat, lastB y = (c : Int) := ⟨(lastB y).toNat, by omega⟩
 rw [hcn] at e
 have hq : (clsO (inB fold ws) fold c, k) ∈ kQ fold ws j := (mem_kQ h.great h.byt).2 ⟨y.dropLast, c, k, hj, by rw [← e]; exact hy, rfl⟩
 have hne2 : kQ fold ws j ≠ [] := fun e => by rw [e] at hq; cases hq
 obtain ⟨b, hb, hst, _⟩ := (plW h).std j hjl hne2
 obtain ⟨s1, s2⟩ := hst _ hq
 have hpos := clsO_pos (inB fold ws) fold c
 refine ⟨_, _, s1, by omega, s2, by show 1 ≤ b + clsO (inB fold ws) fold c; omega, fun p o' ho' h0' hk' => ?_⟩
 rcases (plW h).own p o' ho' with ⟨e1, _⟩ | ⟨node, b', e1, hn', hb', q', hq', hp', hk2⟩
 · omega
 ·
  rw [hk'] at hk2
  have hk3 : q'.2 = k := by have := Option.some.inj hk2; omega
  obtain ⟨i1, i2, i3, _⟩ := (kid_row h).1 hq'
  rw [hk3] at i3
  obtain ⟨i1', i2', i3', _⟩ := (kid_row h).1 hq
  have hnj : node = j := by
   have e5 : (trieP ws).up[k]? = some (j : Int) := i3'
   rw [e5] at i3
   have := Option.some.inj i3
   omega
  subst hnj
  rw [hb] at hb'
  have hbb : b = b' := by have := Option.some.inj hb'; omega
  obtain ⟨x1, c1, j1, u1, u2, u3⟩ := (mem_kQ h.great h.byt).1 hq'
  have hj1 : j1 = k := by rw [u3] at hk3; exact hk3
  subst hj1
  rw [hy] at u2
  have u4 := Option.some.inj u2
  rw [e] at u4
  have u5 : (c : Int) = (c1 : Int) := by have := (List.append_inj' u4 rfl).2; simpa using this
  have u6 : c = c1 := by omega
  rw [hp', hbb, u3, u6]
/-- How often each node stands, up to a place. -/
def stC (ow ki : List Int) (n : Nat) : Nat → List Int
 | 0 => List.replicate n 0
 | p + 1 => match ow[p]? with
  | some o => if 0 ≤ o then (stC ow ki n p).set ((ki[p]?).getD 0).toNat (((stC ow ki n p)[((ki[p]?).getD 0).toNat]?).getD 0 + 1) else stC ow ki n p
  | none => stC ow ki n p
theorem stC_len (ow ki : List Int) (n : Nat) : ∀ p, (stC ow ki n p).length = n
 | 0 => by simp [stC]
 | p + 1 => by
  unfold stC
  split
  ·
   split
   · rw [List.length_set, stC_len]
   · exact stC_len ow ki n p
  · exact stC_len ow ki n p
theorem stC_at {fold : Bool} {ws : List (List Int)} (h : OkT fold ws) {k q : Nat} {o : Int} (hk : k < (nodesL ws).length) (hq : (owW fold ws)[q]? = some o) (h0 : 0 ≤ o) (hk2 : (kiW fold ws)[q]? = some (k : Int)) (hu : ∀ (p : Nat) (o' : Int), (owW fold ws)[p]? = some o' → 0 ≤ o' → (kiW fold ws)[p]? = some (k : Int) → p = q) :
  ∀ p, (stC (owW fold ws) (kiW fold ws) (nodesL ws).length p)[k]? = some (if q < p then 1 else 0)
 | 0 => by
  unfold stC
  rw [if_neg (by omega), List.getElem?_replicate, if_pos hk]
 | p + 1 => by
  have ih := stC_at h hk hq h0 hk2 hu p
  have hl := stC_len (owW fold ws) (kiW fold ws) (nodesL ws).length p
  unfold stC
  by_cases hpq : p = q
  ·
   subst hpq
   rw [hq]
   dsimp only
   rw [if_pos h0, hk2, Option.getD_some, Int.toNat_natCast, ih, if_neg (by omega), Option.getD_some, List.getElem?_set_self (by omega), if_pos (by omega)]
   rfl
  ·
   have e1 : (if q < p + 1 then (1 : Int) else 0) = if q < p then 1 else 0 := by
    by_cases hlt : q < p
    · rw [if_pos hlt, if_pos (by omega)]
    · rw [if_neg hlt, if_neg (by omega)]
   rw [e1]
   cases ho : (owW fold ws)[p]? with
   | none => exact ih
   | some o' =>
    dsimp only
    by_cases h0' : 0 ≤ o'
    ·
     rw [if_pos h0']
     obtain ⟨k', _, _, _, e2, e3, e4, _⟩ := place_kid h ho h0'
     rw [e2, Option.getD_some, Int.toNat_natCast]
     have hne : k' ≠ k := fun e => hpq (hu p o' ho h0' (by rw [e2, e]))
     rw [List.getElem?_set_ne hne]
     exact ih
    ·
     rw [if_neg h0']
     exact ih
theorem stC_end {fold : Bool} {ws : List (List Int)} (h : OkT fold ws) {k : Nat} (h1 : 1 ≤ k) (h2 : k < (nodesL ws).length) : (stC (owW fold ws) (kiW fold ws) (nodesL ws).length (owW fold ws).length)[k]? = some 1 := by
 obtain ⟨q, o, e1, e2, e3, _, e4⟩ := kid_place h h1 h2
 rw [stC_at h h2 e1 e2 e3 e4, if_pos (List.getElem?_eq_some_iff.1 e1).1]
/-- Each base is the least one. -/
theorem base_least {fold : Bool} {ws : List (List Int)} (h : OkT fold ws) {node d : Nat} (hn : node < (nodesL ws).length) (hd : (d : Int) < baT (baW fold ws) (node : Int)) :
  ∃ k c v o : Nat, 1 ≤ k ∧ k < (nodesL ws).length ∧ (trieP ws).up[k]? = some (node : Int) ∧ (trieP ws).byt[k]? = some (c : Int) ∧ c < 256 ∧ (clsP fold ws)[c]? = some (v : Int) ∧ (atT (owW fold ws) (kiW fold ws) ((d + v : Nat) : Int)).1 = (o : Int) ∧ o < node := by
 rw [baT_node h hn] at hd
 by_cases he : kQ fold ws node = []
 ·
  rw [(plW h).non node hn he, Option.getD_some] at hd
  omega
 ·
  obtain ⟨b, hb, _, hl⟩ := (plW h).std node hn he
  rw [hb, Option.getD_some] at hd
  obtain ⟨q, hq, o, ho, hon⟩ := hl d (by omega)
  obtain ⟨h1, h2, h3, c, h4, h5, h6⟩ := (kid_row h).1 hq
  obtain ⟨k, hk⟩ : ∃ k, (kiW fold ws)[d + q.1]? = some k := ⟨(kiW fold ws)[d + q.1]'(by have := (List.getElem?_eq_some_iff.1 ho).1; have := (plW h).len; omega), by simp⟩
  exact ⟨q.2, c, q.1, o, h1, h2, h3, h4, h5, h6, by rw [atT_some ho (by omega) hk], hon⟩
/-- There are as many places as nodes at least; the last one is not free. -/
theorem inj_le : ∀ (n m : Nat) (f : Nat → Nat), (∀ k, k < n → f k < m) → (∀ j k, j < n → k < n → f j = f k → j = k) → n ≤ m := by
 intro n m
 induction m generalizing n with
 | zero =>
  intro f hf hi
  cases n with
  | zero => exact Nat.le_refl _
  | succ n => exact absurd (hf 0 (by omega)) (by omega)
 | succ m ih =>
  intro f hf hi
  cases n with
  | zero => exact Nat.zero_le _
  | succ n =>
   have hn := hf n (by omega)
   have := ih n (fun i => if f i = m then f n else f i) (fun k hk => by
    have h1 := hf k (by omega)
    split
    ·
     rename_i e
     have : f n ≠ m := fun e2 => by have := hi k n (by omega) (by omega) (e.trans e2.symm); omega
     omega
    · omega) (fun j k hj hk e => by
    by_cases e1 : f j = m
    ·
     rw [if_pos e1] at e
     by_cases e2 : f k = m
     · exact hi j k (by omega) (by omega) (e1.trans e2.symm)
     ·
      rw [if_neg e2] at e
      have := hi n k (by omega) (by omega) e
      omega
    ·
     rw [if_neg e1] at e
     by_cases e2 : f k = m
     ·
      rw [if_pos e2] at e
      have := hi j n (by omega) (by omega) e
      omega
     ·
      rw [if_neg e2] at e
      exact hi j k (by omega) (by omega) e)
   omega
theorem places_many {fold : Bool} {ws : List (List Int)} (h : OkT fold ws) (hw : ws ≠ []) (hw1 : ∀ x ∈ ws, x.length ≠ 0) : (nodesL ws).length ≤ (owW fold ws).length ∧ (owW fold ws).length ≤ (nodesL ws).length * manyP fold ws ∧ 0 < (owW fold ws).length ∧ ∃ o : Nat, (atT (owW fold ws) (kiW fold ws) (((owW fold ws).length : Int) - 1)).1 = (o : Int) := by
 obtain ⟨x, hx⟩ := List.exists_mem_of_ne_nil ws hw
 have h2n : 2 ≤ (nodesL ws).length := by
  have hm : x ∈ nodesL ws := (mem_nodesL ws).2 (IsBeg.iff.2 (.inr ⟨fun e => hw1 x hx (by rw [e]; rfl), x, hx, List.prefix_rfl⟩))
  obtain ⟨i, hi⟩ := List.getElem?_of_mem hm
  have hl := (List.getElem?_eq_some_iff.1 hi).1
  have : i ≠ 0 := fun e => hw1 x hx (by rw [(node_zero hi).1 e]; rfl)
  omega
 have hf : ∀ k, 1 ≤ k → k < (nodesL ws).length → ∃ q, 1 ≤ q ∧ q < (owW fold ws).length ∧ (kiW fold ws)[q]? = some (k : Int) := fun k h1 h2 => by
  obtain ⟨q, o, e1, e2, e3, e5, e4⟩ := kid_place h h1 h2
  exact ⟨q, e5, (List.getElem?_eq_some_iff.1 e1).1, e3⟩
 obtain ⟨q1, a1, a2, _⟩ := hf 1 (Nat.le_refl _) (by omega)
 refine ⟨?_, (plW h).big, by omega, ?_⟩
 ·
  refine inj_le _ _ (fun k => if hk : 1 ≤ k ∧ k < (nodesL ws).length then (hf k hk.1 hk.2).choose else 0) (fun k hk => ?_) (fun j k hj hk e => ?_)
  ·
   split
   ·
    rename_i hh
    exact (hf k hh.1 hh.2).choose_spec.2.1
   · omega
  ·
   by_cases h1 : 1 ≤ j ∧ j < (nodesL ws).length
   ·
    have s1 := (hf j h1.1 h1.2).choose_spec
    rw [dif_pos h1] at e
    by_cases h2 : 1 ≤ k ∧ k < (nodesL ws).length
    ·
     have s2 := (hf k h2.1 h2.2).choose_spec
     rw [dif_pos h2] at e
     rw [e, s2.2.2] at s1
     have := Option.some.inj s1.2.2
     omega
    ·
     rw [dif_neg h2] at e
     omega
   ·
    rw [dif_neg h1] at e
    by_cases h2 : 1 ≤ k ∧ k < (nodesL ws).length
    ·
     have s2 := (hf k h2.1 h2.2).choose_spec
     rw [dif_pos h2] at e
     omega
    · omega
 ·
  obtain ⟨o, ho⟩ := (plW h).lst (by omega)
  obtain ⟨k, hk⟩ : ∃ k, (kiW fold ws)[(owW fold ws).length - 1]? = some k := ⟨(kiW fold ws)[(owW fold ws).length - 1]'(by have := (plW h).len; omega), by simp⟩
  refine ⟨o, ?_⟩
  rw [show ((owW fold ws).length : Int) - 1 = (((owW fold ws).length - 1 : Nat) : Int) by omega, atT_some ho (by omega) hk]
end Go.Proofs.YtglfdclpjmhoiaaGreat

/- Fewer places (layer 12): what stands at a place, a node's kid, where one goes on; walked. -/

namespace Go.Proofs.YtglfdclpjmhoiaaGreat
open Go.RowKit Go.Sort

set_option maxRecDepth 100000
set_option maxHeartbeats 4000000
theorem base12_all {T : Nat} {L : List Int} {Tr : TrieT} {t : SpV} {lk ow ki ba : List Int} (i : Int) (w : World) (h : SpT w T L Tr t lk ow ki ba) (hb : ba.length = Tr.up.length) :
  Calls Tryz.prog 14 #[.pointer (some ⟨T, 0, none⟩), .int .i64 i] w fun e w' => e = .returned (.int .i64 (baT ba i)) ∧ w = w' := by
 by_cases h0 : 0 ≤ i
 ·
  obtain ⟨n, rfl⟩ := Int.eq_ofNat_of_zero_le h0
  have e : baT ba (n : Int) = (ba[n]?).getD (-1) := by
   unfold baT
   by_cases hn : n < ba.length
   · rw [if_pos ⟨by omega, by omega⟩, Int.toNat_natCast]
   · rw [if_neg (by omega), List.getElem?_eq_none (by omega)]; rfl
  rw [e]
  exact base12_any n w h hb
 ·
  have e : baT ba i = -1 := by unfold baT; rw [if_neg (by omega)]
  rw [e]
  have his := is12_any T t.un t.uc t.ua L _ _ _ _ _ i w h.sk
  have e1 : decide (0 ≤ i ∧ i < (t.un : Int)) = false := decide_eq_false (fun h => h0 h.1)
  rw [e1] at his
  clear h h0 e e1
  go_enter Tryz.func14, Tryz.ntmps14
  go_wp2_with (go_at_call 31; refine his.mono ?_; rintro e w' ⟨rfl, rfl⟩)
  go_ret
  exact ⟨rfl, rfl⟩
theorem at12_any {T : Nat} {L : List Int} {Tr : TrieT} {t : SpV} {lk ow ki ba : List Int} (p : Int) (w : World) (h : SpT w T L Tr t lk ow ki ba) (hl : ow.length = ki.length) :
  Calls Tryz.prog 11 #[.pointer (some ⟨T, 0, none⟩), .int .i64 p] w fun e w' => e = .returned (.tuple #[.int .i64 (atT ow ki p).1, .int .i64 (atT ow ki p).2]) ∧ Below w.heap.size w w' := by
 by_cases h0 : p < 0
 ·
  have e : atT ow ki p = (-1, 0) := by unfold atT; rw [if_pos (.inl h0)]
  have d0 : decide (p < 0) = true := by simpa using h0
  rw [e]
  dsimp only
  clear h h0 e
  go_enter Tryz.func11, Tryz.ntmps11
  go_wp2
  go_ret2
  exact ⟨rfl, Below.refl _ _⟩
 ·
  obtain ⟨q, rfl⟩ := Int.eq_ofNat_of_zero_le (by omega : 0 ≤ p)
  have hf := free12_any T t.on t.oc t.oa L ow _ _ _ _ _ q w h.sk h.ow
  have d0 : decide ((q : Int) < 0) = false := by simp
  have i0 : (0 : Int) ≤ (q : Int) := by omega
  cases hfr : freeP ow q with
  | true =>
   rw [hfr] at hf
   rw [atT_free hfr]
   dsimp only
   clear h h0 hfr
   go_enter Tryz.func11, Tryz.ntmps11
   go_wp2_with (go_at_call 30; refine hf.mono ?_; rintro e w' ⟨rfl, rfl⟩)
   go_ret2
   exact ⟨rfl, Below.refl _ _⟩
  | false =>
   rw [hfr] at hf
   obtain ⟨o, ho, h1⟩ := freeP_no hfr
   have hq := (List.getElem?_eq_some_iff.1 ho).1
   have hon : ow.length = t.on := h.ow.1
   have hkn : ki.length = t.kn := h.ki.1
   obtain ⟨b0, o0, z, e0, hl0, c0, hz⟩ := sl1_at h.ow (by omega : q < t.on)
   obtain ⟨b1, o1, k, e1, hl1, c1, hk⟩ := sl1_at h.ki (by omega : q < t.kn)
   have hzo : z = o := by rw [ho] at hz; exact (Option.some.inj hz).symm
   subst hzo
   rw [atT_some ho h1 hk]
   obtain ⟨_, s0, s1, _⟩ := h.sk.cells
   rw [e0] at s0
   rw [e1] at s1
   have i1 : (q : Int) < (t.on : Int) := by omega
   have i2 : (q : Int) < (t.kn : Int) := by omega
   dsimp only
   clear h h0 hfr ho h1 hq hon hkn hz hk hl e0 e1
   go_enter Tryz.func11, Tryz.ntmps11
   go_upto_region 3 with (go_at_call 30; refine hf.mono ?_; rintro e w' ⟨rfl, rfl⟩)
   have hd := bel_drewN w 1
   go_region
   go_wp2
   go_ret2
   exact ⟨rfl, hd⟩
theorem kid12_any {T : Nat} {L : List Int} {Tr : TrieT} {t : SpV} {lk ow ki ba : List Int} (i : Int) (c : Nat) (w : World) (h : SpT w T L Tr t lk ow ki ba) (hl : ow.length = ki.length) (hb : ba.length = Tr.up.length) (hc : c < 256)
  (hB : ∀ v ∈ ba, v ≤ 1000000) (hL : ∀ v ∈ L, 0 ≤ v ∧ v ≤ 1000) :
  Calls Tryz.prog 12 #[.pointer (some ⟨T, 0, none⟩), .int .i64 i, .int .u8 (c : Int)] w fun e w' => e = .returned (.tuple #[.int .i64 (kidT L ow ki ba i c).1, .bool (kidT L ow ki ba i c).2]) ∧ Below w.heap.size w w' := by
 have hb12 := base12_all i w h hb
 have hbd : baT ba i ≤ 1000000 := by
  unfold baT
  split
  ·
   cases hv : ba[i.toNat]? with
   | none => simp
   | some v => exact hB v (List.mem_of_getElem? hv)
  · omega
 by_cases h0 : baT ba i < 0
 ·
  have e : kidT L ow ki ba i c = (0, false) := by unfold kidT; rw [if_pos h0]
  rw [e]
  obtain ⟨b, hbe⟩ : ∃ b, baT ba i = b := ⟨_, rfl⟩
  rw [hbe] at hb12 h0
  have d0 : decide (b < 0) = true := by simpa using h0
  dsimp only
  clear h h0 e hbe hbd
  go_enter Tryz.func12, Tryz.ntmps12
  go_wp2_with (go_at_call 14; refine hb12.mono ?_; rintro e w' ⟨rfl, rfl⟩)
  go_ret2
  exact ⟨rfl, Below.refl _ _⟩
 ·
  obtain ⟨v, hv⟩ : ∃ v, L[c]? = some v := ⟨L[c]'(by rw [h.sk.len]; exact hc), by simp⟩
  have hvb := hL v (List.mem_of_getElem? hv)
  have e : kidT L ow ki ba i c = if (atT ow ki (baT ba i + v)).1 = i then ((atT ow ki (baT ba i + v)).2, true) else (0, false) := by
   unfold kidT; rw [if_neg h0, hv]; rfl
  rw [e]
  have hcl := h.sk.cls hv
  have hat := at12_any (baT ba i + v) w h hl
  obtain ⟨b, hbe⟩ : ∃ b, baT ba i = b := ⟨_, rfl⟩
  rw [hbe] at hb12 h0 hbd hat ⊢
  obtain ⟨⟨o, k⟩, hok⟩ : ∃ q, atT ow ki (b + v) = q := ⟨_, rfl⟩
  rw [hok] at hat ⊢
  dsimp only at hat ⊢
  have d0 : decide (b < 0) = false := by simpa using h0
  have hw : IntKind.i64.wrap (b + v) = b + v := by rw [IntKind.wrap_i64]; go_num
  have j0 : (0 : Int) ≤ (c : Int) := by omega
  have j1 : (c : Int) < 256 := by omega
  clear h h0 e hbe hok hv hL hB
  by_cases hoi : o = i
  ·
   subst hoi
   rw [if_pos rfl]
   dsimp only
   go_enter Tryz.func12, Tryz.ntmps12
   go_wp2_with (first | (go_at_call 14; refine hb12.mono ?_; rintro e w' ⟨rfl, rfl⟩) | (go_at_call 11; refine hat.mono ?_; rintro e w' ⟨rfl, hbw⟩))
   go_ret2
   exact ⟨rfl, hbw⟩
  ·
   rw [if_neg hoi]
   have d1 : (o == i) = false := by simpa using hoi
   have d2 : (o != i) = true := by simpa using hoi
   dsimp only
   clear hoi
   go_enter Tryz.func12, Tryz.ntmps12
   go_wp2_with (first | (go_at_call 14; refine hb12.mono ?_; rintro e w' ⟨rfl, rfl⟩) | (go_at_call 11; refine hat.mono ?_; rintro e w' ⟨rfl, hbw⟩))
   go_ret2
   exact ⟨rfl, hbw⟩
/-- The words' table, in memory. -/
structure SpM (W : World) (T : Nat) (fold : Bool) (wss : List (List Int)) (t : SpV) : Prop where
 tb : SpT W T (clsP fold wss) (trieP wss) t (linksP wss) (owW fold wss) (kiW fold wss) (baW fold wss)
theorem SpM.below {W V : World} {T : Nat} {fold : Bool} {wss : List (List Int)} {t : SpV} (h : SpM W T fold wss t) (hb : Below W.heap.size W V) : SpM V T fold wss t := ⟨h.tb.below hb⟩
section
variable {fold : Bool} {wss : List (List Int)}
theorem many257 : manyP fold wss ≤ 257 := (clsN_many _ _ _).2
theorem baW_le (hk : OkT fold wss) (hn : (nodesL wss).length ≤ 400) : ∀ v ∈ baW fold wss, v ≤ 1000000 := fun v hv => by
 have hP := plW hk
 obtain ⟨i, hi⟩ := List.getElem?_of_mem hv
 have hil : i < (nodesL wss).length := by rw [← hP.bal]; exact (List.getElem?_eq_some_iff.1 hi).1
 by_cases he : kQ fold wss i = []
 ·
  rw [hP.non i hil he] at hi
  have := Option.some.inj hi
  omega
 ·
  obtain ⟨b, hb, hst, _⟩ := hP.std i hil he
  rw [hb] at hi
  have hvb := Option.some.inj hi
  obtain ⟨q, hq⟩ := List.exists_mem_of_ne_nil _ he
  have hl := (List.getElem?_eq_some_iff.1 (hst q hq).1).1
  have hbig := hP.big
  have hm := many257 (fold := fold) (wss := wss)
  have : (nodesL wss).length * manyP fold wss ≤ 400 * 257 := Nat.mul_le_mul hn hm
  omega
theorem clsP_le (hk : OkT fold wss) : ∀ v ∈ clsP fold wss, 0 ≤ v ∧ v ≤ 1000 := fun v hv => by
 obtain ⟨c, hc⟩ := List.getElem?_of_mem hv
 have hcl : c < 256 := by rw [← clsP_len fold wss]; exact (List.getElem?_eq_some_iff.1 hc).1
 rw [cls_in hk.great hcl] at hc
 have e := Option.some.inj hc
 split at e
 ·
  rename_i hp
  have h1 := clsO_lt (inB_shut hk.great) hp hcl
  have h2 := many257 (fold := fold) (wss := wss)
  have h3 : manyP fold wss = (clsN (inB fold wss) fold 256).2 := rfl
  omega
 · omega
theorem SpM.base {W : World} {T : Nat} {t : SpV} (h : SpM W T fold wss t) (hk : OkT fold wss) (i : Int) :
  Calls Tryz.prog 14 #[.pointer (some ⟨T, 0, none⟩), .int .i64 i] W fun e w' => e = .returned (.int .i64 (baT (baW fold wss) i)) ∧ W = w' := base12_all i W h.tb (by rw [(plW hk).bal, up_len])
theorem SpM.at_ {W : World} {T : Nat} {t : SpV} (h : SpM W T fold wss t) (hk : OkT fold wss) (p : Int) :
  Calls Tryz.prog 11 #[.pointer (some ⟨T, 0, none⟩), .int .i64 p] W fun e w' => e = .returned (.tuple #[.int .i64 (atT (owW fold wss) (kiW fold wss) p).1, .int .i64 (atT (owW fold wss) (kiW fold wss) p).2]) ∧ Below W.heap.size W w' := at12_any p W h.tb (plW hk).len
/-- The kid, told. -/
def kidW (fold : Bool) (wss : List (List Int)) (i : Int) (c : Nat) : Int × Bool := if 0 ≤ i ∧ i < ((nodesL wss).length : Int) then findP (nodesL wss) ((nodesL wss)[i.toNat]?.getD [] ++ [fcB fold c]) else (0, false)
theorem kidW_node {j : Nat} {x : List Int} (hx : (nodesL wss)[j]? = some x) (c : Nat) : kidW fold wss (j : Int) c = findP (nodesL wss) (x ++ [fcB fold c]) := by
 have hj := (List.getElem?_eq_some_iff.1 hx).1
 unfold kidW
 rw [if_pos ⟨by omega, by omega⟩, Int.toNat_natCast, hx, Option.getD_some]
theorem kidW_out {i : Int} (hi : i < 0 ∨ ((nodesL wss).length : Int) ≤ i) (c : Nat) : kidW fold wss i c = (0, false) := by
 unfold kidW
 rw [if_neg (by rintro ⟨h1, h2⟩; omega)]
theorem kidT_W (hk : OkT fold wss) (i : Int) {c : Nat} (hc : c < 256) : kidT (clsP fold wss) (owW fold wss) (kiW fold wss) (baW fold wss) i c = kidW fold wss i c := by
 by_cases hi : 0 ≤ i ∧ i < ((nodesL wss).length : Int)
 ·
  obtain ⟨j, rfl⟩ := Int.eq_ofNat_of_zero_le hi.1
  obtain ⟨x, hx⟩ : ∃ x, (nodesL wss)[j]? = some x := ⟨(nodesL wss)[j]'(by omega), by simp⟩
  rw [kidT_node hk hx hc, kidW_node hx]
 · rw [kidT_out hk (by omega), kidW_out (by omega)]
theorem SpM.kid {W : World} {T : Nat} {t : SpV} (h : SpM W T fold wss t) (hk : OkT fold wss) (hn : (nodesL wss).length ≤ 400) (i : Int) (c : Nat) (hc : c < 256) :
  Calls Tryz.prog 12 #[.pointer (some ⟨T, 0, none⟩), .int .i64 i, .int .u8 (c : Int)] W fun e w' => e = .returned (.tuple #[.int .i64 (kidW fold wss i c).1, .bool (kidW fold wss i c).2]) ∧ Below W.heap.size W w' := by
 have h1 := kid12_any i c W h.tb (plW hk).len (by rw [(plW hk).bal, up_len]) hc (baW_le hk hn) (clsP_le hk)
 rw [kidT_W hk i hc] at h1
 exact h1
theorem on12_any {T : Nat} {t : SpV} (hk : OkT fold wss) (hn : (nodesL wss).length ≤ 400) (j : Nat) (x : List Int) (c : Nat) (w : World) (h : SpM w T fold wss t) (hx : (nodesL wss)[j]? = some x) (hc : c < 256) :
    Calls Tryz.prog 32 #[.pointer (some ⟨T, 0, none⟩), .int .i64 (j : Int), .int .u8 (c : Int)] w fun e w' => e = .returned (.int .i64 (goesV wss x (fcB fold c))) ∧ Below w.heap.size w w' := by
  obtain ⟨G, hG⟩ : ∃ G, goesV wss x (fcB fold c) = G := ⟨_, rfl⟩
  rw [hG]
  obtain ⟨d, hd⟩ : ∃ d, fcB fold c = d := ⟨_, rfl⟩
  have hkd : ∀ i : Nat, Hid (∀ y, (nodesL wss)[i]? = some y → kidW fold wss (i : Int) c = findP (nodesL wss) (y ++ [d])) := fun i y hy => by rw [kidW_node hy, hd]
  rw [hd] at hG
  have HK := Lib.hid (fun V (hV : Below w.heap.size w V) i => (h.below hV).kid hk hn i c hc)
  have HC1 : Hid (∀ V, Below w.heap.size w V → V.cell? ⟨T, 1, none⟩ = some (.slice t.la t.ln t.lc) ∧ Sl1 (Value.int .i64) V t.la t.ln (linksP wss)) := fun V hV => ⟨(h.below hV).tb.sk.cells.1.2.1, (h.below hV).tb.lk⟩
  have hln : (nodesL wss).length = t.ln := by rw [← h.tb.lk.1, linksP_len]
  have HG := Lib.hid hG
  have HX := Lib.hid hx
  have HLN := Lib.hid hln
  clear hG hd hx hln h
  go_enter Tryz.func32, Tryz.ntmps32
  go_upto_region 1 with fail
  go_loopw [1] (fun s1 wr => ∃ (i : Nat) (y : List Int), s1 = .int .i64 (i : Int) ∧ Hid ((nodesL wss)[i]? = some y) ∧ Hid (goesV wss y d = G) ∧ Below w.heap.size w wr) (fun s _ => (intOf s).toNat)
  case atStart => exact ⟨j, x, rfl, HX, HG, Below.refl _ _⟩
  case round =>
    obtain ⟨i, y, rfl, HY, HGY, hBr⟩ := hrel
    have hil : i < t.ln := by rw [← HLN.out]; exact (List.getElem?_eq_some_iff.1 HY.out).1
    by_cases hm : y ++ [d] ∈ nodesL wss
    · have hq := HK.out wr hBr (i : Int)
      rw [(hkd i).out y HY.out, on_here hm, HGY.out] at hq
      clear hm
      go_wp2_with (go_at_call 12; refine hq.mono ?_; rintro e w1 ⟨rfl, hb1⟩)
      go_ret
      exact ⟨rfl, hBr.trans (hb1.mono hBr.size)⟩
    · have hq := HK.out wr hBr (i : Int)
      rw [(hkd i).out y HY.out, findP_no hm] at hq
      by_cases hi0 : i = 0
      · subst hi0
        have hy0 : y = [] := (node_zero HY.out).1 rfl
        subst hy0
        have hg0 : G = 0 := by rw [← HGY.out]; exact on_root hm
        subst hg0
        clear hm
        go_wp2_with (go_at_call 12; refine hq.mono ?_; rintro e w1 ⟨rfl, hb1⟩)
        go_ret
        exact ⟨rfl, hBr.trans (hb1.mono hBr.size)⟩
      · have hy0 : y ≠ [] := fun e => hi0 ((node_zero HY.out).2 e)
        obtain ⟨k, hk1, hk2, hk3⟩ := link_low HY.out hi0
        obtain ⟨b0, o0, z, e0, hl0, c0, hz⟩ := sl1_at (HC1.out wr hBr).2 hil
        have hzk : z = (k : Int) := by rw [hk1] at hz; exact (Option.some.inj hz).symm
        subst hzk
        have HY2 := Lib.hid hk3
        have HG2 : Hid (goesV wss (linkL (nodesL wss) y) d = G) := by rw [Hid, ← on_fall hy0 hm]; exact HGY.out
        have d0 : ((i : Int) == 0) = false := by simpa using hi0
        have d1 : (i == 0) = false := by simpa using hi0
        have i1 : (0 : Int) ≤ (i : Int) := by omega
        have i2 : (i : Int) < (t.ln : Int) := by omega
        have HK2 := Lib.hid hk2
        have HE0 := Lib.hid e0
        clear hm hy0 hk1 hk2 hk3 hz e0 hi0 hil
        go_wp2_with (go_at_call 12; refine hq.mono ?_; rintro e w1 ⟨rfl, hb1⟩
                     have hB1 := hBr.trans (hb1.mono hBr.size)
                     have hl1 := (HC1.out w1 hB1).1
                     rw [HE0.out] at hl1
                     have c1 := (hb1.cell (p := ⟨b0, o0 + i, none⟩) hl0).trans c0)
        go_roundw
        case rel => exact ⟨k, _, rfl, HY2, HG2, hB1⟩
        case measure =>
          have := HK2.out
          simp [intOf]
          omega
theorem next12_any {T : Nat} {t : SpV} (hk : OkT fold wss) (hn : (nodesL wss).length ≤ 400) (i : Int) (b : Option Addr) (lb cb : Nat) (bs : List Int) (w : World) (h : SpM w T fold wss t) (hX : Bys w b lb bs) (hlb : lb ≤ 1000000) :
  Calls Tryz.prog 13 #[.pointer (some ⟨T, 0, none⟩), .int .i64 i, .slice b lb cb] w fun e w' => e = .returned (.tuple #[.int .i64 (nextT fold wss i bs).1, .bool (nextT fold wss i bs).2]) ∧ Below w.heap.size w w' := by
 have his := is12_any T t.un t.uc t.ua (clsP fold wss) _ _ _ _ _ i w h.tb.sk
 have hlu : (nodesL wss).length = t.un := by rw [← h.tb.up.1, up_len]
 by_cases hi : 0 ≤ i ∧ i < (t.un : Int)
 ·
  rw [decide_eq_true hi] at his
  obtain ⟨j, rfl⟩ := Int.eq_ofNat_of_zero_le hi.1
  obtain ⟨x, hx⟩ : ∃ x, (nodesL wss)[j]? = some x := ⟨(nodesL wss)[j]'(by omega), by simp⟩
  rw [nextT_node hx]
  have HXM := Lib.hid (List.mem_of_getElem? hx)
  have HNX := Lib.hid hx
  have HX := Lib.hid hX
  have hbl := hX.1.1
  have HON := Lib.hid (fun V (hV : Below w.heap.size w V) (j : Nat) (x : List Int) (c : Nat) (hx : (nodesL wss)[j]? = some x) (hc : c < 256) => on12_any hk hn j x c V (h.below hV) hx hc)
  clear hi hlu h hX hx
  dsimp only
  go_enter Tryz.func13, Tryz.ntmps13
  go_upto_region 4 with (go_at_call 31; refine his.mono ?_; rintro e w' ⟨rfl, rfl⟩)
  go_loopw [1, 22] (fun s1 s22 wr => ∃ (q z : Nat) (y : List Int), q ≤ lb ∧ s22 = .int .i64 (q : Int) ∧ s1 = .int .i64 (z : Int) ∧ Hid ((nodesL wss)[z]? = some y) ∧ Hid (y = goesB fold wss x (bs.take q)) ∧ Hid (Below w.heap.size w wr)) (fun _ s _ => lb - (intOf s).toNat)
  case atStart => exact ⟨0, j, x, Nat.zero_le _, rfl, rfl, HNX, by rw [Hid, List.take_zero, goesB_nil HXM.out], Below.refl _ _⟩
  case round =>
   obtain ⟨q, z, y, hq, rfl, rfl, HY, HYG, HB⟩ := hrel
   by_cases hql : q < lb
   ·
    obtain ⟨b0, o0, cv, e0, hl0, cx, hc⟩ := sl1_at (HX.out.below HB.out).1 hql
    have hcb := HX.out.2 cv (List.mem_of_getElem? hc)
    obtain ⟨c, rfl⟩ : ∃ c : Nat, cv = (c : Int) := ⟨cv.toNat, by omega⟩
    subst e0
    have hcall := HON.out wr HB.out z y c HY.out (by omega)
    obtain ⟨G, hG⟩ : ∃ G, goesV wss y (fcB fold (c : Int)) = G := ⟨_, rfl⟩
    rw [hG] at hcall
    have hGN : ∃ (z' : Nat) (y' : List Int), G = (z' : Int) ∧ (nodesL wss)[z']? = some y' ∧ y' = goesB fold wss x (bs.take (q + 1)) := by
     have e1 : bs.take (q + 1) = bs.take q ++ [(c : Int)] := by rw [take_step hc]
     obtain ⟨z', h1, h2, _⟩ := node_ex (goesB_mem (fold := fold) (ws := wss) (x := x) (bs.take (q + 1)))
     refine ⟨z', _, ?_, h1, rfl⟩
     rw [← hG, HYG.out, ← h2, e1, goesB_snoc]
    obtain ⟨z', y', rfl, h1, h2⟩ := hGN
    have HY2 := Lib.hid h1
    have HG2 := Lib.hid h2
    have d0 : decide ((q : Int) < (lb : Int)) = true := by simp; omega
    have d0' : decide (q < lb) = true := by simp; omega
    have i0 : (0 : Int) ≤ (q : Int) := by omega
    have i1 : (q : Int) < (lb : Int) := by omega
    clear hG hcb hc hql h1 h2
    go_wp2_with (go_at_call 32; refine hcall.mono ?_; rintro e w1 ⟨rfl, hb1⟩; have HB2 := Lib.hid (HB.out.trans (hb1.mono HB.out.size)); clear hb1)
    go_roundw
    case rel => exact ⟨q + 1, z', y', by omega, by go_num, rfl, HY2, HG2, HB2⟩
    case measure => simp [intOf]; omega
   ·
    obtain rfl : q = lb := by omega
    have d0 : decide ((q : Int) < (q : Int)) = false := by simp
    have HR : Hid (nodeI wss (goesB fold wss x bs) = (z : Int)) := by
     have h1 := HYG.out
     rw [List.take_of_length_le (by rw [hbl]; exact Nat.le_refl _)] at h1
     rw [Hid, ← h1, nodeI_at HY.out]
    clear hql
    go_wp2
    go_ret2
    exact ⟨by rw [HR.out]; rfl, HB.out⟩
 ·
  rw [decide_eq_false hi] at his
  have hR : nextT fold wss i bs = (0, false) := nextT_out (by omega) bs
  rw [hR]
  dsimp only
  clear hi hlu h hX hR
  go_enter Tryz.func13, Tryz.ntmps13
  go_wp2_with (go_at_call 31; refine his.mono ?_; rintro e w' ⟨rfl, rfl⟩)
  go_ret2
  exact ⟨rfl, Below.refl _ _⟩
end
end Go.Proofs.YtglfdclpjmhoiaaGreat

/- What the document says of ushers (layer 11): plain. -/

namespace Go.Proofs.YtglfdclpjmhoiaaGreat

theorem he_right11 : rightP false heW = true := by decide +kernel
theorem he_n11 : (nodesL heW).length = 7 := by decide +kernel
end Go.Proofs.YtglfdclpjmhoiaaGreat

/- A drawn region with held cells: a call that tells the same in whatever world; two calls of which either may come first. -/

namespace Go.Proofs.YtglfdclpjmhoiaaGreat
open Go.RowKit Go.Sort

section
variable {P : Program} {md : Region.Mode} {ops : Array Oper} {Q : Exit → Act → World → Prop} {S : World → Prop}
/-- An operation that is carried out in whatever world that meets S tells v, and S holds behind it. -/
def StepsTo (P : Program) (ops : Array Oper) (Q : Exit → Act → World → Prop) (S : World → Prop) (o : Oper) (v : Value) (a : Act) : Prop :=
 ∀ w, S w → ∀ K : Act → World → Prop, (∀ w', S w' → K (a.put o.dst v) w') → if Region.wanted o (yielded ops a.tmps) = true then Oper.wp P o a w K Q else K (a.put o.dst undef) w
theorem wpAnyH_one {i : Nat} {oi : Oper} {vi : Value} {fuel : Nat} {listed : Array Bool} {a : Act} (hi : ops[i]? = some oi) (hr : Region.ready md ops listed = [i]) (yi : StepsTo P ops Q S oi vi a)
  (H : ∀ w, S w → wpAnyH P md ops Q S fuel (listed.setIfInBounds i true) (a.put oi.dst vi) w) : ∀ w, S w → wpAnyH P md ops Q S (fuel + 1) listed a w := by
 intro w hS
 exact wpAnyH_ready hr (by simp) (AllReadyH.cons hi (fun K hK => yi w hS K (fun w' hS' => hK.out _ _ hS' (fun _ => H w' hS'))) AllReadyH.nil)
end
end Go.Proofs.YtglfdclpjmhoiaaGreat

/- The words he, she, her, laid. -/

namespace Go.Proofs.YtglfdclpjmhoiaaGreat
open Go.RowKit Go.Sort

theorem he_row (w W : World) (hW : W = (((w.alloc (.cells #[.int .u8 104, .int .u8 101] 5 (2, 3))).alloc (.cells #[.int .u8 115, .int .u8 104, .int .u8 101] 5 (3, 4))).alloc (.cells #[.int .u8 104, .int .u8 101, .int .u8 114] 5 (3, 4))).alloc
   (.cells #[.slice (some ⟨w.heap.size, 0, none⟩) 2 2, .slice (some ⟨w.heap.size + 1, 0, none⟩) 3 3, .slice (some ⟨w.heap.size + 1 + 1, 0, none⟩) 3 3] 25)) : Wds W (some ⟨w.heap.size + 1 + 1 + 1, 0, none⟩) 3 heW ∧ Below w.heap.size w W := by
 obtain ⟨A2, hA2⟩ : ∃ A2, A2 = w.alloc (.cells #[.int .u8 104, .int .u8 101] 5 (2, 3)) := ⟨_, rfl⟩
 rw [← hA2] at hW
 have z2 : A2.heap.size = w.heap.size + 1 := by rw [hA2]; simp
 have y1 : Bys A2 (some ⟨w.heap.size, 0, none⟩) 2 [104, 101] := by rw [hA2]; exact bys_lay [104, 101] (by simp) _ _ rfl
 have B2 : Below w.heap.size w A2 := by rw [hA2]; exact below_alloc _ _
 clear hA2
 obtain ⟨A3, hA3⟩ : ∃ A3, A3 = A2.alloc (.cells #[.int .u8 115, .int .u8 104, .int .u8 101] 5 (3, 4)) := ⟨_, rfl⟩
 rw [← hA3] at hW
 have z3 : A3.heap.size = w.heap.size + 1 + 1 := by rw [hA3]; simp [z2]
 have y2 : Bys A3 (some ⟨w.heap.size + 1, 0, none⟩) 3 [115, 104, 101] := by rw [hA3]; exact bys_lay [115, 104, 101] (by simp) _ _ z2
 have B3 : Below A2.heap.size A2 A3 := by rw [hA3]; exact below_alloc _ _
 clear hA3
 obtain ⟨A4, hA4⟩ : ∃ A4, A4 = A3.alloc (.cells #[.int .u8 104, .int .u8 101, .int .u8 114] 5 (3, 4)) := ⟨_, rfl⟩
 rw [← hA4] at hW
 have z4 : A4.heap.size = w.heap.size + 1 + 1 + 1 := by rw [hA4]; simp [z3]
 have y3 : Bys A4 (some ⟨w.heap.size + 1 + 1, 0, none⟩) 3 [104, 101, 114] := by rw [hA4]; exact bys_lay [104, 101, 114] (by simp) _ _ z3
 have B4 : Below A3.heap.size A3 A4 := by rw [hA4]; exact below_alloc _ _
 clear hA4
 have y4 : Sl1 (fun v : Option Addr × Nat × Nat => Value.slice v.1 v.2.1 v.2.2) W (some ⟨w.heap.size + 1 + 1 + 1, 0, none⟩) 3 [(some ⟨w.heap.size, 0, none⟩, 2, 2), (some ⟨w.heap.size + 1, 0, none⟩, 3, 3), (some ⟨w.heap.size + 1 + 1, 0, none⟩, 3, 3)] := by
  rw [hW]
  exact Sl1.lay (α := Option Addr × Nat × Nat) _ A4 [(some ⟨w.heap.size, 0, none⟩, 2, 2), (some ⟨w.heap.size + 1, 0, none⟩, 3, 3), (some ⟨w.heap.size + 1 + 1, 0, none⟩, 3, 3)] _ _ z4
 have B5 : Below A4.heap.size A4 W := by rw [hW]; exact below_alloc _ _
 exact ⟨wds3 y4 (((y1.below B3).below B4).below B5) ((y2.below B4).below B5) (y3.below B5) (Nat.le_refl _) (Nat.le_refl _) (Nat.le_refl _), B2.trans ((B3.trans ((B4.trans (B5.mono (by omega))).mono (by omega))).mono (by omega))⟩
end Go.Proofs.YtglfdclpjmhoiaaGreat

/- Fewer places (layer 12): the table as it is used; what is told of none; what the document says of he, she, her; walked. -/

namespace Go.Proofs.YtglfdclpjmhoiaaGreat
open Go.RowKit Go.Sort

theorem make12_use (fold : Bool) (a : Option Addr) (la ca : Nat) (wss : List (List Int)) (w : World) (hA : Wds w a la wss) (hla : la ≤ 1000000) (hM : ∀ x ∈ wss, x.length ≤ 1000000) (hT : (begL fold wss).length ≤ 1000000) (hr : rightP fold wss = true) :
  Calls Tryz.prog 10 #[.agg (setV fold a la ca)] w fun e w' => ∃ (T : Nat) (t : SpV), e = .returned (.tuple #[.pointer (some ⟨T, 0, none⟩), .int .i64 0]) ∧ SpM w' T fold wss t ∧ Below w.heap.size w w' := by
 refine (make12_yes fold a la ca wss w hA hla hM hT hr).mono ?_
 rintro e w' ⟨T, t, q, vo, vk, vs, rfl, hS, hT, hq, _, hb⟩
 have h1 := hS.oo
 have h2 := hS.kk
 have h3 := hS.ss
 unfold OwnI at h1 h2 h3
 obtain ⟨ao, co, rfl, _, s1⟩ := own_sl1 h1
 obtain ⟨ak, ck, rfl, _, s2⟩ := own_sl1 h2
 obtain ⟨as', cs, rfl, _, s3⟩ := own_sl1 h3
 have hl := hq.sl1
 rw [linksP_len] at hl
 exact ⟨T, ⟨t.ua, t.un, t.uc, some ⟨q, 0, none⟩, (nodesL wss).length, (nodesL wss).length, t.ba, t.bn, t.bc, ao, _, co, ak, _, ck, as', _, cs⟩, rfl, ⟨⟨hS.sk, hT.up, hl, hT.byt, s1, s2, s3⟩⟩, hb⟩
section
set_option maxRecDepth 100000
set_option maxHeartbeats 4000000
theorem base12_nil (i : Int) (w : World) : Calls Tryz.prog 14 #[.pointer none, .int .i64 i] w fun e w' => e = .returned (.int .i64 (-1)) ∧ w = w' := by
 go_enter Tryz.func14, Tryz.ntmps14
 go_wp2
 go_ret
 exact ⟨rfl, rfl⟩
theorem nodes12_nil (w : World) : Calls Tryz.prog 15 #[.pointer none] w fun e w' => e = .returned (.int .i64 0) ∧ w = w' := by
 go_enter Tryz.func15, Tryz.ntmps15
 go_wp2
 go_ret
 exact ⟨rfl, rfl⟩
theorem places12_nil (w : World) : Calls Tryz.prog 16 #[.pointer none] w fun e w' => e = .returned (.int .i64 0) ∧ w = w' := by
 go_enter Tryz.func16, Tryz.ntmps16
 go_wp2
 go_ret
 exact ⟨rfl, rfl⟩
theorem at12_nil (p : Int) (w : World) : Calls Tryz.prog 11 #[.pointer none, .int .i64 p] w fun e w' => e = .returned (.tuple #[.int .i64 (-1), .int .i64 0]) ∧ w = w' := by
 go_enter Tryz.func11, Tryz.ntmps11
 go_wp2
 go_ret2
 exact ⟨rfl, rfl⟩
theorem kid12_nil (i c : Int) (w : World) : Calls Tryz.prog 12 #[.pointer none, .int .i64 i, .int .u8 c] w fun e w' => e = .returned (.tuple #[.int .i64 0, .bool false]) ∧ w = w' := by
 go_enter Tryz.func12, Tryz.ntmps12
 go_wp2_with (go_at_call 14; refine (base12_nil _ _).mono ?_; rintro e w' ⟨rfl, rfl⟩)
 go_ret2
 exact ⟨rfl, rfl⟩
theorem next12_nil (i : Int) (b : Value) (w : World) : Calls Tryz.prog 13 #[.pointer none, .int .i64 i, b] w fun e w' => e = .returned (.tuple #[.int .i64 0, .bool false]) ∧ w = w' := by
 go_enter Tryz.func13, Tryz.ntmps13
 go_wp2
 go_ret2
 exact ⟨rfl, rfl⟩
end
theorem SpM.nodes {W : World} {T : Nat} {t : SpV} {fold : Bool} {wss : List (List Int)} (h : SpM W T fold wss t) : Calls Tryz.prog 15 #[.pointer (some ⟨T, 0, none⟩)] W fun e w' => e = .returned (.int .i64 ((nodesL wss).length : Int)) ∧ W = w' := by
 have := nodes12_any T t.un t.uc t.ua _ _ _ _ _ _ W h.tb.sk
 rwa [← h.tb.up.1, up_len] at this
theorem SpM.places {W : World} {T : Nat} {t : SpV} {fold : Bool} {wss : List (List Int)} (h : SpM W T fold wss t) : Calls Tryz.prog 16 #[.pointer (some ⟨T, 0, none⟩)] W fun e w' => e = .returned (.int .i64 ((owW fold wss).length : Int)) ∧ W = w' := by
 have := places12_any T t.on t.oc t.oa _ _ _ _ _ _ W h.tb.sk
 rwa [← h.tb.ow.1] at this
theorem SpM.bel {W : World} {T : Nat} {t : SpV} {fold : Bool} {wss : List (List Int)} (h : SpM W T fold wss t) : T < W.heap.size := h.tb.sk.lt

theorem he12_a : (nodesL heW).length = 7 ∧ (owW false heW).length = 7 ∧ baW false heW = [0, 0, 1, 2, 5, -1, -1] := by decide +kernel
theorem he12_b : atT (owW false heW) (kiW false heW) 6 = (4, 6) ∧ atT (owW false heW) (kiW false heW) 0 = (-1, 0) ∧ baT (baW false heW) 7 = -1 := by decide +kernel
theorem he12_c : nextT false heW 0 [117, 115, 104, 101] = (6, true) ∧ nextT false heW 6 [114] = (5, true) ∧ nextT false heW 7 [104] = (0, false) := by decide +kernel
theorem he12_d : kidW false heW 3 114 = (5, true) ∧ kidW false heW 0 101 = (0, false) := by decide +kernel
theorem he12_e : ∀ i, i < 7 → baT (baW false heW) (i : Nat) = [0, 0, 1, 2, 5, -1, -1].getD i 0 := by
 intro i hi
 have h := he12_a.2.2
 rw [h]
 have : ∀ i : Nat, i < 7 → baT [0, 0, 1, 2, 5, -1, -1] (i : Nat) = ([0, 0, 1, 2, 5, -1, -1] : List Int).getD i 0 := by decide
 exact this i hi
theorem he12_ok : OkT false heW := okT he_right11 (by decide)

set_option maxRecDepth 100000 in
set_option maxHeartbeats 8000000 in
theorem wakes12 (w : World) : Calls Tryz.prog 8 #[] w fun e w' => e = .returned (.bool true) ∧ Below w.heap.size w w' := by
 have kc := conv_lit
 obtain ⟨W, hW⟩ : ∃ W, W = (((w.alloc (.cells #[.int .u8 104, .int .u8 101] 5 (2, 3))).alloc (.cells #[.int .u8 115, .int .u8 104, .int .u8 101] 5 (3, 4))).alloc (.cells #[.int .u8 104, .int .u8 101, .int .u8 114] 5 (3, 4))).alloc
   (.cells #[.slice (some ⟨w.heap.size, 0, none⟩) 2 2, .slice (some ⟨w.heap.size + 1, 0, none⟩) 3 3, .slice (some ⟨w.heap.size + 1 + 1, 0, none⟩) 3 3] 25) := ⟨_, rfl⟩
 obtain ⟨hA, hB⟩ := he_row w W hW
 have HM := make12_use false (some ⟨w.heap.size + 1 + 1 + 1, 0, none⟩) 3 3 heW W hA (by decide) he_len he_beg he_right11
 have HB := Lib.hid hB
 rw [hW] at HM
 have HM := Lib.hid HM
 have HWW := Lib.hid hW
 clear hA hB hW
 go_enter Tryz.func8, Tryz.ntmps8
 go_upto_region 2 with (go_at_call 10; refine HM.out.mono ?_; rintro e w1 ⟨T, t, rfl, hS, hb⟩)
 rw [← HWW.out] at hb
 have hB1 : RowKit.Below w.heap.size w w1 := HB.out.trans (hb.mono HB.out.size)
 have HS1 : Hid (∀ V, RowKit.Below w1.heap.size w1 V → SpM V T false heW t ∧ RowKit.Below w.heap.size w V) := fun V hV => ⟨hS.below hV, hB1.trans (hV.mono hB1.size)⟩
 clear hb hB1 hS HM HB HWW kc
 have HM2 := Lib.hid (make12_no false none 0 0 [] w1 ⟨[], ⟨rfl, .inl rfl⟩, rfl, fun i v xs hv => by simp at hv⟩ (by decide) (by simp) (by decide) (by decide))
 go_upto_region 3 with (go_at_call 10; refine HM2.out.mono ?_; rintro e w2 ⟨rfl, hb2⟩)
 clear HM2
 go_upto_region 6 with fail
 obtain ⟨w3, hw3⟩ : ∃ X, X = w2.alloc (.cells #[.int .i64 0, .int .i64 0, .int .i64 1, .int .i64 2, .int .i64 5, .int .i64 (-1), .int .i64 (-1)] 3) := ⟨_, rfl⟩
 have hn3 : Sl1 (Value.int .i64) w3 (some ⟨w2.heap.size, 0, none⟩) 7 [0, 0, 1, 2, 5, -1, -1] := by rw [hw3]; exact Sl1.lay (Value.int .i64) _ [0, 0, 1, 2, 5, -1, -1] _ _ rfl
 have hb3 : RowKit.Below w1.heap.size w1 w3 := by rw [hw3]; exact hb2.alloc hb2.size _
 rw [← hw3]
 have HN3 := Lib.hid hn3
 have HB3 := Lib.hid hb3
 clear hn3 hb3 hw3 hb2
 go_upto_region 7 with fail
 go_loopw [6] (fun s6 wr => ∃ i : Nat, i ≤ 7 ∧ s6 = .int .i64 (i : Int) ∧ Hid (RowKit.Below w3.heap.size w3 wr)) (fun s _ => 7 - (intOf s).toNat)
 case atStart => exact ⟨0, by decide, rfl, RowKit.Below.refl _ _⟩
 case round =>
  obtain ⟨i, hi, rfl, HBR⟩ := hrel
  have HBR1 : Hid (RowKit.Below w1.heap.size w1 wr) := HB3.out.trans (HBR.out.mono HB3.out.size)
  by_cases hil : i < 7
  ·
   have hd : decide ((i : Int) < 7) = true := by simp; omega
   have hd' : decide (i < 7) = true := by simp; omega
   obtain ⟨b0, o0, x, e0, hl0, cx, hx⟩ := sl1_at (HN3.out.below HBR.out) hil
   cases e0
   have hbase : ∀ d os, Calls Tryz.prog 14 #[.pointer (some ⟨T, 0, none⟩), .int .i64 (i : Int)] (grow (redrawn wr d) os) fun e w' => e = .returned (.int .i64 x) ∧ grow (redrawn wr d) os = w' := fun d os => by
    have h := (HS1.out _ (HBR1.out.trans ((below_regrown wr d os).mono HBR1.out.size))).1.base he12_ok (i : Int)
    rw [he12_e i hil, List.getD_eq_getElem?_getD, hx] at h
    exact h
   rw [Nat.zero_add] at cx
   have kx := cell_regrown cx
   have i0 : (0 : Int) ≤ (i : Int) := by omega
   have i1 : (i : Int) < 7 := by omega
   clear hx hil cx
   go_upto_region 9 with fail
   refine wp_region_quiet_below mixed (by kernel_rfl) ?_
   repeat (go_big_quiet_step (exact grown_same (hbase _ _)))
   refine wpQuiet_nil ?_
   rintro _ ⟨⟨dq, osq⟩, rfl⟩
   have hb0 := below_regrown wr dq osq
   have HB2 : Hid (RowKit.Below w3.heap.size w3 (grow (redrawn wr dq) osq)) := HBR.out.trans (hb0.mono HBR.out.size)
   clear hb0 hbase kx
   go_wp2
   go_roundw
   case rel => exact ⟨i + 1, by omega, by go_num, HB2⟩
   case measure => simp [intOf]; omega
  ·
   obtain rfl : i = 7 := by omega
   have hd : decide ((7 : Int) < 7) = false := by decide
   have K0 := Lib.hid ((HS1.out wr HBR1.out).1.at_ he12_ok 6)
   rw [he12_b.1] at K0
   clear hil
   go_upto_region 12 with (go_at_call 11; refine K0.out.mono ?_; rintro e w4 ⟨rfl, hb4⟩)
   have HB4 := Lib.hid (HBR1.out.trans (hb4.mono HBR1.out.size))
   have K1 := Lib.hid ((HS1.out w4 HB4.out).1.at_ he12_ok 0)
   rw [he12_b.2.1] at K1
   clear hb4 K0 HBR1 HBR hd
   go_upto_region 13 with (go_at_call 11; refine K1.out.mono ?_; rintro e w5 ⟨rfl, hb5⟩)
   have HB5 := Lib.hid (HB4.out.trans (hb5.mono HB4.out.size))
   clear hb5 K1 HB4
   obtain ⟨V5, hV5⟩ : ∃ X, X = w5.alloc (.cells #[.int .u8 117, .int .u8 115, .int .u8 104, .int .u8 101] 5 (4, 5)) := ⟨_, rfl⟩
   have hbv5 : RowKit.Below w1.heap.size w1 V5 := by rw [hV5]; exact HB5.out.alloc HB5.out.size _
   have K2 := Lib.hid (next12_any he12_ok (by rw [he_n11]; decide) 0 (some ⟨w5.heap.size, 0, none⟩) 4 4 [117, 115, 104, 101] V5 (HS1.out V5 hbv5).1 (by rw [hV5]; exact bys_lay [117, 115, 104, 101] (by decide) _ _ rfl) (by decide))
   rw [he12_c.1] at K2
   have kc := conv_lit
   have HV5 := Lib.hid hV5
   clear hV5
   go_upto_region 14 with (rw [← HV5.out]; go_at_call 13; refine K2.out.mono ?_; rintro e w6 ⟨rfl, hb6⟩)
   clear kc
   have HB6 := Lib.hid (hbv5.trans (hb6.mono hbv5.size))
   clear hb6 hbv5 K2 HB5 HV5
   obtain ⟨V6, hV6⟩ : ∃ X, X = w6.alloc (.cells #[.int .u8 114] 5) := ⟨_, rfl⟩
   have hbv6 : RowKit.Below w1.heap.size w1 V6 := by rw [hV6]; exact HB6.out.alloc HB6.out.size _
   have K3 := Lib.hid (next12_any he12_ok (by rw [he_n11]; decide) 6 (some ⟨w6.heap.size, 0, none⟩) 1 1 [114] V6 (HS1.out V6 hbv6).1 (by rw [hV6]; exact bys_lay [114] (by decide) _ _ rfl) (by decide))
   rw [he12_c.2.1] at K3
   have HV6 := Lib.hid hV6
   clear hV6
   go_upto_region 15 with (rw [← HV6.out]; go_at_call 13; refine K3.out.mono ?_; rintro e w7 ⟨rfl, hb7⟩)
   have HB7 := Lib.hid (hbv6.trans (hb7.mono hbv6.size))
   clear hb7 hbv6 K3 HB6 HV6
   obtain ⟨V7, hV7⟩ : ∃ X, X = w7.alloc (.cells #[.int .u8 104] 5) := ⟨_, rfl⟩
   have hbv7 : RowKit.Below w1.heap.size w1 V7 := by rw [hV7]; exact HB7.out.alloc HB7.out.size _
   have K4 := Lib.hid (next12_any he12_ok (by rw [he_n11]; decide) 7 (some ⟨w7.heap.size, 0, none⟩) 1 1 [104] V7 (HS1.out V7 hbv7).1 (by rw [hV7]; exact bys_lay [104] (by decide) _ _ rfl) (by decide))
   rw [he12_c.2.2] at K4
   have HV7 := Lib.hid hV7
   clear hV7
   go_upto_region 16 with (rw [← HV7.out]; go_at_call 13; refine K4.out.mono ?_; rintro e w8 ⟨rfl, hb8⟩)
   have HB8 := Lib.hid (hbv7.trans (hb8.mono hbv7.size))
   clear hb8 hbv7 K4 HB7 HV7
   have K5 := Lib.hid ((HS1.out w8 HB8.out).1.kid he12_ok (by rw [he_n11]; decide) 3 114 (by decide))
   rw [he12_d.1] at K5
   go_upto_region 17 with (go_at_call 12; refine K5.out.mono ?_; rintro e w9 ⟨rfl, hb9⟩)
   have HB9 := Lib.hid (HB8.out.trans (hb9.mono HB8.out.size))
   clear hb9 K5 HB8
   have K6 := Lib.hid ((HS1.out w9 HB9.out).1.kid he12_ok (by rw [he_n11]; decide) 0 101 (by decide))
   rw [he12_d.2] at K6
   go_upto_region 18 with (go_at_call 12; refine K6.out.mono ?_; rintro e wA ⟨rfl, hbA⟩)
   have HBA := Lib.hid (HB9.out.trans (hbA.mono HB9.out.size))
   clear hbA K6 HB9
   have K7 := Lib.hid (HS1.out wA HBA.out).1.nodes
   rw [he12_a.1] at K7
   have K8 := Lib.hid (HS1.out wA HBA.out).1.places
   rw [he12_a.2.1] at K8
   have K9 := Lib.hid ((HS1.out wA HBA.out).1.base he12_ok 7)
   rw [he12_b.2.2] at K9
   go_wp2_with fail
   refine K7.out.mono ?_
   rintro e w' ⟨rfl, rfl⟩
   go_wp2_with fail
   refine K8.out.mono ?_
   rintro e w' ⟨rfl, rfl⟩
   go_wp2_with fail
   refine (base12_nil _ _).mono ?_
   rintro e w' ⟨rfl, rfl⟩
   go_wp2_with fail
   refine (nodes12_nil _).mono ?_
   rintro e w' ⟨rfl, rfl⟩
   go_wp2_with fail
   refine K9.out.mono ?_
   rintro e w' ⟨rfl, rfl⟩
   go_wp2
   go_ret
   exact ⟨rfl, (HS1.out wA HBA.out).2⟩
end Go.Proofs.YtglfdclpjmhoiaaGreat

/- Fewer places (layer 12): the document's table in memory, with the row of kids that is looked at. -/

namespace Go.Proofs.YtglfdclpjmhoiaaGreat
open Go.RowKit Go.Sort

/-- The document's table, in its box: bases, owners, kids. -/
structure Dk (W : World) (T : Nat) (u : List Value) (vs vo vk : Value) : Prop where
 box : W.heap[T]? = some (.cells (u ++ [vs, vo, vk]).toArray 36 (0, 0))
 len : u.length = 6
section
variable {W V : World} {T : Nat} {u : List Value} {vs vo vk vq v' : Value} {ba ow ki qs xs : List Int}
theorem Dk.lt (h : Dk W T u vs vo vk) : T < W.heap.size := (Array.getElem?_eq_some_iff.1 h.box).1
theorem Dk.below (h : Dk W T u vs vo vk) (hb : Below W.heap.size W V) : Dk V T u vs vo vk := ⟨(hb.block T h.lt).trans h.box, h.len⟩
theorem Dk.cells (h : Dk W T u vs vo vk) : W.cell? ⟨T, 6, none⟩ = some vs ∧ W.cell? ⟨T, 7, none⟩ = some vo ∧ W.cell? ⟨T, 8, none⟩ = some vk := by
 have e : ∀ i v, [vs, vo, vk][i]? = some v → W.cell? ⟨T, 6 + i, none⟩ = some v := fun i v hv => by
  have e1 : (u ++ [vs, vo, vk])[6 + i]? = some v := by
   rw [List.getElem?_append_right (by rw [h.len]; omega), h.len, Nat.add_sub_cancel_left]
   exact hv
  simp only [World.cell?, h.box]
  simpa using e1
 exact ⟨e 0 _ rfl, e 1 _ rfl, e 2 _ rfl⟩
theorem Dk.up (h : Dk W T u vs vo vk) {i : Nat} {v : Value} (hv : u[i]? = some v) : W.cell? ⟨T, i, none⟩ = some v := by
 have hi : i < u.length := (List.getElem?_eq_some_iff.1 hv).1
 have e1 : (u ++ [vs, vo, vk])[i]? = some v := by rw [List.getElem?_append_left hi]; exact hv
 simp only [World.cell?, h.box]
 simpa using e1
theorem Dk.frozen (h : Dk W T u vs vo vk) (i : Nat) : W.frozen? ⟨T, i, none⟩ = false := by
 have hb := h.box
 simp [World.frozen?, hb]
theorem Dk.store (h : Dk W T u vs vo vk) (i : Nat) (v : Value) (hi : i < 3) : Dk (W.setCell ⟨T, 6 + i, none⟩ v) T u (if i = 0 then v else vs) (if i = 1 then v else vo) (if i = 2 then v else vk) := by
 refine ⟨?_, h.len⟩
 have h1 := set_at (i := 6 + i) h.box v
 have e : (u ++ [vs, vo, vk]).toArray.setIfInBounds (6 + i) v = (u ++ [if i = 0 then v else vs, if i = 1 then v else vo, if i = 2 then v else vk]).toArray := by
  rw [List.setIfInBounds_toArray]
  congr 1
  rw [List.set_append_right _ _ (by rw [h.len]; omega), h.len, Nat.add_sub_cancel_left]
  match i, hi with
  | 0, _ => rfl
  | 1, _ => rfl
  | 2, _ => rfl
 rw [e] at h1
 exact h1
/-- With its rows, apart from one another. -/
structure DkW (W : World) (T : Nat) (u : List Value) (vs vo vk vq : Value) (ba ow ki qs : List Int) : Prop where
 dk : Dk W T u vs vo vk
 ss : OwnI W (T + 1) vs ba
 oo : OwnI W (T + 1) vo ow
 kk : OwnI W (T + 1) vk ki
 qq : OwnI W (T + 1) vq qs
 so : vs.ownBlock = none ∨ vs.ownBlock ≠ vo.ownBlock
 sk : vs.ownBlock = none ∨ vs.ownBlock ≠ vk.ownBlock
 sq : vs.ownBlock = none ∨ vs.ownBlock ≠ vq.ownBlock
 ok_ : vo.ownBlock = none ∨ vo.ownBlock ≠ vk.ownBlock
 oq : vo.ownBlock = none ∨ vo.ownBlock ≠ vq.ownBlock
 kq : vk.ownBlock = none ∨ vk.ownBlock ≠ vq.ownBlock
theorem DkW.below (h : DkW W T u vs vo vk vq ba ow ki qs) (hb : Below W.heap.size W V) : DkW V T u vs vo vk vq ba ow ki qs :=
 ⟨h.dk.below hb, own_below_ h.ss hb, own_below_ h.oo hb, own_below_ h.kk hb, own_below_ h.qq hb, h.so, h.sk, h.sq, h.ok_, h.oq, h.kq⟩
theorem Dk.grown (h : Dk W T u vs vo vk) {b : Option Nat} (hg : W.grownBy V b) (hT : b ≠ some T) : Dk V T u vs vo vk := ⟨(hg.block T h.lt (fun e => hT e.symm)).trans h.box, h.len⟩
theorem own_farT (h : OwnI W (T + 1) v' xs) : v'.ownBlock ≠ some T := fun e => by have := (row_lt h T e).1; omega
theorem DkW.appS (h : DkW W T u vs vo vk vq ba ow ki qs) (ho : OwnI V (T + 1) v' xs) (hg : W.grownBy V vs.ownBlock) (hat : v'.ownBlock = vs.ownBlock ∨ v'.ownBlock = some W.heap.size) : DkW (V.setCell ⟨T, 6, none⟩ v') T u v' vo vk vq xs ow ki qs :=
 ⟨(h.dk.grown hg (own_farT h.ss)).store 0 v' (by decide), own_T ho _ _, own_T (World.ownsRow.kept h.oo hg (sep_sym h.so)) _ _, own_T (World.ownsRow.kept h.kk hg (sep_sym h.sk)) _ _, own_T (World.ownsRow.kept h.qq hg (sep_sym h.sq)) _ _,
  sep_app h.so h.oo hat, sep_app h.sk h.kk hat, sep_app h.sq h.qq hat, h.ok_, h.oq, h.kq⟩
theorem DkW.appO (h : DkW W T u vs vo vk vq ba ow ki qs) (ho : OwnI V (T + 1) v' xs) (hg : W.grownBy V vo.ownBlock) (hat : v'.ownBlock = vo.ownBlock ∨ v'.ownBlock = some W.heap.size) : DkW (V.setCell ⟨T, 7, none⟩ v') T u vs v' vk vq ba xs ki qs :=
 ⟨(h.dk.grown hg (own_farT h.oo)).store 1 v' (by decide), own_T (World.ownsRow.kept h.ss hg h.so) _ _, own_T ho _ _, own_T (World.ownsRow.kept h.kk hg (sep_sym h.ok_)) _ _, own_T (World.ownsRow.kept h.qq hg (sep_sym h.oq)) _ _,
  sep_sym (sep_app (sep_sym h.so) h.ss hat), h.sk, h.sq, sep_app h.ok_ h.kk hat, sep_app h.oq h.qq hat, h.kq⟩
theorem DkW.appK (h : DkW W T u vs vo vk vq ba ow ki qs) (ho : OwnI V (T + 1) v' xs) (hg : W.grownBy V vk.ownBlock) (hat : v'.ownBlock = vk.ownBlock ∨ v'.ownBlock = some W.heap.size) : DkW (V.setCell ⟨T, 8, none⟩ v') T u vs vo v' vq ba ow xs qs :=
 ⟨(h.dk.grown hg (own_farT h.kk)).store 2 v' (by decide), own_T (World.ownsRow.kept h.ss hg h.sk) _ _, own_T (World.ownsRow.kept h.oo hg h.ok_) _ _, own_T ho _ _, own_T (World.ownsRow.kept h.qq hg (sep_sym h.kq)) _ _,
  h.so, sep_sym (sep_app (sep_sym h.sk) h.ss hat), h.sq, sep_sym (sep_app (sep_sym h.ok_) h.oo hat), h.oq, sep_app h.kq h.qq hat⟩
theorem DkW.appQ (h : DkW W T u vs vo vk vq ba ow ki qs) (ho : OwnI V (T + 1) v' xs) (hg : W.grownBy V vq.ownBlock) (hat : v'.ownBlock = vq.ownBlock ∨ v'.ownBlock = some W.heap.size) : DkW V T u vs vo vk v' ba ow ki xs :=
 ⟨h.dk.grown hg (own_farT h.qq), World.ownsRow.kept h.ss hg h.sq, World.ownsRow.kept h.oo hg h.oq, World.ownsRow.kept h.kk hg h.kq, ho,
  h.so, h.sk, sep_sym (sep_app (sep_sym h.sq) h.ss hat), h.ok_, sep_sym (sep_app (sep_sym h.oq) h.oo hat), sep_sym (sep_app (sep_sym h.kq) h.kk hat)⟩
/-- No kids are looked at. -/
theorem DkW.nil (h : DkW W T u vs vo vk vq ba ow ki qs) : DkW W T u vs vo vk (.slice none 0 0) ba ow ki [] :=
 ⟨h.dk, h.ss, h.oo, h.kk, World.ownsRow_nil _ _ _ _, h.so, h.sk, Classical.em _, h.ok_, Classical.em _, Classical.em _⟩
theorem own_set {b g n c : Nat} {xs : List Int} (h : OwnI W b (.slice (some ⟨g, 0, none⟩) n c) xs) (p : Nat) (z : Int) : OwnI (W.setCell ⟨g, p, none⟩ (.int .i64 z)) b (.slice (some ⟨g, 0, none⟩) n c) (xs.set p z) ∧ W.grownBy (W.setCell ⟨g, p, none⟩ (.int .i64 z)) (some g) ∧ b ≤ g ∧ xs.length = n := by
 have hn : xs.length = n := by
  rcases h.2 with ⟨e, _⟩ | ⟨_, _, _, e, _⟩ <;> simp at e
  omega
 have hrow : W.ownsRow b 3 1 (.slice (some ⟨g, 0, none⟩) n c) n (xs.map (Value.int .i64)) := by unfold OwnI at h; rwa [hn] at h
 obtain ⟨h1, hg⟩ := World.ownsRow.stored hrow p (.int .i64 z)
 refine ⟨?_, hg, (row_lt hrow g rfl).1, hn⟩
 unfold OwnI
 rw [List.length_set, hn, List.map_set]
 exact h1
theorem DkW.setO {g n c : Nat} (h : DkW W T u vs (.slice (some ⟨g, 0, none⟩) n c) vk vq ba ow ki qs) (p : Nat) (z : Int) : DkW (W.setCell ⟨g, p, none⟩ (.int .i64 z)) T u vs (.slice (some ⟨g, 0, none⟩) n c) vk vq ba (ow.set p z) ki qs := by
 obtain ⟨h1, hg, _, _⟩ := own_set h.oo p z
 exact ⟨h.dk.grown hg (own_farT h.oo), World.ownsRow.kept h.ss hg h.so, h1, World.ownsRow.kept h.kk hg (sep_sym h.ok_), World.ownsRow.kept h.qq hg (sep_sym h.oq), h.so, h.sk, h.sq, h.ok_, h.oq, h.kq⟩
theorem DkW.setK {g n c : Nat} (h : DkW W T u vs vo (.slice (some ⟨g, 0, none⟩) n c) vq ba ow ki qs) (p : Nat) (z : Int) : DkW (W.setCell ⟨g, p, none⟩ (.int .i64 z)) T u vs vo (.slice (some ⟨g, 0, none⟩) n c) vq ba ow (ki.set p z) qs := by
 obtain ⟨h1, hg, _, _⟩ := own_set h.kk p z
 exact ⟨h.dk.grown hg (own_farT h.kk), World.ownsRow.kept h.ss hg h.sk, World.ownsRow.kept h.oo hg h.ok_, h1, World.ownsRow.kept h.qq hg (sep_sym h.kq), h.so, h.sk, h.sq, h.ok_, h.oq, h.kq⟩
end
end Go.Proofs.YtglfdclpjmhoiaaGreat

/- The document's tries (layer 7): a node's bytes, by what is told above it; walked. -/

namespace Go.Proofs.YtglfdclpjmhoiaaGreat
open Go.RowKit Go.Sort

theorem spR_zero (T : TrieT) (z : Int) (out : List Int) : spR T 0 z out = out := rfl
theorem spR_stop {T : TrieT} {z : Int} {out : List Int} (h : ¬ (0 < z ∧ z < (T.up.length : Int) ∧ z < (T.byt.length : Int))) (k : Nat) : spR T k z out = out := by
 cases k with
 | zero => rfl
 | succ k => unfold spR; rw [if_neg h]
theorem spR_go {T : TrieT} {z u c : Int} {out : List Int} (h : 0 < z ∧ z < (T.up.length : Int) ∧ z < (T.byt.length : Int)) (hu : T.up[z.toNat]? = some u) (hc : T.byt[z.toNat]? = some c) (k : Nat) : spR T (k + 1) z out = spR T k u (c :: out) := by
 conv => lhs; unfold spR
 rw [if_pos h, hu, hc]
 rfl
theorem spR_all {T : TrieT} {P : Int → Prop} (h0 : P 0) (hb : ∀ x ∈ T.byt, P x) : ∀ (k : Nat) (z : Int) (out : List Int), (∀ x ∈ out, P x) → ∀ x ∈ spR T k z out, P x
 | 0, z, out, h => h
 | k + 1, z, out, h => by
  unfold spR
  split
  ·
   refine spR_all h0 hb k _ _ (fun x hx => ?_)
   rw [List.mem_cons] at hx
   rcases hx with rfl | hx
   ·
    cases e : T.byt[z.toNat]? with
    | none => exact h0
    | some c => exact hb c (List.mem_of_getElem? e)
   · exact h x hx
  · exact h
theorem spR_len (T : TrieT) : ∀ (k : Nat) (z : Int) (out : List Int), (spR T k z out).length ≤ k + out.length
 | 0, z, out => by simp [spR]
 | k + 1, z, out => by
  unfold spR
  split
  ·
   have := spR_len T k (T.up[z.toNat]?.getD 0) (T.byt[z.toNat]?.getD 0 :: out)
   rw [List.length_cons] at this
   omega
  · omega
theorem spellR_len (T : TrieT) (z : Int) : (spellR T z).length ≤ 32 := by
 have := spR_len T 32 z []
 simpa [spellR] using this
theorem spellR_bd {w : World} {a : Option Addr} {n : Nat} {T : TrieT} (h : Bys w a n T.byt) (z : Int) : ∀ x ∈ spellR T z, 0 ≤ x ∧ x ≤ 255 := spR_all ⟨by omega, by omega⟩ h.2 32 z [] (by simp)
def lenV : Value → Nat
 | .slice _ n _ => n
 | _ => 0

set_option maxRecDepth 100000 in
set_option maxHeartbeats 4000000 in
theorem rspell7_any (t : TV) (T : TrieT) (node : Int) (w : World) (hT : Tri w t T) :
  Calls Tryz.prog 89 #[.agg t.cells, .int .i64 node] w fun e w' => ∃ v, e = .returned v ∧ OwnU w' w.heap.size v (spellR T node) ∧ Below w.heap.size w w' := by
 obtain ⟨iU, hj, hy0, hy1, hy2⟩ := info_parts u8_info7
 obtain ⟨ua, un, uc, da, dn, dc, xa, xn, xc, ba, bn, bc⟩ := t
 obtain ⟨W, hW⟩ : ∃ W, W = w.alloc (.cells #[.slice ua un uc, .slice da dn dc, .slice xa xn xc, .slice ba bn bc] 34) := ⟨_, rfl⟩
 have hB : Below w.heap.size w W := by rw [hW]; exact below_alloc _ _
 have hQ : W.heap[w.heap.size]? = some (.cells #[.slice ua un uc, .slice da dn dc, .slice xa xn xc, .slice ba bn bc] 34 (0, 0)) := by rw [hW]; exact World.alloc_heap_new _ _
 obtain ⟨Q, hQe⟩ : ∃ Q, w.heap.size = Q := ⟨_, rfl⟩
 have HB := Lib.hid hB
 have hbQ : W.heap.size = Q + 1 := by rw [hW, ← hQe]; simp
 have HT := Lib.hid (hT.below hB)
 have HU := Lib.hid hT.up.1
 have HBL := Lib.hid hT.byt.len
 have HBD := Lib.hid (spellR_bd hT.byt)
 clear hT
 go_enter Tryz.func89, Tryz.ntmps89
 go_upto_region 1 with fail
 rw [← hW]
 rw [hQe] at hQ
 clear hW
 have HQ := Lib.hid hQ
 have HQe := Lib.hid hQe
 have HbQ := Lib.hid hbQ
 clear hQ hB hQe hbQ
 go_wp2
 go_loopw [1, 5] (fun s1 s5 wr => ∃ (z : Int) (out : List Int) (k : Nat) (av : Option Addr) (cv : Nat), s1 = .int .i64 z ∧ s5 = .slice av k cv ∧ k ≤ 32 ∧ out.length = k ∧ Hid (spellR T node = spR T (32 - k) z out) ∧ wr.ownsRow W.heap.size 5 1 (.slice av k cv) k (out.map (Value.int .u8)) ∧ RowKit.Below W.heap.size W wr) (fun _ s5 _ => 32 - lenV s5)
 case atStart => exact ⟨node, [], 0, none, 0, rfl, rfl, Nat.zero_le _, rfl, rfl, World.ownsRow_nil _ _ _ _, RowKit.Below.refl _ _⟩
 case round =>
  obtain ⟨z, out, k, av, cv, rfl, rfl, hk, hl, HS, hOW, hBe⟩ := hrel
  have hQr : wr.heap[Q]? = _ := (hBe.block Q (by rw [HbQ.out]; omega)).trans HQ.out
  have c0 : wr.cell? ⟨Q, 0, none⟩ = some (.slice ua un uc) := by simp [World.cell?, hQr]
  have c1 : wr.cell? ⟨Q, 1, none⟩ = some (.slice da dn dc) := by simp [World.cell?, hQr]
  have c2 : wr.cell? ⟨Q, 2, none⟩ = some (.slice xa xn xc) := by simp [World.cell?, hQr]
  have c3 : wr.cell? ⟨Q, 3, none⟩ = some (.slice ba bn bc) := by simp [World.cell?, hQr]
  have HOW := Lib.hid hOW
  have HBE := Lib.hid hBe
  have HLL := Lib.hid hl
  have hstop : ¬ (0 < z ∧ z < (un : Int) ∧ z < (bn : Int) ∧ k < 32) → spellR T node = out := fun hn => by
   rw [HS.out]
   by_cases hk2 : k < 32
   · exact spR_stop (fun h => hn ⟨h.1, by have := HU.out; omega, by have := HBL.out; omega, hk2⟩) _
   · rw [show 32 - k = 0 by omega, spR_zero]
  have HST := Lib.hid hstop
  clear hOW hBe hl hstop hQr
  by_cases h1 : 0 < z
  ·
   have e1 : decide ((0 : Int) < z) = true := by simpa using h1
   by_cases h2 : z < (un : Int)
   ·
    have e2 : decide (z < (un : Int)) = true := by simpa using h2
    by_cases h3 : z < (bn : Int)
    ·
     have e3 : decide (z < (bn : Int)) = true := by simpa using h3
     by_cases h4 : k < 32
     ·
      have e4 : decide ((k : Int) < 32) = true := by simp; omega
      have e4' : decide (k < 32) = true := by simp; omega
      obtain ⟨p, rfl⟩ := Int.eq_ofNat_of_zero_le (show 0 ≤ z by omega)
      have hTr := HT.out.below HBE.out
      obtain ⟨b1, o1, u, f1, hb1, g1, hu⟩ := sl1_at hTr.up (k := p) (by show p < un; omega)
      obtain ⟨b2, o2, c, f2, hb2, g2, hc⟩ := sl1_at hTr.byt.1 (k := p) (by show p < bn; omega)
      dsimp only at f1 f2
      subst f1 f2
      have hgo := spR_go (T := T) (z := (p : Int)) (u := u) (c := c) (out := out) ⟨h1, by have := HU.out; omega, by have := HBL.out; omega⟩ (by simpa using hu) (by simpa using hc) (32 - (k + 1))
      rw [show 32 - (k + 1) + 1 = 32 - k by omega] at hgo
      have HS2 : Hid (spellR T node = spR T (32 - (k + 1)) u (c :: out)) := by rw [Hid, HS.out]; exact hgo
      have hrow := (HOW.out.alloc (.cells #[.int .u8 c] 5))
      have hsz := HBE.out.size
      have hlit := World.ownsRow_lit (base := W.heap.size) (size := 1) (e := 5) wr #[.int .u8 c] 1 hsz (by unfold maxLen; omega) (by simp)
      have g1' : (wr.alloc (.cells #[.int .u8 c] 5)).cell? ⟨b1, o1 + p, none⟩ = some (.int .i64 u) := by rw [World.cell?_alloc_lt _ _ _ hb1]; exact g1
      have hbl : RowKit.Below wr.heap.size wr (wr.alloc (.cells #[.int .u8 c] 5)) := below_alloc _ _
      have p1 : (0 : Int) ≤ (p : Int) := by omega
      have HG1 := Lib.hid g1
      have HB1 := Lib.hid hb1
      clear hgo hu hc hTr
      go_upto_region 4 with (at_builtin; refine wpList_append_sl1 rfl _ _ 25 rfl u8_one W.heap.size 5 iU (.int .u8 0) 1 Tryz.underlying25 hj hy0 hy1 hy2 rfl _ _ _ rfl hlit av k cv out rfl (own_sl hrow) (by unfold maxLen; omega) (by omega) (by simp; omega) ?_; intro v' w9 hown' hgrow hat)
      have hB9 := (HBE.out.alloc hsz (.cells #[.int .u8 c] 5)).grown hgrow (by simp; omega) (fun j hj => by injection hj with hj; subst hj; exact hsz)
      have g9 : w9.cell? ⟨b1, o1 + p, none⟩ = some (.int .i64 u) := (World.cell?_of_block (a := ⟨b1, o1 + p, none⟩) (hgrow.block b1 (by simp; have := HB1.out; omega) (fun e => by have e2 : some b1 = some wr.heap.size := e; injection e2 with e2; have := HB1.out; omega))).trans g1'
      have hQ9 : w9.heap[Q]? = _ := (hB9.block Q (by rw [HbQ.out]; omega)).trans HQ.out
      have c0 : w9.cell? ⟨Q, 0, none⟩ = some (.slice (some ⟨b1, o1, none⟩) un uc) := by simp [World.cell?, hQ9]
      have c3 : w9.cell? ⟨Q, 3, none⟩ = some (.slice (some ⟨b2, o2, none⟩) bn bc) := by simp [World.cell?, hQ9]
      have hO9 : w9.ownsRow W.heap.size 5 1 v' (k + 1) ((c :: out).map (Value.int .u8)) := by
       rw [Nat.add_comm, List.map_cons]
       exact hown'
      obtain ⟨a9, c9, rfl, _, _⟩ := own_sl1 hO9
      clear g1' hQ9 hrow hlit
      go_wp2
      go_roundw
      case rel => exact ⟨u, c :: out, k + 1, a9, c9, rfl, by go_num, by omega, by rw [List.length_cons, HLL.out], HS2, hO9, hB9⟩
      case measure => simp [lenV]; omega
     ·
      have e4 : decide ((k : Int) < 32) = false := by simp; omega
      have e4' : decide (k < 32) = false := by simp; omega
      have hend := Lib.hid (HST.out (fun h => h4 h.2.2.2))
      go_wp2
      go_ret
      refine ⟨.slice av k cv, rfl, ?_, ?_⟩
      · rw [hend.out]; unfold OwnU; rw [HLL.out]; exact row_mono HOW.out (by rw [HbQ.out, HQe.out]; omega)
      · exact HB.out.trans (HBE.out.mono HB.out.size)
    ·
     have e3 : decide (z < (bn : Int)) = false := by simpa using h3
     have hend := Lib.hid (HST.out (fun h => h3 h.2.2.1))
     go_wp2
     go_ret
     refine ⟨.slice av k cv, rfl, ?_, ?_⟩
     · rw [hend.out]; unfold OwnU; rw [HLL.out]; exact row_mono HOW.out (by rw [HbQ.out, HQe.out]; omega)
     · exact HB.out.trans (HBE.out.mono HB.out.size)
   ·
    have e2 : decide (z < (un : Int)) = false := by simpa using h2
    have hend := Lib.hid (HST.out (fun h => h2 h.2.1))
    go_wp2
    go_ret
    refine ⟨.slice av k cv, rfl, ?_, ?_⟩
    · rw [hend.out]; unfold OwnU; rw [HLL.out]; exact row_mono HOW.out (by rw [HbQ.out, HQe.out]; omega)
    · exact HB.out.trans (HBE.out.mono HB.out.size)
  ·
   have e1 : decide ((0 : Int) < z) = false := by simpa using h1
   have hend := Lib.hid (HST.out (fun h => h1 h.1))
   go_wp2
   go_ret
   refine ⟨.slice av k cv, rfl, ?_, ?_⟩
   · rw [hend.out]; unfold OwnU; rw [HLL.out]; exact row_mono HOW.out (by rw [HbQ.out, HQe.out]; omega)
   · exact HB.out.trans (HBE.out.mono HB.out.size)
end Go.Proofs.YtglfdclpjmhoiaaGreat

/- The document's tries (layer 7): the words that a trie tells; walked. -/

namespace Go.Proofs.YtglfdclpjmhoiaaGreat
open Go.RowKit Go.Sort

theorem words_hit {T : TrieT} {q i : Nat} (h : T.wrd[i]? = some (q : Int)) (hn : ∀ j < i, T.wrd[j]? ≠ some (q : Int)) (f : Nat) : wordsFrom T (f + 1) q = spellR T i :: wordsFrom T f (q + 1) := by
 have hi := (List.getElem?_eq_some_iff.1 h)
 have e : T.wrd.findIdx? (fun v => decide (v = (q : Int))) = some i := by
  rw [List.findIdx?_eq_some_iff_getElem]
  refine ⟨hi.1, by rw [hi.2]; exact decide_eq_true rfl, fun j hj => ?_⟩
  intro hc
  exact hn j hj (by rw [List.getElem?_eq_getElem (by have := hi.1; omega)]; exact congrArg some (of_decide_eq_true hc))
 conv => lhs; unfold wordsFrom
 rw [e]
theorem words_no {T : TrieT} {q : Nat} (hn : ∀ j < T.wrd.length, T.wrd[j]? ≠ some (q : Int)) (f : Nat) : wordsFrom T f q = [] := by
 cases f with
 | zero => rfl
 | succ f =>
  have e : T.wrd.findIdx? (fun v => decide (v = (q : Int))) = none := by
   rw [List.findIdx?_eq_none_iff]
   intro v hv
   obtain ⟨i, hi⟩ := List.getElem?_of_mem hv
   refine decide_eq_false (fun e => ?_)
   rw [e] at hi
   exact hn i (List.getElem?_eq_some_iff.1 hi).1 hi
  unfold wordsFrom
  rw [e]
theorem wordsR_mem {T : TrieT} : ∀ (f q : Nat), ∀ x ∈ wordsFrom T f q, ∃ z, x = spellR T z
 | 0, q, x, h => by simp [wordsFrom] at h
 | f + 1, q, x, h => by
  unfold wordsFrom at h
  split at h
  · simp at h
  ·
   rename_i i _
   rw [List.mem_cons] at h
   rcases h with h | h
   · exact ⟨_, h⟩
   · exact wordsR_mem f _ x h
theorem wordsFrom_len (T : TrieT) : ∀ (f q : Nat), (wordsFrom T f q).length ≤ f
 | 0, q => by simp [wordsFrom]
 | f + 1, q => by
  unfold wordsFrom
  split
  · simp
  ·
   have := wordsFrom_len T f (q + 1)
   simp
   omega
theorem wordsR_bd (T : TrieT) : (wordsR T).length ≤ 64 ∧ ∀ x ∈ wordsR T, x.length ≤ 32 :=
 ⟨wordsFrom_len T 64 0, fun x hx => by obtain ⟨z, rfl⟩ := wordsR_mem 64 0 x hx; exact spellR_len T z⟩

theorem OwnW.mono {w : World} {b b' : Nat} {v : Value} {wss : List (List Int)} (h : OwnW w b v wss) (hb : b' ≤ b) : OwnW w b' v wss := by
 obtain ⟨es, h1, h2, h3⟩ := h
 exact ⟨es, row_mono h1 hb, h2, fun i e xs he hx => ⟨row_mono (h3 i e xs he hx).1 hb, (h3 i e xs he hx).2⟩⟩

set_option maxRecDepth 100000 in
set_option maxHeartbeats 4000000 in
theorem rwords7_any (t : TV) (T : TrieT) (w : World) (hT : Tri w t T) (hb : t.xn ≤ 140737488351232) :
  Calls Tryz.prog 76 #[.agg t.cells] w fun e w' => ∃ v, e = .returned v ∧ OwnW w' w.heap.size v (wordsR T) ∧ Below w.heap.size w w' := by
 obtain ⟨i0, hi, hz0, hz1, hz2⟩ := info_parts sl_info
 obtain ⟨ua, un, uc, da, dn, dc, xa, xn, xc, ba, bn, bc⟩ := t
 obtain ⟨W, hW⟩ : ∃ W, W = w.alloc (.cells #[.slice ua un uc, .slice da dn dc, .slice xa xn xc, .slice ba bn bc] 34) := ⟨_, rfl⟩
 have hB : Below w.heap.size w W := by rw [hW]; exact below_alloc _ _
 have hQ : W.heap[w.heap.size]? = some (.cells #[.slice ua un uc, .slice da dn dc, .slice xa xn xc, .slice ba bn bc] 34 (0, 0)) := by rw [hW]; exact World.alloc_heap_new _ _
 obtain ⟨Q, hQe⟩ : ∃ Q, w.heap.size = Q := ⟨_, rfl⟩
 have HB := Lib.hid hB
 have hbQ : W.heap.size = Q + 1 := by rw [hW, ← hQe]; simp
 have HT := Lib.hid (hT.below hB)
 have HXL := Lib.hid hT.wrd.1
 have HBD := Lib.hid (spellR_bd hT.byt)
 have hbx : xn ≤ 140737488351232 := hb
 clear hT hb
 go_enter Tryz.func76, Tryz.ntmps76
 go_upto_region 1 with fail
 rw [← hW]
 rw [hQe] at hQ
 clear hW
 have HQ := Lib.hid hQ
 have HQe := Lib.hid hQe
 have HbQ := Lib.hid hbQ
 clear hQ hB hQe hbQ
 go_wp2
 go_loopw [3, 4] (fun s3 s4 wr => ∃ (q : Nat) (L : List (List Int)) (v3 : Value), q ≤ 64 ∧ v3 = s3 ∧ s4 = .int .i64 q ∧ L.length = q ∧ Hid (wordsR T = L ++ wordsFrom T (64 - q) q) ∧ OwnW wr W.heap.size v3 L ∧ RowKit.Below W.heap.size W wr) (fun _ s4 _ => 64 - (intOf s4).toNat)
 case atStart => exact ⟨0, [], _, Nat.zero_le _, rfl, rfl, rfl, rfl, OwnW.nil _ _, RowKit.Below.refl _ _⟩
 case round =>
  obtain ⟨q, L, v3, hq, rfl, rfl, hl, HS, hOW, hBe⟩ := hrel
  have hQr : wr.heap[Q]? = _ := (hBe.block Q (by rw [HbQ.out]; omega)).trans HQ.out
  have HOW := Lib.hid hOW
  have HBE := Lib.hid hBe
  have HLL := Lib.hid hl
  have HQR := Lib.hid hQr
  clear hOW hBe hl hQr
  by_cases hq2 : q < 64
  ·
   have e4 : decide ((q : Int) < 64) = true := by simp; omega
   have e4' : decide (q < 64) = true := by simp; omega
   go_wp2
   go_loopw [5] (fun s5 wi => ∃ i : Nat, i ≤ xn ∧ s5 = .int .i64 i ∧ Hid (∀ j < i, T.wrd[j]? ≠ some (q : Int)) ∧ RowKit.Below wr.heap.size wr wi) (fun s5 _ => xn - (intOf s5).toNat)
   case atStart => exact ⟨0, Nat.zero_le _, rfl, (fun j hj => absurd hj (Nat.not_lt_zero _)), RowKit.Below.refl _ _⟩
   case round =>
    obtain ⟨i, hin, rfl, HN, hBi⟩ := hrel
    have hTi := HT.out.below (HBE.out.trans (hBi.mono HBE.out.size))
    have hQi : wr.heap[Q]? = some (.cells #[.slice ua un uc, .slice da dn dc, .slice xa xn xc, .slice ba bn bc] 34 (0, 0)) := (hBi.block Q (Array.getElem?_eq_some_iff.1 HQR.out).1).trans HQR.out
    have c0 : wr.cell? ⟨Q, 0, none⟩ = some (.slice ua un uc) := by simp [World.cell?, hQi]
    have c1 : wr.cell? ⟨Q, 1, none⟩ = some (.slice da dn dc) := by simp [World.cell?, hQi]
    have c2 : wr.cell? ⟨Q, 2, none⟩ = some (.slice xa xn xc) := by simp [World.cell?, hQi]
    have c3 : wr.cell? ⟨Q, 3, none⟩ = some (.slice ba bn bc) := by simp [World.cell?, hQi]
    have HTI := Lib.hid hTi
    have HBI := Lib.hid hBi
    clear hQi hTi hBi
    by_cases hil : i < xn
    ·
     have hd : decide ((i : Int) < xn) = true := by simp; omega
     obtain ⟨b1, o1, u, f1, hb1, g1, hu⟩ := sl1_at HTI.out.wrd (k := i) hil
     dsimp only at f1
     subst f1
     have i1 : (0 : Int) ≤ (i : Int) := by omega
     have i2 : (i : Int) < (xn : Int) := by omega
     have HU := Lib.hid hu
     clear hu
     by_cases huq : u = (q : Int)
     ·
      have e6 : ((u : Int) != (q : Int)) = false := by simp [huq]
      have HS2 := Lib.hid (words_hit (T := T) (q := q) (i := i) (by rw [HU.out, huq]) HN.out (64 - (q + 1)))
      rw [show 64 - (q + 1) + 1 = 64 - q by omega] at HS2
      clear huq
      have e7 : ((i : Int) == (xn : Int)) = false := by simp; omega
      have HC := Lib.hid (rspell7_any _ T (i : Int) wr HTI.out)
      go_wp2_with fail
      refine HC.out.mono ?_
      rintro e w5 ⟨v8, rfl, hv8, hb5⟩
      obtain ⟨a8, c8, rfl, hc8, _⟩ := own_sl1 hv8
      obtain ⟨es, e1, e2, e3⟩ := HOW.out
      have hB05 := HBI.out.trans (hb5.mono HBI.out.size)
      have hsz0 := HBE.out.size
      have hsz1 := hB05.size
      have r1 := row_below e1 hB05
      have hLL := HLL.out
      rw [hLL] at r1
      clear c0 c1 c2 c3 g1
      go_wp2_with (at_builtin; refine wpList_append_own _ rfl _ _ 22 rfl W.heap.size 25 i0 (.slice none 0 0) 1 24 Tryz.underlying22 hi hz0 hz1 hz2 rfl (by decide) _ _ _ rfl (r1.alloc _) ⟨w5.heap.size, 0, none⟩ 1 1 [.slice a8 (spellR T (i : Int)).length c8] rfl rfl (cells_new _ _ (by simp)) (by simp [Value.oneCell']) (by unfold maxLen; omega) (by omega) (by simp; omega) ?_; intro v' w9 hown' hgrow hat)
      have hB9 := ((HBE.out.trans (hB05.mono hsz0)).alloc (by omega) (.cells #[.slice a8 (spellR T (i : Int)).length c8] 25)).grown hgrow (by simp; omega) (fun j hj => (row_lt r1 j hj).1)
      have hst := OwnW.step (W := w5.alloc (.cells #[.slice a8 (spellR T (i : Int)).length c8] 25)) (base := W.heap.size) (v := v3) (wss := L) (xs := spellR T (i : Int)) (e := .slice a8 (spellR T (i : Int)).length c8) (es := es) (by rw [hLL]; exact r1.alloc _) e2
       (fun k e xs he hx => ⟨World.ownsRow.alloc (own_below_ (e3 k e xs he hx).1 hB05) _, (e3 k e xs he hx).2⟩) (World.ownsRow.alloc (row_mono hv8 (by have := HBI.out.size; omega)) _) (HBD.out _) (by rw [hLL]; exact hown') hgrow
      have HS3 : Hid (wordsR T = (L ++ [spellR T (i : Int)]) ++ wordsFrom T (64 - (q + 1)) (q + 1)) := by
       rw [Hid, HS.out, HS2.out, List.append_assoc]
       rfl
      have hl9 : (L ++ [spellR T (i : Int)]).length = q + 1 := by rw [List.length_append, hLL]; rfl
      have HL9 := Lib.hid hl9
      have HST := Lib.hid hst
      clear hl9 hst hLL hown' r1 e1 e2 e3
      go_roundw
      case rel => exact ⟨q + 1, _, _, by omega, rfl, by go_num, HL9.out, HS3, HST.out, hB9⟩
      case measure => simp [intOf]; omega
     ·
      have e6 : ((u : Int) != (q : Int)) = true := by simp [huq]
      have HN2 : Hid (∀ j < i + 1, T.wrd[j]? ≠ some (q : Int)) := by
       intro j hj e
       by_cases hji : j < i
       · exact HN.out j hji e
       ·
        obtain rfl : j = i := by omega
        rw [HU.out] at e
        exact huq (Option.some.inj e)
      clear huq
      go_wp2
      go_roundw
      case rel => exact ⟨i + 1, by omega, by go_num, HN2, HBI.out⟩
      case measure => simp [intOf]; omega
    ·
     obtain rfl : i = xn := by omega
     have hd : decide ((i : Int) < i) = false := by simp
     have e7 : ((i : Int) == (i : Int)) = true := by simp
     have HE : Hid (wordsR T = L) := by rw [Hid, HS.out, words_no (fun j hj => HN.out j (by rw [HXL.out] at hj; exact hj)), List.append_nil]
     have HR := Lib.hid (OwnW.below HOW.out HBI.out)
     go_wp2
     go_ret
     refine ⟨v3, rfl, ?_, HB.out.trans ((HBE.out.trans (HBI.out.mono HBE.out.size)).mono HB.out.size)⟩
     rw [HE.out]
     exact OwnW.mono HR.out HB.out.size
  ·
   obtain rfl : q = 64 := by omega
   have e4 : decide (((64 : Nat) : Int) < 64) = false := by decide
   have HE : Hid (wordsR T = L) := by rw [Hid, HS.out, Nat.sub_self]; simp [wordsFrom]
   go_wp2
   go_ret
   refine ⟨v3, rfl, ?_, HB.out.trans (HBE.out.mono HB.out.size)⟩
   rw [HE.out]
   exact OwnW.mono HOW.out HB.out.size
end Go.Proofs.YtglfdclpjmhoiaaGreat
