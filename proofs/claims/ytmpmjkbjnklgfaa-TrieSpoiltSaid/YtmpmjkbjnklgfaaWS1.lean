/- Parts of the proof, one behind the other: Vq, VE, VF, VD. No condition but what each theorem states. -/
import Derived.RangeFuncBox
import Derived.Deep.RegionHeld3
import Derived.Lib.MinMax
import Derived.Deep.DeepCutAuto
import Derived.Test.YtmpmjkbjnklgfaaW16
import Derived.Test.YtmpmjkbjnklgfaaW17
import Derived.Test.YtmpmjkbjnklgfaaW18
import Derived.Test.YtmpmjkbjnklgfaaW12

/- Plain laws of layer 7: a trie that is spoilt, or turned. -/

namespace Go.Proofs.Ytmpmjkbjnklgfaa
set_option linter.unusedVariables false

theorem spTo_congr {T U : TrieT} (h1 : T.up = U.up) (h2 : T.byt = U.byt) : ∀ i, spTo T i = spTo U i
  | 0 => rfl
  | 1 => rfl
  | i + 2 => by
    have ih := spTo_congr h1 h2 (i + 1)
    unfold spTo
    rw [ih, h1, h2]
theorem perm_sumI {l m : List Int} (h : l.Perm m) : l.sum = m.sum := by
  induction h with
  | nil => rfl
  | cons x _ ih => simp only [List.sum_cons]; omega
  | swap x y l => simp only [List.sum_cons]; omega
  | trans _ _ h1 h2 => omega
section
variable {ws : List (List Int)}
/-- .. one depth is another one. -/
theorem deep_no (h : rightP false ws = true) {T : TrieT} (h1 : T.up = (trieP ws).up) (h2 : T.byt = (trieP ws).byt) (h3 : T.wrd = (trieP ws).wrd) (h4 : T.dep.length = (trieP ws).dep.length) (hd : T.dep ≠ (trieP ws).dep) : readP T = none := by
  cases e : readP T with
  | none => rfl
  | some r =>
    exfalso
    obtain ⟨sp, ws'⟩ := r
    obtain ⟨g1, g2, g3⟩ := readP_iff.1 e
    have hs : spO T = spO (trieP ws) := by unfold spO; rw [h1, h2, h3, h4, spTo_congr h1 h2]
    have hs2 : spO T = some (nodesL ws') := by rw [g2]; exact spO_trie g1
    rw [hs, spO_trie h] at hs2
    have := Option.some.inj hs2
    apply hd
    rw [g2]
    unfold trieP
    dsimp only
    rw [this]
/-- .. the list of words is shorter. -/
theorem short_no {T : TrieT} (h : T.wrd.length ≠ T.up.length) : readP T = none := by
  have : spO T = none := by unfold spO; rw [if_neg (fun ⟨_, _, _, _, e⟩ => h e)]
  unfold readP
  rw [this]
  rfl
/-- Two numbers exchanged. -/
def swN (i k v : Nat) : Nat := if v = k then i else if v = i then k else v
theorem swN_lt {i k v n : Nat} (hi : i < n) (hk : k < n) (hv : v < n) : swN i k v < n := by unfold swN; split <;> (try split) <;> omega
theorem swN_swN (i k v : Nat) : swN i k (swN i k v) = v := by unfold swN; split <;> (try split) <;> (try split) <;> (try split) <;> omega
def swI (i k : Nat) (v : Int) : Int := if v = k then (i : Int) else if v = i then (k : Int) else v
theorem swI_nat (i k v : Nat) : swI i k v = swN i k v := by
  unfold swI swN
  by_cases h1 : v = k
  · rw [if_pos (by omega), if_pos h1]
  · rw [if_neg (by omega), if_neg h1]
    by_cases h2 : v = i
    · rw [if_pos (by omega), if_pos h2]
    · rw [if_neg (by omega), if_neg h2]
def swW (ws : List (List Int)) (i k : Nat) : List (List Int) := (List.range ws.length).map fun j => (ws[swN i k j]?).getD []
theorem swW_length (ws : List (List Int)) (i k : Nat) : (swW ws i k).length = ws.length := by simp [swW]
theorem swW_at {i k j : Nat} (hi : i < ws.length) (hk : k < ws.length) (hj : j < ws.length) : (swW ws i k)[j]? = ws[swN i k j]? := by
  have := swN_lt hi hk hj
  unfold swW
  rw [List.getElem?_map, List.getElem?_range hj, Option.map_some, List.getElem?_eq_getElem this]
  rfl
theorem swW_mem {i k : Nat} (hi : i < ws.length) (hk : k < ws.length) (x : List Int) : x ∈ swW ws i k ↔ x ∈ ws := by
  constructor
  · intro h
    obtain ⟨j, hj⟩ := List.getElem?_of_mem h
    have hl := (List.getElem?_eq_some_iff.1 hj).1
    rw [swW_length] at hl
    rw [swW_at hi hk hl] at hj
    exact List.mem_of_getElem? hj
  · intro h
    obtain ⟨j, hj⟩ := List.getElem?_of_mem h
    have hl := (List.getElem?_eq_some_iff.1 hj).1
    have := swW_at hi hk (swN_lt hi hk hl)
    rw [swN_swN, hj] at this
    exact List.mem_of_getElem? this
theorem swW_nodup {i k : Nat} (hi : i < ws.length) (hk : k < ws.length) (hn : ws.Nodup) : (swW ws i k).Nodup := by
  rw [List.nodup_iff_pairwise_ne, List.pairwise_iff_getElem]
  intro a b ha hb hab e
  rw [swW_length] at ha hb
  have e1 : (swW ws i k)[a]? = (swW ws i k)[b]? := by rw [List.getElem?_eq_getElem (by rw [swW_length]; exact ha), List.getElem?_eq_getElem (by rw [swW_length]; exact hb), e]
  rw [swW_at hi hk ha, swW_at hi hk hb] at e1
  obtain ⟨x, hx⟩ : ∃ x, ws[swN i k a]? = some x := ⟨_, List.getElem?_eq_getElem (swN_lt hi hk ha)⟩
  have := nodup_at hn hx (e1 ▸ hx)
  have h2 := congrArg (swN i k) this
  rw [swN_swN, swN_swN] at h2
  omega
theorem swW_nodes {i k : Nat} (hi : i < ws.length) (hk : k < ws.length) : nodesL (swW ws i k) = nodesL ws := by
  refine nodesL_unique (nodesL_srt _) fun x => ?_
  rw [mem_nodesL]
  unfold IsBeg
  constructor
  · rintro (h | ⟨w, hw, r⟩)
    · exact .inl h
    · exact .inr ⟨w, (swW_mem hi hk w).1 hw, r⟩
  · rintro (h | ⟨w, hw, r⟩)
    · exact .inl h
    · exact .inr ⟨w, (swW_mem hi hk w).2 hw, r⟩
theorem swW_right {i k : Nat} (hi : i < ws.length) (hk : k < ws.length) (h : rightP false ws = true) : rightP false (swW ws i k) = true := by
  obtain ⟨h1, h2, h3, h4, h5, h6⟩ := right_spec h
  obtain ⟨g1, g2⟩ := right_nodup h
  have hn := swW_nodup hi hk g1
  have e1 : nodesR false (swW ws i k) = nodesR false ws := by rw [← nodesL_count false (fun w _ => foldL_false w), ← nodesL_count false (fun w _ => foldL_false w), swW_nodes hi hk]
  have hp : (swW ws i k).Perm ws := (List.perm_ext_iff_of_nodup hn g1).2 (swW_mem hi hk)
  have e2 : bsum (swW ws i k) = bsum ws := by
    unfold bsum
    exact perm_sumI (hp.map _)
  have hl := swW_length ws i k
  rw [right_eq]
  unfold rightR
  rw [Bool.and_eq_true]
  refine ⟨decide_eq_true ?_, decide_eq_true (makeL_self _ hn)⟩
  unfold checkR
  rw [if_neg (by omega), if_neg (by omega), if_neg (fun ⟨x, hx, e⟩ => (h3 x ((swW_mem hi hk x).1 hx)).1 e), if_neg (fun ⟨x, hx, e⟩ => by have := (h3 x ((swW_mem hi hk x).1 hx)).2; omega), if_neg (by omega), if_neg (by rw [e1]; omega)]
theorem swW_place {i k : Nat} (hi : i < ws.length) (hk : k < ws.length) (hn : ws.Nodup) (x : List Int) : placeS (swW ws i k) x = swI i k (placeS ws x) := by
  by_cases hx : x ∈ ws
  · obtain ⟨j, hj⟩ := List.getElem?_of_mem hx
    have hl := (List.getElem?_eq_some_iff.1 hj).1
    rw [placeS_at hn hj, swI_nat]
    refine placeS_at (swW_nodup hi hk hn) ?_
    rw [swW_at hi hk (swN_lt hi hk hl), swN_swN, hj]
  · rw [placeS_no hx, placeS_no (fun h => hx ((swW_mem hi hk x).1 h))]
    unfold swI
    rw [if_neg (by omega), if_neg (by omega)]
/-- .. two words' numbers are exchanged. -/
theorem turned_yes {i k : Nat} (hi : i < ws.length) (hk : k < ws.length) (h : rightP false ws = true) {T : TrieT} (h1 : T.up = (trieP ws).up) (h2 : T.byt = (trieP ws).byt) (h4 : T.dep = (trieP ws).dep) (h3 : T.wrd = (trieP ws).wrd.map (swI i k)) : readP T = some (nodesL ws, swW ws i k) := by
  rw [readP_iff]
  refine ⟨swW_right hi hk h, ?_, (swW_nodes hi hk).symm⟩
  obtain ⟨a, b, c, d⟩ := T
  dsimp only at h1 h2 h3 h4
  subst h1 h2 h3 h4
  have hn := (right_nodup h).1
  unfold trieP
  rw [swW_nodes hi hk]
  dsimp only
  congr 1
  rw [List.map_map]
  apply List.map_congr_left
  intro x _
  exact (swW_place hi hk hn x).symm
end

end Go.Proofs.Ytmpmjkbjnklgfaa

/- Three tries of the call's own (layer 7): what is known of them. -/



namespace Go.Proofs.Ytmpmjkbjnklgfaa
open Go.RowKit Go.Sort
set_option linter.unusedVariables false
set_option linter.unusedSimpArgs false

theorem own_box {W : World} {base n size Q i : Nat} {e : TypeId} {v u : Value} {xs : List Value} {cs : Array Value} (h : W.ownsRow base e size v n xs) (hQ : W.heap[Q]? = some (.cells cs 62 (0, 0))) (hne : 62 ≠ e) : (W.setCell ⟨Q, i, none⟩ u).ownsRow base e size v n xs :=
  h.kept (grown_set2 W Q i u) (.inr (own_far h hQ hne))
theorem tne_int : 62 ≠ 3 := of_decide_eq_true (by kernel_rfl)
theorem tne_u8 : 62 ≠ 5 := of_decide_eq_true (by kernel_rfl)
/-- A row of numbers, not empty: its block. -/
theorem row_pos {W : World} {base n m c : Nat} {a : Option Addr} {xs : List Value} {e : TypeId} (h : W.ownsRow base e 1 (.slice a m c) n xs) (hn : 0 < n) : ∃ g, a = some ⟨g, 0, none⟩ ∧ m = n := by
  obtain ⟨k, rfl⟩ : ∃ k, n = k + 1 := ⟨n - 1, by omega⟩
  obtain ⟨g, cap, e1⟩ := ownsRow_succ h
  injection e1 with e1 e2 e3
  exact ⟨g, e1, e2⟩
theorem OTri.lens {W : World} {b : Nat} {u : TV} {T : TrieT} (h : OTri W b u T) : T.up.length = u.un ∧ T.dep.length = u.dn ∧ T.wrd.length = u.xn ∧ T.byt.length = u.bn := ⟨h.tri.up.1, h.tri.dep.1, h.tri.wrd.1, h.tri.byt.1.1⟩
/-- Three tries of the call's own, each in a box. -/
structure Three (b : Nat) (T : TrieT) (P Q R B2 B3 : Nat) (u1 u2 u3 : TV) (W : World) : Prop where
  p : W.heap[P]? = some (.cells u1.cells 62 (0, 0))
  q : W.heap[Q]? = some (.cells u2.cells 62 (0, 0))
  r : W.heap[R]? = some (.cells u3.cells 62 (0, 0))
  pq : P ≠ Q
  pr : P ≠ R
  qr : Q ≠ R
  o1 : OTri W b u1 T
  o2 : OTri W B2 u2 T
  o3 : OTri W B3 u3 T
  lt1 : ∀ j, (Value.slice u1.da u1.dn u1.dc).ownBlock = some j → j < B2
  le : b ≤ B2 ∧ B2 ≤ B3
  pb : b ≤ P ∧ b ≤ Q ∧ b ≤ R
/-- Where a row of a trie is stored into, the others stay. -/
theorem OTri.other {W V : World} {b g : Nat} {u : TV} {T : TrieT} (h : OTri W b u T) (hg : W.grownBy V (some g)) (hlt : g < b) : OTri V b u T := by
  have f : ∀ {e : TypeId} {n : Nat} {v : Value} {xs : List Value}, W.ownsRow b e 1 v n xs → V.ownsRow b e 1 v n xs := fun hr => hr.kept hg (by
    cases hv : (_ : Value).ownBlock with
    | none => exact .inl rfl
    | some k => exact .inr (fun e => by have := (row_lt hr k hv).1; injection e with e; omega))
  exact ⟨f h.up, f h.dep, f h.wrd, f h.byt, h.bd, h.s1, h.s2, h.s3, h.s4, h.s5, h.s6⟩
theorem OTri.box {W : World} {b Q i : Nat} {u : TV} {T : TrieT} {v : Value} {cs : Array Value} (h : OTri W b u T) (hQ : W.heap[Q]? = some (.cells cs 62 (0, 0))) : OTri (W.setCell ⟨Q, i, none⟩ v) b u T :=
  ⟨own_box h.up hQ tne_int, own_box h.dep hQ tne_int, own_box h.wrd hQ tne_int, own_box h.byt hQ tne_u8, h.bd, h.s1, h.s2, h.s3, h.s4, h.s5, h.s6⟩
theorem sep.row {W V : World} {b n g : Nat} {e : TypeId} {v v2 : Value} {xs : List Value} (h : W.ownsRow b e 1 v n xs) (hg : W.grownBy V (some g)) (hs : sep v2 v) (h2 : v2.ownBlock = some g) : V.ownsRow b e 1 v n xs :=
  h.kept hg (by rw [← h2]; exact hs.kept)
/-- One depth is turned. -/
theorem OTri.setDep {W : World} {b g nu : Nat} {u : TV} {T : TrieT} (h : OTri W b u T) (hd : u.da = some ⟨g, 0, none⟩) (x : Int) :
    OTri (W.setCell ⟨g, nu, none⟩ (.int .i64 x)) b u { T with dep := T.dep.set nu x } ∧ W.grownBy (W.setCell ⟨g, nu, none⟩ (.int .i64 x)) (some g) := by
  have hv : (Value.slice u.da u.dn u.dc).ownBlock = some g := by rw [hd]; rfl
  have hdep := h.dep
  rw [hd] at hdep
  obtain ⟨h1, h2⟩ := World.ownsRow.stored hdep nu (.int .i64 x)
  refine ⟨⟨sep.row h.up h2 h.s1.symm hv, ?_, sep.row h.wrd h2 h.s4 hv, sep.row h.byt h2 h.s5 hv, h.bd, h.s1, h.s2, h.s3, h.s4, h.s5, h.s6⟩, h2⟩
  rw [hd]
  simpa [List.map_set] using h1
/-- The words' numbers are turned. -/
theorem OTri.setWrd {W V : World} {b g : Nat} {u : TV} {T : TrieT} {X : List Int} (h : OTri W b u T) (hd : u.xa = some ⟨g, 0, none⟩) (hg : W.grownBy V (some g)) (hr : V.ownsRow b 3 1 (.slice u.xa u.xn u.xc) u.xn (X.map (Value.int .i64))) : OTri V b u { T with wrd := X } := by
  have hv : (Value.slice u.xa u.xn u.xc).ownBlock = some g := by rw [hd]; rfl
  exact ⟨sep.row h.up hg h.s2.symm hv, sep.row h.dep hg h.s4.symm hv, hr, sep.row h.byt hg h.s6 hv, h.bd, h.s1, h.s2, h.s3, h.s4, h.s5, h.s6⟩
/-- A round of the exchange. -/
def SwSt (l : List Int) (i k j : Nat) (X : List Int) : Prop := X.length = l.length ∧ ∀ m, X[m]? = if m < j then (l[m]?).map (swI i k) else l[m]?
theorem SwSt.start (l : List Int) (i k : Nat) : SwSt l i k 0 l := ⟨rfl, fun m => by simp⟩
theorem SwSt.step {l X : List Int} {i k j : Nat} {v : Int} (h : SwSt l i k j X) (hv : l[j]? = some v) : SwSt l i k (j + 1) (X.set j (swI i k v)) := by
  have hj := (List.getElem?_eq_some_iff.1 hv).1
  refine ⟨by simpa using h.1, fun m => ?_⟩
  rw [List.getElem?_set]
  by_cases e : j = m
  · subst e
    rw [if_pos rfl, if_pos (by rw [h.1]; exact hj), if_pos (by omega), hv]
    rfl
  · rw [if_neg e, h.2 m]
    by_cases hm : m < j
    · rw [if_pos hm, if_pos (by omega)]
    · rw [if_neg hm, if_neg (by omega)]
theorem SwSt.same {l X : List Int} {i k j : Nat} {v : Int} (h : SwSt l i k j X) (hv : l[j]? = some v) : X.set j v = X := by
  have := h.2 j
  rw [if_neg (by omega), hv] at this
  apply List.ext_getElem?
  intro m
  rw [List.getElem?_set]
  by_cases e : j = m
  · subst e
    rw [if_pos rfl, if_pos (List.getElem?_eq_some_iff.1 this).1, this]
  · rw [if_neg e]
theorem SwSt.all {l X : List Int} {i k : Nat} (h : SwSt l i k l.length X) : X = l.map (swI i k) := by
  apply List.ext_getElem?
  intro m
  rw [h.2 m, List.getElem?_map]
  by_cases hm : m < l.length
  · rw [if_pos hm]
  · rw [if_neg hm, List.getElem?_eq_none (by omega)]; rfl

end Go.Proofs.Ytmpmjkbjnklgfaa

/- A region that makes three tries of its own, in any order (layer 7): its states. -/


namespace Go.Proofs.Ytmpmjkbjnklgfaa
open Go.RowKit Go.Sort
set_option linter.unusedVariables false
set_option linter.unusedSimpArgs false

theorem capH {P : Program} {md : Region.Mode} {ops : Array Oper} {Q : Exit → Act → World → Prop} {S : World → Prop} {n : Nat} {listed : Array Bool} {tmps : Array Value} {d : List Deferred} {w : World}
    (h : ∀ N, N = n → ∀ O, O = ops → ∀ T0, T0 = tmps → ∀ L, L = listed → ∀ S0, S0 = S → ∀ Q0, Q0 = Q → wpAnyH P md O Q0 S0 N L { tmps := T0, defers := d } w) : wpAnyH P md ops Q S n listed { tmps := tmps, defers := d } w := h _ rfl _ rfl _ rfl _ rfl _ rfl _ rfl
def lst8 (c : Nat) (x y z : Bool) : Array Bool := #[true, decide (1 ≤ c), true, decide (2 ≤ c), true, decide (3 ≤ c), x, y, z, false, false, false]
def rdy8 (c : Nat) (x y z : Bool) : List Nat := (if c = 0 then [1] else if c = 1 then [3] else if c = 2 then [5] else []) ++ (if x then [] else [6]) ++ (if y then [] else [7]) ++ (if z then [] else [8])
/-- What a frame's slots hold. -/
def tv8 (T0 : Array Value) (c : Nat) (x y z : Bool) (u1 u2 u3 : TV) (P Q R : Nat) (i : Nat) : Option Value :=
  if i = 70 ∧ 1 ≤ c then some (.agg u1.cells) else if i = 72 ∧ 2 ≤ c then some (.agg u2.cells) else if i = 74 ∧ 3 ≤ c then some (.agg u3.cells)
  else if i = 14 ∧ x = true then some (.pointer (some ⟨P, 0, none⟩)) else if i = 15 ∧ y = true then some (.pointer (some ⟨Q, 0, none⟩)) else if i = 16 ∧ z = true then some (.pointer (some ⟨R, 0, none⟩)) else T0[i]?
/-- What the world holds. -/
structure W8 (w6 : World) (T : TrieT) (c : Nat) (x y z : Bool) (u1 u2 u3 : TV) (P Q R B2 B3 : Nat) (w : World) : Prop where
  bel : RowKit.Below w6.heap.size w6 w
  o1 : 1 ≤ c → OTri w w6.heap.size u1 T
  o2 : 2 ≤ c → OTri w B2 u2 T ∧ w6.heap.size ≤ B2 ∧ B2 ≤ w.heap.size ∧ ∀ j, (Value.slice u1.da u1.dn u1.dc).ownBlock = some j → j < B2
  o3 : 3 ≤ c → OTri w B3 u3 T ∧ B2 ≤ B3
  p : x = true → w.heap[P]? = some (.cells nil4 62 (0, 0)) ∧ w6.heap.size ≤ P
  q : y = true → w.heap[Q]? = some (.cells nil4 62 (0, 0)) ∧ w6.heap.size ≤ Q
  r : z = true → w.heap[R]? = some (.cells nil4 62 (0, 0)) ∧ w6.heap.size ≤ R
  pq : x = true → y = true → P ≠ Q
  pr : x = true → z = true → P ≠ R
  qr : y = true → z = true → Q ≠ R
theorem OTri.mono {W : World} {b b' : Nat} {t : TV} {T : TrieT} (h : OTri W b t T) (hb : b' ≤ b) : OTri W b' t T :=
  ⟨row_mono h.up hb, row_mono h.dep hb, row_mono h.wrd hb, row_mono h.byt hb, h.bd, h.s1, h.s2, h.s3, h.s4, h.s5, h.s6⟩
section
variable {w6 w w' : World} {T : TrieT} {c : Nat} {x y z : Bool} {u1 u2 u3 : TV} {P Q R B2 B3 : Nat}
theorem W8.below (h : W8 w6 T c x y z u1 u2 u3 P Q R B2 B3 w) (hb : RowKit.Below w.heap.size w w') : W8 w6 T c x y z u1 u2 u3 P Q R B2 B3 w' := by
  have f : ∀ {k : Nat} {o : Obj}, w.heap[k]? = some o → w'.heap[k]? = some o := fun hk => (hb.block _ (Array.getElem?_eq_some_iff.1 hk).1).trans hk
  exact ⟨h.bel.trans (hb.mono h.bel.size), fun g => (h.o1 g).below hb, fun g => ⟨(h.o2 g).1.below hb, (h.o2 g).2.1, Nat.le_trans (h.o2 g).2.2.1 hb.size, (h.o2 g).2.2.2⟩, fun g => ⟨(h.o3 g).1.below hb, (h.o3 g).2⟩, fun g => ⟨f (h.p g).1, (h.p g).2⟩, fun g => ⟨f (h.q g).1, (h.q g).2⟩, fun g => ⟨f (h.r g).1, (h.r g).2⟩, h.pq, h.pr, h.qr⟩
theorem W8.call1 (h : W8 w6 T 0 x y z u1 u2 u3 P Q R B2 B3 w) {u : TV} (hu : OTri w' w.heap.size u T) (hb : RowKit.Below w.heap.size w w') : W8 w6 T 1 x y z u u2 u3 P Q R B2 B3 w' := by
  have h' := h.below hb
  exact ⟨h'.bel, fun _ => hu.mono h.bel.size, fun g => by omega, fun g => by omega, h'.p, h'.q, h'.r, h.pq, h.pr, h.qr⟩
theorem W8.call2 (h : W8 w6 T 1 x y z u1 u2 u3 P Q R B2 B3 w) {u : TV} (hu : OTri w' w.heap.size u T) (hb : RowKit.Below w.heap.size w w') : W8 w6 T 2 x y z u1 u u3 P Q R w.heap.size B3 w' := by
  have h' := h.below hb
  exact ⟨h'.bel, fun _ => h'.o1 (Nat.le_refl _), fun _ => ⟨hu, h.bel.size, hb.size, fun j hj => (row_lt (h.o1 (Nat.le_refl _)).dep j hj).2⟩, fun g => by omega, h'.p, h'.q, h'.r, h.pq, h.pr, h.qr⟩
theorem W8.call3 (h : W8 w6 T 2 x y z u1 u2 u3 P Q R B2 B3 w) {u : TV} (hu : OTri w' w.heap.size u T) (hb : RowKit.Below w.heap.size w w') : W8 w6 T 3 x y z u1 u2 u P Q R B2 w.heap.size w' := by
  have h' := h.below hb
  exact ⟨h'.bel, fun _ => h'.o1 (by omega), fun _ => h'.o2 (by omega), fun _ => ⟨hu, (h.o2 (by omega)).2.2.1⟩, h'.p, h'.q, h'.r, h.pq, h.pr, h.qr⟩
theorem lt_of_at {k : Nat} {o : Obj} (h : w.heap[k]? = some o) : k < w.heap.size := (Array.getElem?_eq_some_iff.1 h).1
theorem W8.allocP (h : W8 w6 T c false y z u1 u2 u3 P Q R B2 B3 w) : W8 w6 T c true y z u1 u2 u3 w.heap.size Q R B2 B3 (w.alloc (.cells nil4 62)) := by
  have h' := h.below (below_alloc w (.cells nil4 62))
  exact ⟨h'.bel, h'.o1, h'.o2, h'.o3, fun _ => ⟨World.alloc_heap_new _ _, h.bel.size⟩, h'.q, h'.r, fun _ g => Nat.ne_of_gt (lt_of_at (h.q g).1), fun _ g => Nat.ne_of_gt (lt_of_at (h.r g).1), h.qr⟩
theorem W8.allocQ (h : W8 w6 T c x false z u1 u2 u3 P Q R B2 B3 w) : W8 w6 T c x true z u1 u2 u3 P w.heap.size R B2 B3 (w.alloc (.cells nil4 62)) := by
  have h' := h.below (below_alloc w (.cells nil4 62))
  exact ⟨h'.bel, h'.o1, h'.o2, h'.o3, h'.p, fun _ => ⟨World.alloc_heap_new _ _, h.bel.size⟩, h'.r, fun g _ => Nat.ne_of_lt (lt_of_at (h.p g).1), h.pr, fun _ g => Nat.ne_of_gt (lt_of_at (h.r g).1)⟩
theorem W8.allocR (h : W8 w6 T c x y false u1 u2 u3 P Q R B2 B3 w) : W8 w6 T c x y true u1 u2 u3 P Q w.heap.size B2 B3 (w.alloc (.cells nil4 62)) := by
  have h' := h.below (below_alloc w (.cells nil4 62))
  exact ⟨h'.bel, h'.o1, h'.o2, h'.o3, h'.p, h'.q, fun _ => ⟨World.alloc_heap_new _ _, h.bel.size⟩, h.pq, fun g _ => Nat.ne_of_lt (lt_of_at (h.p g).1), fun g _ => Nat.ne_of_lt (lt_of_at (h.q g).1)⟩
end
/-- A state: the frame and the world. -/
def J8 (w6 : World) (T : TrieT) (T0 : Array Value) (c : Nat) (x y z : Bool) (a : Act) (w : World) : Prop :=
  ∃ (u1 u2 u3 : TV) (P Q R B2 B3 : Nat), a.defers = [] ∧ a.tmps.size = T0.size ∧ (∀ i, a.tmps[i]? = tv8 T0 c x y z u1 u2 u3 P Q R i) ∧ W8 w6 T c x y z u1 u2 u3 P Q R B2 B3 w
theorem put_at {a : Act} {d i : Nat} {v : Value} (hd : d < a.tmps.size) : (a.put (some d) v).tmps[i]? = if i = d then some v else a.tmps[i]? := by
  show (a.tmps.setIfInBounds d v)[i]? = _
  rw [Array.getElem?_setIfInBounds]
  by_cases e : i = d
  · subst e; simp [hd]
  · rw [if_neg (fun h => e h.symm), if_neg e]

theorem rdy8_ne {c : Nat} {x y z : Bool} (hc : c ≤ 3) (hno : ¬ (c = 3 ∧ x = true ∧ y = true ∧ z = true)) : rdy8 c x y z ≠ [] := by
  obtain rfl | rfl | rfl | rfl : c = 0 ∨ c = 1 ∨ c = 2 ∨ c = 3 := by omega
  · simp [rdy8]
  · simp [rdy8]
  · simp [rdy8]
  · cases x <;> cases y <;> cases z <;> simp_all [rdy8]
theorem rdy8_mem {c i : Nat} {x y z : Bool} (h : i ∈ rdy8 c x y z) : (c = 0 ∧ i = 1) ∨ (c = 1 ∧ i = 3) ∨ (c = 2 ∧ i = 5) ∨ (x = false ∧ i = 6) ∨ (y = false ∧ i = 7) ∨ (z = false ∧ i = 8) := by
  unfold rdy8 at h
  simp only [List.mem_append] at h
  rcases h with ((h | h) | h) | h
  · split at h
    · rename_i e; simp at h; exact .inl ⟨e, h⟩
    · split at h
      · rename_i e; simp at h; exact .inr (.inl ⟨e, h⟩)
      · split at h
        · rename_i e; simp at h; exact .inr (.inr (.inl ⟨e, h⟩))
        · cases h
  · cases x
    · simp at h; exact .inr (.inr (.inr (.inl ⟨rfl, h⟩)))
    · simp at h
  · cases y
    · simp at h; exact .inr (.inr (.inr (.inr (.inl ⟨rfl, h⟩))))
    · simp at h
  · cases z
    · simp at h; exact .inr (.inr (.inr (.inr (.inr ⟨rfl, h⟩))))
    · simp at h
theorem lst8_1 (x y z : Bool) : (lst8 0 x y z).setIfInBounds 1 true = lst8 1 x y z := by cases x <;> cases y <;> cases z <;> rfl
theorem lst8_3 (x y z : Bool) : (lst8 1 x y z).setIfInBounds 3 true = lst8 2 x y z := by cases x <;> cases y <;> cases z <;> rfl
theorem lst8_5 (x y z : Bool) : (lst8 2 x y z).setIfInBounds 5 true = lst8 3 x y z := by cases x <;> cases y <;> cases z <;> rfl
theorem lst8_6 (c : Nat) (x y z : Bool) : (lst8 c x y z).setIfInBounds 6 true = lst8 c true y z := rfl
theorem lst8_7 (c : Nat) (x y z : Bool) : (lst8 c x y z).setIfInBounds 7 true = lst8 c x true z := rfl
theorem lst8_8 (c : Nat) (x y z : Bool) : (lst8 c x y z).setIfInBounds 8 true = lst8 c x y true := rfl
section
variable {T0 : Array Value} {x y z : Bool} {u1 u2 u3 u : TV} {P Q R n : Nat} {i c : Nat}
theorem tv8_1 : (if i = 70 then some (.agg u.cells) else tv8 T0 0 x y z u1 u2 u3 P Q R i) = tv8 T0 1 x y z u u2 u3 P Q R i := by
  unfold tv8; by_cases e : i = 70 <;> simp [e]
theorem tv8_3 : (if i = 72 then some (.agg u.cells) else tv8 T0 1 x y z u1 u2 u3 P Q R i) = tv8 T0 2 x y z u1 u u3 P Q R i := by
  unfold tv8; by_cases e : i = 72 <;> simp [e]
theorem tv8_5 : (if i = 74 then some (.agg u.cells) else tv8 T0 2 x y z u1 u2 u3 P Q R i) = tv8 T0 3 x y z u1 u2 u P Q R i := by
  unfold tv8; by_cases e : i = 74 <;> simp [e]
theorem tv8_6 : (if i = 14 then some (.pointer (some ⟨n, 0, none⟩)) else tv8 T0 c false y z u1 u2 u3 P Q R i) = tv8 T0 c true y z u1 u2 u3 n Q R i := by
  unfold tv8; by_cases e : i = 14 <;> simp [e]
theorem tv8_7 : (if i = 15 then some (.pointer (some ⟨n, 0, none⟩)) else tv8 T0 c x false z u1 u2 u3 P Q R i) = tv8 T0 c x true z u1 u2 u3 P n R i := by
  unfold tv8; by_cases e : i = 15 <;> simp [e]
theorem tv8_8 : (if i = 16 then some (.pointer (some ⟨n, 0, none⟩)) else tv8 T0 c x y false u1 u2 u3 P Q R i) = tv8 T0 c x y true u1 u2 u3 P Q n i := by
  unfold tv8; by_cases e : i = 16 <;> simp [e]
end
theorem put_size {a : Act} {d : Option Nat} {v : Value} : (a.put d v).tmps.size = a.tmps.size := by
  cases d with
  | none => rfl
  | some d => show (a.tmps.setIfInBounds d v).size = _; simp
theorem put_defers {a : Act} {d : Option Nat} {v : Value} : (a.put d v).defers = a.defers := by cases d <;> rfl
theorem J8.put {w6 : World} {T : TrieT} {T0 : Array Value} {c c' : Nat} {x y z x' y' z' : Bool} {u1 u2 u3 v1 v2 v3 : TV} {P Q R P' Q' R' C2 C3 d : Nat} {v : Value} {a : Act} {w' : World} (h1 : a.defers = []) (h2 : a.tmps.size = T0.size) (h3 : ∀ i, a.tmps[i]? = tv8 T0 c x y z u1 u2 u3 P Q R i) (hd : d < T0.size)
    (ht : ∀ i, (if i = d then some v else tv8 T0 c x y z u1 u2 u3 P Q R i) = tv8 T0 c' x' y' z' v1 v2 v3 P' Q' R' i) (hW : W8 w6 T c' x' y' z' v1 v2 v3 P' Q' R' C2 C3 w') : J8 w6 T T0 c' x' y' z' (a.put (some d) v) w' :=
  ⟨v1, v2, v3, P', Q', R', C2, C3, by rw [put_defers, h1], by rw [put_size, h2], fun i => by rw [put_at (by rw [h2]; exact hd), h3 i]; exact ht i, hW⟩

theorem put_is {a : Act} {d : Nat} {v : Value} (h : a.defers = []) : ({ tmps := a.tmps.setIfInBounds d v, defers := [] } : Act) = a.put (some d) v := by
  cases a
  cases h
  rfl
/-- Four cells stored. -/
def st4 (W : World) (P : Nat) (x y z v : Value) : World := (((W.setCell ⟨P, 0, none⟩ x).setCell ⟨P, 1, none⟩ y).setCell ⟨P, 2, none⟩ z).setCell ⟨P, 3, none⟩ v
theorem st4_at {W : World} {P : Nat} {x y z v : Value} (h : W.heap[P]? = some (.cells nil4 62 (0, 0))) : (st4 W P x y z v).heap[P]? = some (.cells #[x, y, z, v] 62 (0, 0)) := by
  have := set_at (i := 3) (set_at (i := 2) (set_at (i := 1) (set_at (i := 0) h x) y) z) v
  simpa [st4] using this
theorem st4_far {W : World} {P k : Nat} {x y z v : Value} (h : k ≠ P) : (st4 W P x y z v).heap[k]? = W.heap[k]? := by
  unfold st4
  rw [Below.heap_setCell _ _ _ _ h, Below.heap_setCell _ _ _ _ h, Below.heap_setCell _ _ _ _ h, Below.heap_setCell _ _ _ _ h]
theorem st4_grown {W : World} {P : Nat} {x y z v : Value} : W.grownBy (st4 W P x y z v) (some P) :=
  ⟨rfl, rfl, rfl, by simp [st4], fun k hk hne => st4_far (fun e => hne (by rw [e]))⟩
theorem OTri.st4 {W : World} {b P : Nat} {u : TV} {T : TrieT} {x y z v : Value} {cs : Array Value} (h : OTri W b u T) (hP : W.heap[P]? = some (.cells cs 62 (0, 0))) : OTri (st4 W P x y z v) b u T := by
  have f : ∀ {e : TypeId} {n : Nat} {v' : Value} {xs : List Value}, 62 ≠ e → W.ownsRow b e 1 v' n xs → (Go.Proofs.Ytmpmjkbjnklgfaa.st4 W P x y z v).ownsRow b e 1 v' n xs := fun hne hr => hr.kept st4_grown (.inr (own_far hr hP hne))
  exact ⟨f tne_int h.up, f tne_int h.dep, f tne_int h.wrd, f tne_u8 h.byt, h.bd, h.s1, h.s2, h.s3, h.s4, h.s5, h.s6⟩
theorem st4_below {W0 W : World} {B P : Nat} {x y z v : Value} (h : RowKit.Below B W0 W) (hP : B ≤ P) : RowKit.Below B W0 (st4 W P x y z v) := (((h.setCell hP _).setCell hP _).setCell hP _).setCell hP _
theorem tv8_all {T0 : Array Value} {u1 u2 u3 : TV} {P Q R : Nat} {a : Act} (hs : a.tmps.size = T0.size) (h0 : 74 < T0.size) (h : ∀ i, a.tmps[i]? = tv8 T0 3 true true true u1 u2 u3 P Q R i) :
    a.tmps = (((((T0.setIfInBounds 70 (.agg u1.cells)).setIfInBounds 72 (.agg u2.cells)).setIfInBounds 74 (.agg u3.cells)).setIfInBounds 14 (.pointer (some ⟨P, 0, none⟩))).setIfInBounds 15 (.pointer (some ⟨Q, 0, none⟩))).setIfInBounds 16 (.pointer (some ⟨R, 0, none⟩)) := by
  apply Array.ext_getElem?
  intro i
  rw [h i]
  unfold tv8
  simp only [Array.getElem?_setIfInBounds, Array.size_setIfInBounds]
  by_cases e1 : i = 70
  · subst e1; simp [show 70 < T0.size by omega]
  · by_cases e2 : i = 72
    · subst e2; simp [show 72 < T0.size by omega]
    · by_cases e3 : i = 74
      · subst e3; simp [show 74 < T0.size by omega]
      · by_cases e4 : i = 14
        · subst e4; simp [show 14 < T0.size by omega]
        · by_cases e5 : i = 15
          · subst e5; simp [show 15 < T0.size by omega]
          · by_cases e6 : i = 16
            · subst e6; simp [show 16 < T0.size by omega]
            · simp [e1, e2, e3, e4, e5, e6, Ne.symm e1, Ne.symm e2, Ne.symm e3, Ne.symm e4, Ne.symm e5, Ne.symm e6]

end Go.Proofs.Ytmpmjkbjnklgfaa

/- The law that a trie that is spoilt may not be (layer 7), walked. Printed by gen_vd.py. -/





namespace Go.Proofs.Ytmpmjkbjnklgfaa
open Go.RowKit Go.Sort
set_option linter.unusedVariables false
set_option linter.unusedSimpArgs false

theorem grown_trans {a b c : World} {g : Nat} (h1 : a.grownBy b (some g)) (h2 : b.grownBy c (some g)) : a.grownBy c (some g) :=
  ⟨h2.os.trans h1.os, h2.tape.trans h1.tape, h2.output.trans h1.output, Nat.le_trans h1.size h2.size, fun k hk hne => (h2.block k (Nat.lt_of_lt_of_le hk h1.size) hne).trans (h1.block k hk hne)⟩

set_option maxRecDepth 100000 in
set_option maxHeartbeats 16000000 in
theorem trieSpoilt_walk (fold : Bool) (a : Option Addr) (la ca : Nat) (node depth ii kk : Int) (wss : List (List Int)) (w : World) (hA : Wds w a la wss) :
    Calls Try.prog 12 #[.agg (setV fold a la ca), .int .i64 node, .int .i64 depth, .int .i64 ii, .int .i64 kk] w fun e w' => e = .returned (.bool true) ∧ Below w.heap.size w w' := by
  obtain ⟨W1, hW1⟩ : ∃ W1, W1 = w.alloc (.cells (setV fold a la ca) 39) := ⟨_, rfl⟩
  have hB1 : Below w.heap.size w W1 := by rw [hW1]; exact below_alloc _ _
  have hO1 : Bx w.heap.size [.cells (setV fold a la ca) 39] W1 := by rw [hW1]; exact (Bx.nil _ w).snoc _ rfl
  have HGC := Lib.hid (great5_any fold a la ca wss W1 (hA.below hB1))
  have c0 : W1.cell? ⟨w.heap.size, 0, none⟩ = some (.bool fold) := hO1.cell (i := 0) rfl rfl
  have c1 : W1.cell? ⟨w.heap.size, 1, none⟩ = some (.slice a la ca) := hO1.cell (i := 0) rfl rfl
  cases hg : greatP wss with
  | true =>
    have HG := Lib.hid hg
    clear hg
    go_enter Try.func12, Try.ntmps12
    go_wp2_with fail
    rw [← hW1]
    refine HGC.out.mono ?_
    rintro e w2 ⟨rfl, hb⟩
    rw [HG.out]
    have hB2 : RowKit.Below w.heap.size w w2 := hB1.trans (hb.mono hB1.size)
    clear c0 c1 hb
    go_wp2_with fail
    refine (wakes7 w2).mono ?_
    rintro e w9 ⟨rfl, hb9⟩
    go_wp2
    go_ret
    exact ⟨rfl, hB2.trans (hb9.mono hB2.size)⟩
  | false =>
    obtain ⟨g1, g2, g3⟩ := great_bd hg fold
    have HG := Lib.hid hg
    have HWL := Lib.hid hA.len
    have hla : la ≤ 1000 := by rw [← hA.len]; omega
    have HM := Lib.hid (show ∀ x ∈ wss, x.length ≤ 1000000 from fun z hz => by have := g2 z hz; omega)
    have hBL : (begL fold wss).length ≤ 1000000 := by omega
    clear hg g2 g3
    cases hr : rightR fold wss with
    | false =>
      have HR := Lib.hid hr
      clear hr
      go_enter Try.func12, Try.ntmps12
      go_wp2_with fail
      rw [← hW1]
      refine HGC.out.mono ?_
      rintro e w2 ⟨rfl, hb⟩
      rw [HG.out]
      have hB2 : RowKit.Below w.heap.size w w2 := hB1.trans (hb.mono hB1.size)
      have hO2 := hO1.below hb
      clear c0 c1 hb
      have c0 : w2.cell? ⟨w.heap.size, 0, none⟩ = some (.bool fold) := hO2.cell (i := 0) rfl rfl
      have c1 : w2.cell? ⟨w.heap.size, 1, none⟩ = some (.slice a la ca) := hO2.cell (i := 0) rfl rfl
      go_wp2_with fail
      refine (rright_any fold a la ca wss w2 (hA.below hB2) (by omega) HM.out).mono ?_
      rintro e w3 ⟨rfl, hb⟩
      rw [HR.out]
      have hB3 : RowKit.Below w.heap.size w w3 := hB2.trans (hb.mono hB2.size)
      clear c0 c1 hb hO2
      go_wp2_with fail
      refine (wakes7 w3).mono ?_
      rintro e w9 ⟨rfl, hb9⟩
      go_wp2
      go_ret
      exact ⟨rfl, hB3.trans (hb9.mono hB3.size)⟩
    | true =>
      have HR := Lib.hid hr
      have hrp : rightP fold wss = true := by rw [right_eq]; exact hr
      have hr0 := right_false hrp
      have HR0 := Lib.hid hr0
      have HRP := Lib.hid hrp
      have hn2 := nodes_two hr0
      have hn4 := (right_nodes hr0).2
      have hwn := words_lt hr0
      have hlw : wss.length = la := hA.len
      obtain ⟨n, hn⟩ : ∃ n, n = (nodesL wss).length := ⟨_, rfl⟩
      have HN := Lib.hid hn
      rw [← hn] at hn2 hn4 hwn
      have hlan : la < n := by omega
      clear hr hn hwn hlw hrp hr0
      go_enter Try.func12, Try.ntmps12
      go_wp2_with fail
      rw [← hW1]
      refine HGC.out.mono ?_
      rintro e w2 ⟨rfl, hb⟩
      rw [HG.out]
      have hB2 : RowKit.Below w.heap.size w w2 := hB1.trans (hb.mono hB1.size)
      have hO2 := hO1.below hb
      clear c0 c1 hb hO1 hB1 hW1
      have c0 : w2.cell? ⟨w.heap.size, 0, none⟩ = some (.bool fold) := hO2.cell (i := 0) rfl rfl
      have c1 : w2.cell? ⟨w.heap.size, 1, none⟩ = some (.slice a la ca) := hO2.cell (i := 0) rfl rfl
      go_wp2_with fail
      refine (rright_any fold a la ca wss w2 (hA.below hB2) (by omega) HM.out).mono ?_
      rintro e w3 ⟨rfl, hb⟩
      rw [HR.out]
      have hB3 : RowKit.Below w.heap.size w w3 := hB2.trans (hb.mono hB2.size)
      have hO3 := hO2.below hb
      clear c0 c1 hb hO2 hB2
      have c0 : w3.cell? ⟨w.heap.size, 0, none⟩ = some (.bool fold) := hO3.cell (i := 0) rfl rfl
      have c1 : w3.cell? ⟨w.heap.size, 1, none⟩ = some (.slice a la ca) := hO3.cell (i := 0) rfl rfl
      go_wp2_with fail
      refine (make7_yes fold a la ca wss w3 (hA.below hB3) (by omega) HM.out hBL HRP.out).mono ?_
      rintro e w4 ⟨t, rfl, hT4, hb⟩
      have hB4 : RowKit.Below w.heap.size w w4 := hB3.trans (hb.mono hB3.size)
      have hO4 := hO3.below hb
      obtain ⟨l1, l2, l3, l4⟩ := trie_lens (ws := wss)
      have htl : n = t.un ∧ n = t.dn ∧ n = t.xn ∧ n = t.bn := by
        have q0 := HN.out
        have q1 := hT4.up.1; have q2 := hT4.dep.1; have q3 := hT4.wrd.1; have q4 := hT4.byt.1.1
        omega
      obtain ⟨ua, un, uc, da, dn, dc, xa, xn, xc, ba, bn, bc⟩ := t
      dsimp only at htl
      obtain ⟨m1, m2, m3, m4⟩ := htl
      subst m1 m2 m3 m4
      clear c0 c1 hb hO3 hB3 l1 l2 l3 l4
      go_upto_region 4 with fail
      obtain ⟨w5, hw5⟩ : ∃ w5, w5 = w4.alloc (.cells #[.slice ua n uc, .slice da n dc, .slice xa n xc, .slice ba n bc] 62) := ⟨_, rfl⟩
      have hP : w5.heap[w4.heap.size]? = some (.cells #[.slice ua n uc, .slice da n dc, .slice xa n xc, .slice ba n bc] 62 (0, 0)) := by rw [hw5]; exact World.alloc_heap_new _ _
      have hb5 : RowKit.Below w4.heap.size w4 w5 := by rw [hw5]; exact below_alloc _ _
      rw [← hw5]
      clear hw5
      have hB5 := hB4.trans (hb5.mono hB4.size)
      have hO5 := hO4.below hb5
      have hT5 := hT4.below hb5
      obtain ⟨p, hp⟩ : ∃ p, w4.heap.size = p := ⟨_, rfl⟩
      rw [hp] at hP ⊢
      clear hp hb5 hB4 hO4 hT4
      have HC : Hid (∀ V, RowKit.Below w5.heap.size w5 V → (V.cell? ⟨w.heap.size, 0, none⟩ = some (.bool fold) ∧ V.cell? ⟨w.heap.size, 1, none⟩ = some (.slice a la ca)) ∧ V.cell? ⟨p, 0, none⟩ = some (.slice ua n uc) ∧ V.cell? ⟨p, 1, none⟩ = some (.slice da n dc) ∧ V.cell? ⟨p, 2, none⟩ = some (.slice xa n xc) ∧ V.cell? ⟨p, 3, none⟩ = some (.slice ba n bc)) := fun V hV => by
        have e := (hV.block _ (Array.getElem?_eq_some_iff.1 hP).1).trans hP
        have hO := hO5.below hV
        exact ⟨⟨hO.cell (i := 0) rfl rfl, hO.cell (i := 0) rfl rfl⟩, by simp [World.cell?, e]⟩
      have hA5 := hA.below hB5
      have HA5 := Lib.hid hA5
      have HT5 := Lib.hid hT5
      have HB5 := Lib.hid hB5
      clear hP hO5 hA5 hT5 hB5
      have HRD := Lib.hid (readP_trie HR0.out)
      have s2 := tmany_any ⟨ua, n, uc, da, n, dc, xa, n, xc, ba, n, bc⟩ (trieP wss) w5 HT5.out (by dsimp only; omega)
      have e2 : manyT (trieP wss) = (n : Int) := by unfold manyT; rw [HRD.out]; dsimp only; rw [trie_lens.1, ← HN.out]
      rw [e2] at s2
      have S2 := Lib.hid s2
      clear s2 e2
      obtain ⟨⟨c0, c1⟩, c2, c3, c4, c5⟩ := HC.out w5 (RowKit.Below.refl _ _)
      go_wp2_with fail
      refine S2.out.mono ?_
      rintro e w6 ⟨rfl, hBq⟩
      clear c0 c1 c2 c3 c4 c5
      obtain ⟨⟨c0, c1⟩, c2, c3, c4, c5⟩ := HC.out w6 hBq
      have dn2 : decide ((n : Int) < 2) = false := by simp; omega
      obtain ⟨nu, hnu, hnn⟩ : ∃ nu : Nat, min (max node 0) ((n : Int) - 1) = nu ∧ nu < n := ⟨(min (max node 0) ((n : Int) - 1)).toNat, by omega, by omega⟩
      go_upto_region 8 with fail
      clear hnu dn2
      have HBQ := Lib.hid hBq
      clear hBq c0 c1 c2 c3 c4 c5
      go_cut [14, 15, 16] from 22 (fun s14 s15 s16 wx => ∃ (P Q R B2 B3 : Nat) (u1 u2 u3 : TV), s14 = .pointer (some ⟨P, 0, none⟩) ∧ s15 = .pointer (some ⟨Q, 0, none⟩) ∧ s16 = .pointer (some ⟨R, 0, none⟩) ∧ Three w6.heap.size (trieP wss) P Q R B2 B3 u1 u2 u3 wx ∧ RowKit.Below w6.heap.size w6 wx)
      case first =>
        as_aux_lemma =>
          have HSK : Hid (∀ W, RowKit.Below w6.heap.size w6 W → (W.cell? ⟨p, 0, none⟩ = some (.slice ua n uc) ∧ W.cell? ⟨p, 1, none⟩ = some (.slice da n dc) ∧ W.cell? ⟨p, 2, none⟩ = some (.slice xa n xc) ∧ W.cell? ⟨p, 3, none⟩ = some (.slice ba n bc)) ∧ RowKit.Below w6.heap.size w6 W) := fun W hW => ⟨(HC.out W (HBQ.out.trans (hW.mono HBQ.out.size))).2, hW⟩
          have HO : Hid (∀ W, RowKit.Below w6.heap.size w6 W → Calls Try.prog 54 #[.agg #[.slice ua n uc, .slice da n dc, .slice xa n xc, .slice ba n bc]] W fun e w' => ∃ u : TV, e = .returned (.agg u.cells) ∧ OTri w' W.heap.size u (trieP wss) ∧ RowKit.Below W.heap.size W w') := fun W hW =>
            rown7_any ⟨ua, n, uc, da, n, dc, xa, n, xc, ba, n, bc⟩ (trieP wss) W (HT5.out.below (HBQ.out.trans (hW.mono HBQ.out.size))) (by dsimp only; omega)
          have hBeld : RowKit.Below w6.heap.size w6 w6.drew := (RowKit.Below.refl w6.heap.size w6).drew
          refine wp_region_noPanic ?_
          refine wp_region_held_drew (S := fun W => (W.cell? ⟨p, 0, none⟩ = some (.slice ua n uc) ∧ W.cell? ⟨p, 1, none⟩ = some (.slice da n dc) ∧ W.cell? ⟨p, 2, none⟩ = some (.slice xa n xc) ∧ W.cell? ⟨p, 3, none⟩ = some (.slice ba n bc)) ∧ RowKit.Below w6.heap.size w6 W) (by as_aux_lemma => kernel_rfl) (HSK.out _ hBeld) (fun hHeld => ?_)
          refine wpAnyH_take (i := 0) (v := ?_) (by simp only [List.getElem?_toArray, List.getElem?_cons_zero, List.getElem?_cons_succ]; rfl) (by as_aux_lemma => kernel_rfl) (by as_aux_lemma => kernel_rfl) (by as_aux_lemma => kernel_rfl) (fun _ _ _ h => h) (Or.inl ⟨by rfl, ?_⟩) (by assumption) ?_
          rotate_left
          · intro V hV
            obtain ⟨⟨k0, k1, k2, k3⟩, _⟩ := hV
            first | (go_simp; done) | (go_simp; with_reducible rfl)
          try simp only [Act.put, List.setIfInBounds_toArray, List.set_cons_zero, List.set_cons_succ]
          refine wpAnyH_take (i := 2) (v := ?_) (by simp only [List.getElem?_toArray, List.getElem?_cons_zero, List.getElem?_cons_succ]; rfl) (by as_aux_lemma => kernel_rfl) (by as_aux_lemma => kernel_rfl) (by as_aux_lemma => kernel_rfl) (fun _ _ _ h => h) (Or.inl ⟨by rfl, ?_⟩) (by assumption) ?_
          rotate_left
          · intro V hV
            obtain ⟨⟨k0, k1, k2, k3⟩, _⟩ := hV
            first | (go_simp; done) | (go_simp; with_reducible rfl)
          try simp only [Act.put, List.setIfInBounds_toArray, List.set_cons_zero, List.set_cons_succ]
          refine wpAnyH_take (i := 4) (v := ?_) (by simp only [List.getElem?_toArray, List.getElem?_cons_zero, List.getElem?_cons_succ]; rfl) (by as_aux_lemma => kernel_rfl) (by as_aux_lemma => kernel_rfl) (by as_aux_lemma => kernel_rfl) (fun _ _ _ h => h) (Or.inl ⟨by rfl, ?_⟩) (by assumption) ?_
          rotate_left
          · intro V hV
            obtain ⟨⟨k0, k1, k2, k3⟩, _⟩ := hV
            first | (go_simp; done) | (go_simp; with_reducible rfl)
          try simp only [Act.put, List.setIfInBounds_toArray, List.set_cons_zero, List.set_cons_succ]
          refine capH ?_
          intro N hN O hO T0 hT0 L hL S0 hS0 Q0 hQ0
          have hN9 : N = 9 := by rw [hN]; rfl
          have hL0 : L = lst8 0 false false false := by rw [hL]; as_aux_lemma => kernel_rfl
          have hsz : T0.size = 181 := by rw [hT0]; rfl
          have h69 : T0[69]? = some (.agg #[.slice ua n uc, .slice da n dc, .slice xa n xc, .slice ba n bc]) := by rw [hT0]; rfl
          have h71 : T0[71]? = some (.agg #[.slice ua n uc, .slice da n dc, .slice xa n xc, .slice ba n bc]) := by rw [hT0]; rfl
          have h73 : T0[73]? = some (.agg #[.slice ua n uc, .slice da n dc, .slice xa n xc, .slice ba n bc]) := by rw [hT0]; rfl
          have hrd : ∀ c x y z, c ≤ 3 → ¬ (c = 3 ∧ x = true ∧ y = true ∧ z = true) → Region.ready .any O (lst8 c x y z) = rdy8 c x y z := by
            intro c x y z hc hno
            obtain rfl | rfl | rfl | rfl : c = 0 ∨ c = 1 ∨ c = 2 ∨ c = 3 := by omega
            · clear hno hc
              rw [hO]
              cases x <;> cases y <;> cases z <;> kernel_rfl
            · clear hno hc
              rw [hO]
              cases x <;> cases y <;> cases z <;> kernel_rfl
            · clear hno hc
              rw [hO]
              cases x <;> cases y <;> cases z <;> kernel_rfl
            · rw [hO]
              cases x <;> cases y <;> cases z
              all_goals first | (exact absurd ⟨rfl, rfl, rfl, rfl⟩ hno) | (clear hno hc; kernel_rfl)
          have hSW : ∀ W, RowKit.Below w6.heap.size w6 W → S0 W := fun W hW => by rw [hS0]; exact HSK.out W hW
          have HOO := Lib.hid hO
          have HRD8 := Lib.hid hrd
          have HSW := Lib.hid hSW
          have HT0 := Lib.hid hT0
          have HQ0 := Lib.hid hQ0
          clear hO hrd hSW hT0 hQ0 hS0 hL hN
          have main : ∀ (m c : Nat) (x y z : Bool) (a : Act) (w : World), c ≤ 3 → m + c + x.toNat + y.toNat + z.toNat = 6 → J8 w6 (trieP wss) T0 c x y z a w → wpAnyH Try.prog .any O Q0 S0 (m + 3) (lst8 c x y z) a w := by
            intro m
            induction m with
            | zero =>
              intro c x y z a w hc hm hJ
              obtain ⟨rfl, rfl, rfl, rfl⟩ : c = 3 ∧ x = true ∧ y = true ∧ z = true := by
                cases x <;> cases y <;> cases z <;> simp only [Bool.toNat_false, Bool.toNat_true] at hm <;> first | exact ⟨by omega, rfl, rfl, rfl⟩ | (exfalso; omega)
              obtain ⟨⟨a1, a2, a3, a4, a5, a6, a7, a8, a9, a10, a11, a12⟩, ⟨b1, b2, b3, b4, b5, b6, b7, b8, b9, b10, b11, b12⟩, ⟨d1, d2, d3, d4, d5, d6, d7, d8, d9, d10, d11, d12⟩, P, Q, R, B2, B3, ha1, ha2, ha3, hW⟩ := hJ
              obtain ⟨hp, hp6⟩ := hW.p rfl
              obtain ⟨hq, hq6⟩ := hW.q rfl
              obtain ⟨hr, hr6⟩ := hW.r rfl
              have o1 := hW.o1 (by omega)
              obtain ⟨o2, o2a, o2b, o2c⟩ := hW.o2 (by omega)
              obtain ⟨o3, o3a⟩ := hW.o3 (by omega)
              have hpq := hW.pq rfl rfl
              have hpr := hW.pr rfl rfl
              have hqr := hW.qr rfl rfl
              have hbel := hW.bel
              have HALL := Lib.hid (tv8_all ha2 (by omega) ha3)
              obtain ⟨_, f14⟩ := Array.getElem?_eq_some_iff.1 (show a.tmps[14]? = some (.pointer (some ⟨P, 0, none⟩)) by rw [ha3 14]; simp [tv8])
              obtain ⟨_, f15⟩ := Array.getElem?_eq_some_iff.1 (show a.tmps[15]? = some (.pointer (some ⟨Q, 0, none⟩)) by rw [ha3 15]; simp [tv8])
              obtain ⟨_, f16⟩ := Array.getElem?_eq_some_iff.1 (show a.tmps[16]? = some (.pointer (some ⟨R, 0, none⟩)) by rw [ha3 16]; simp [tv8])
              obtain ⟨_, f70⟩ := Array.getElem?_eq_some_iff.1 (show a.tmps[70]? = some (.agg #[.slice a1 a2 a3, .slice a4 a5 a6, .slice a7 a8 a9, .slice a10 a11 a12]) by rw [ha3 70]; simp [tv8])
              obtain ⟨_, f72⟩ := Array.getElem?_eq_some_iff.1 (show a.tmps[72]? = some (.agg #[.slice b1 b2 b3, .slice b4 b5 b6, .slice b7 b8 b9, .slice b10 b11 b12]) by rw [ha3 72]; simp [tv8])
              obtain ⟨_, f74⟩ := Array.getElem?_eq_some_iff.1 (show a.tmps[74]? = some (.agg #[.slice d1 d2 d3, .slice d4 d5 d6, .slice d7 d8 d9, .slice d10 d11 d12]) by rw [ha3 74]; simp [tv8])
              have HA1 := Lib.hid ha1
              clear ha2 ha3 hW h69 h71 h73
              refine wpAnyH_all (rs := [9]) (by rw [HOO.out]; as_aux_lemma => kernel_rfl) (by simp) (fun i hi => ?_)
              rw [List.mem_singleton] at hi
              subst hi
              refine wpOp_step (by rw [HOO.out]; simp only [List.getElem?_toArray, List.getElem?_cons_zero, List.getElem?_cons_succ]; rfl) (fun K1 hK1 => ?_)
              rw [if_pos (by rfl)]
              have x10 : (w).cell? ⟨P, 0, none⟩ = some (.slice none 0 0) := by simp [World.cell?, hp]
              have x11 : (w).cell? ⟨P, 1, none⟩ = some (.slice none 0 0) := by simp [World.cell?, hp]
              have x12 : (w).cell? ⟨P, 2, none⟩ = some (.slice none 0 0) := by simp [World.cell?, hp]
              have x13 : (w).cell? ⟨P, 3, none⟩ = some (.slice none 0 0) := by simp [World.cell?, hp]
              have y1 : ∀ i, (w).frozen? ⟨P, i, none⟩ = false := fun i => by simp [World.frozen?, hp]
              go_simp
              clear x10 x11 x12 x13 y1
              refine (show K1 a (st4 w P (.slice a1 a2 a3) (.slice a4 a5 a6) (.slice a7 a8 a9) (.slice a10 a11 a12)) from ?_)
              obtain ⟨v1, hv1⟩ : ∃ v, v = st4 w P (.slice a1 a2 a3) (.slice a4 a5 a6) (.slice a7 a8 a9) (.slice a10 a11 a12) := ⟨_, rfl⟩
              rw [← hv1]
              have hP1 : v1.heap[P]? = some (.cells #[.slice a1 a2 a3, .slice a4 a5 a6, .slice a7 a8 a9, .slice a10 a11 a12] 62 (0, 0)) := by rw [hv1]; exact st4_at hp
              have hQ1 : v1.heap[Q]? = some (.cells nil4 62 (0, 0)) := by rw [hv1, st4_far hpq.symm]; exact hq
              have hR1 : v1.heap[R]? = some (.cells nil4 62 (0, 0)) := by rw [hv1, st4_far hpr.symm]; exact hr
              have o1_1 := o1.st4 (x := .slice a1 a2 a3) (y := .slice a4 a5 a6) (z := .slice a7 a8 a9) (v := .slice a10 a11 a12) hp
              rw [← hv1] at o1_1
              have o2_1 := o2.st4 (x := .slice a1 a2 a3) (y := .slice a4 a5 a6) (z := .slice a7 a8 a9) (v := .slice a10 a11 a12) hp
              rw [← hv1] at o2_1
              have o3_1 := o3.st4 (x := .slice a1 a2 a3) (y := .slice a4 a5 a6) (z := .slice a7 a8 a9) (v := .slice a10 a11 a12) hp
              rw [← hv1] at o3_1
              have hbel1 : RowKit.Below w6.heap.size w6 v1 := by rw [hv1]; exact st4_below hbel hp6
              clear hv1
              refine hK1 _ _ ⟨HSW.out v1 hbel1, ?_⟩
              refine wpAnyH_all (rs := [10]) (by rw [HOO.out]; as_aux_lemma => kernel_rfl) (by simp) (fun i hi => ?_)
              rw [List.mem_singleton] at hi
              subst hi
              refine wpOp_step (by rw [HOO.out]; simp only [List.getElem?_toArray, List.getElem?_cons_zero, List.getElem?_cons_succ]; rfl) (fun K2 hK2 => ?_)
              rw [if_pos (by rfl)]
              have x20 : (v1).cell? ⟨Q, 0, none⟩ = some (.slice none 0 0) := by simp [World.cell?, hQ1]
              have x21 : (v1).cell? ⟨Q, 1, none⟩ = some (.slice none 0 0) := by simp [World.cell?, hQ1]
              have x22 : (v1).cell? ⟨Q, 2, none⟩ = some (.slice none 0 0) := by simp [World.cell?, hQ1]
              have x23 : (v1).cell? ⟨Q, 3, none⟩ = some (.slice none 0 0) := by simp [World.cell?, hQ1]
              have y2 : ∀ i, (v1).frozen? ⟨Q, i, none⟩ = false := fun i => by simp [World.frozen?, hQ1]
              go_simp
              clear x20 x21 x22 x23 y2
              refine (show K2 a (st4 v1 Q (.slice b1 b2 b3) (.slice b4 b5 b6) (.slice b7 b8 b9) (.slice b10 b11 b12)) from ?_)
              obtain ⟨v2, hv2⟩ : ∃ v, v = st4 v1 Q (.slice b1 b2 b3) (.slice b4 b5 b6) (.slice b7 b8 b9) (.slice b10 b11 b12) := ⟨_, rfl⟩
              rw [← hv2]
              have hP2 : v2.heap[P]? = some (.cells #[.slice a1 a2 a3, .slice a4 a5 a6, .slice a7 a8 a9, .slice a10 a11 a12] 62 (0, 0)) := by rw [hv2, st4_far hpq]; exact hP1
              have hQ2 : v2.heap[Q]? = some (.cells #[.slice b1 b2 b3, .slice b4 b5 b6, .slice b7 b8 b9, .slice b10 b11 b12] 62 (0, 0)) := by rw [hv2]; exact st4_at hQ1
              have hR2 : v2.heap[R]? = some (.cells nil4 62 (0, 0)) := by rw [hv2, st4_far hqr.symm]; exact hR1
              have o1_2 := o1_1.st4 (x := .slice b1 b2 b3) (y := .slice b4 b5 b6) (z := .slice b7 b8 b9) (v := .slice b10 b11 b12) hQ1
              rw [← hv2] at o1_2
              have o2_2 := o2_1.st4 (x := .slice b1 b2 b3) (y := .slice b4 b5 b6) (z := .slice b7 b8 b9) (v := .slice b10 b11 b12) hQ1
              rw [← hv2] at o2_2
              have o3_2 := o3_1.st4 (x := .slice b1 b2 b3) (y := .slice b4 b5 b6) (z := .slice b7 b8 b9) (v := .slice b10 b11 b12) hQ1
              rw [← hv2] at o3_2
              have hbel2 : RowKit.Below w6.heap.size w6 v2 := by rw [hv2]; exact st4_below hbel1 hq6
              clear hv2
              refine hK2 _ _ ⟨HSW.out v2 hbel2, ?_⟩
              refine wpAnyH_all (rs := [11]) (by rw [HOO.out]; as_aux_lemma => kernel_rfl) (by simp) (fun i hi => ?_)
              rw [List.mem_singleton] at hi
              subst hi
              refine wpOp_step (by rw [HOO.out]; simp only [List.getElem?_toArray, List.getElem?_cons_zero, List.getElem?_cons_succ]; rfl) (fun K3 hK3 => ?_)
              rw [if_pos (by rfl)]
              have x30 : (v2).cell? ⟨R, 0, none⟩ = some (.slice none 0 0) := by simp [World.cell?, hR2]
              have x31 : (v2).cell? ⟨R, 1, none⟩ = some (.slice none 0 0) := by simp [World.cell?, hR2]
              have x32 : (v2).cell? ⟨R, 2, none⟩ = some (.slice none 0 0) := by simp [World.cell?, hR2]
              have x33 : (v2).cell? ⟨R, 3, none⟩ = some (.slice none 0 0) := by simp [World.cell?, hR2]
              have y3 : ∀ i, (v2).frozen? ⟨R, i, none⟩ = false := fun i => by simp [World.frozen?, hR2]
              go_simp
              clear x30 x31 x32 x33 y3
              refine (show K3 a (st4 v2 R (.slice d1 d2 d3) (.slice d4 d5 d6) (.slice d7 d8 d9) (.slice d10 d11 d12)) from ?_)
              obtain ⟨v3, hv3⟩ : ∃ v, v = st4 v2 R (.slice d1 d2 d3) (.slice d4 d5 d6) (.slice d7 d8 d9) (.slice d10 d11 d12) := ⟨_, rfl⟩
              rw [← hv3]
              have hP3 : v3.heap[P]? = some (.cells #[.slice a1 a2 a3, .slice a4 a5 a6, .slice a7 a8 a9, .slice a10 a11 a12] 62 (0, 0)) := by rw [hv3, st4_far hpr]; exact hP2
              have hQ3 : v3.heap[Q]? = some (.cells #[.slice b1 b2 b3, .slice b4 b5 b6, .slice b7 b8 b9, .slice b10 b11 b12] 62 (0, 0)) := by rw [hv3, st4_far hqr]; exact hQ2
              have hR3 : v3.heap[R]? = some (.cells #[.slice d1 d2 d3, .slice d4 d5 d6, .slice d7 d8 d9, .slice d10 d11 d12] 62 (0, 0)) := by rw [hv3]; exact st4_at hR2
              have o1_3 := o1_2.st4 (x := .slice d1 d2 d3) (y := .slice d4 d5 d6) (z := .slice d7 d8 d9) (v := .slice d10 d11 d12) hR2
              rw [← hv3] at o1_3
              have o2_3 := o2_2.st4 (x := .slice d1 d2 d3) (y := .slice d4 d5 d6) (z := .slice d7 d8 d9) (v := .slice d10 d11 d12) hR2
              rw [← hv3] at o2_3
              have o3_3 := o3_2.st4 (x := .slice d1 d2 d3) (y := .slice d4 d5 d6) (z := .slice d7 d8 d9) (v := .slice d10 d11 d12) hR2
              rw [← hv3] at o3_3
              have hbel3 : RowKit.Below w6.heap.size w6 v3 := by rw [hv3]; exact st4_below hbel2 hr6
              clear hv3
              refine hK3 _ _ ⟨HSW.out v3 hbel3, ?_⟩
              refine ⟨by rw [HOO.out]; as_aux_lemma => kernel_rfl, ?_⟩
              clear f14 f15 f16 f70 f72 f74 hK1 hK2 hK3
              rw [HQ0.out]
              refine NoPanic.normal ?_
              have h1 := HALL.out
              have h2 := HA1.out
              clear HALL HA1
              cases a with
              | mk tm df =>
                dsimp only at h1 h2
                subst h1 h2
                rw [HT0.out]
                simp only [List.setIfInBounds_toArray, List.set_cons_zero, List.set_cons_succ]
                go_wp2_with fail
                go_meet
                exact ⟨P, Q, R, B2, B3, ⟨a1, a2, a3, a4, a5, a6, a7, a8, a9, a10, a11, a12⟩, ⟨b1, b2, b3, b4, b5, b6, b7, b8, b9, b10, b11, b12⟩, ⟨d1, d2, d3, d4, d5, d6, d7, d8, d9, d10, d11, d12⟩, rfl, rfl, rfl, ⟨hP3, hQ3, hR3, hpq, hpr, hqr, o1_3, o2_3, o3_3, o2c, ⟨o2a, o3a⟩, hp6, hq6, hr6⟩, hbel3⟩
            | succ m ih =>
              intro c x y z a w hc hm hJ
              have hno : ¬ (c = 3 ∧ x = true ∧ y = true ∧ z = true) := by
                rintro ⟨rfl, rfl, rfl, rfl⟩
                simp only [Bool.toNat_true] at hm
                omega
              have hr := HRD8.out c x y z hc hno
              refine wpAnyH_all (fuel := m + 3) hr (rdy8_ne hc hno) (fun i hi => ?_)
              obtain ⟨u1, u2, u3, P, Q, R, B2, B3, ha1, ha2, ha3, hW⟩ := hJ
              have e69 : a.tmps[69]? = some (.agg #[.slice ua n uc, .slice da n dc, .slice xa n xc, .slice ba n bc]) := by rw [ha3 69, ← h69]; rfl
              have e71 : a.tmps[71]? = some (.agg #[.slice ua n uc, .slice da n dc, .slice xa n xc, .slice ba n bc]) := by rw [ha3 71, ← h71]; rfl
              have e73 : a.tmps[73]? = some (.agg #[.slice ua n uc, .slice da n dc, .slice xa n xc, .slice ba n bc]) := by rw [ha3 73, ← h73]; rfl
              have HHO := Lib.hid (HO.out w hW.bel)
              have HA3 := Lib.hid ha3
              have HW8 := Lib.hid hW
              have hd70 : 70 < T0.size := by omega
              have hd72 : 72 < T0.size := by omega
              have hd74 : 74 < T0.size := by omega
              have hd14 : 14 < T0.size := by omega
              have hd15 : 15 < T0.size := by omega
              have hd16 : 16 < T0.size := by omega
              clear ha3 hr hno hW h69 h71 h73
              rcases rdy8_mem hi with ⟨rfl, rfl⟩ | ⟨rfl, rfl⟩ | ⟨rfl, rfl⟩ | ⟨rfl, rfl⟩ | ⟨rfl, rfl⟩ | ⟨rfl, rfl⟩
              · obtain ⟨hb, e'⟩ := Array.getElem?_eq_some_iff.1 e69
                refine wpOp_step (by rw [HOO.out]; simp only [List.getElem?_toArray, List.getElem?_cons_zero, List.getElem?_cons_succ]; rfl) (fun K hK => ?_)
                rw [if_pos (by rfl)]
                clear hi e69 e71 e73
                go_simp
                refine HHO.out.mono ?_
                rintro e w' ⟨u, rfl, hu, hbw⟩
                dsimp only
                rw [put_is ha1]
                have hW' := HW8.out.call1 hu hbw
                refine hK _ _ ⟨HSW.out w' hW'.bel, ?_⟩
                rw [lst8_1]
                exact ih 1 x y z _ w' (by omega) (by omega) (J8.put ha1 ha2 HA3.out hd70 (fun i => tv8_1) hW')
              · obtain ⟨hb, e'⟩ := Array.getElem?_eq_some_iff.1 e71
                refine wpOp_step (by rw [HOO.out]; simp only [List.getElem?_toArray, List.getElem?_cons_zero, List.getElem?_cons_succ]; rfl) (fun K hK => ?_)
                rw [if_pos (by rfl)]
                clear hi e69 e71 e73
                go_simp
                refine HHO.out.mono ?_
                rintro e w' ⟨u, rfl, hu, hbw⟩
                dsimp only
                rw [put_is ha1]
                have hW' := HW8.out.call2 hu hbw
                refine hK _ _ ⟨HSW.out w' hW'.bel, ?_⟩
                rw [lst8_3]
                exact ih 2 x y z _ w' (by omega) (by omega) (J8.put ha1 ha2 HA3.out hd72 (fun i => tv8_3) hW')
              · obtain ⟨hb, e'⟩ := Array.getElem?_eq_some_iff.1 e73
                refine wpOp_step (by rw [HOO.out]; simp only [List.getElem?_toArray, List.getElem?_cons_zero, List.getElem?_cons_succ]; rfl) (fun K hK => ?_)
                rw [if_pos (by rfl)]
                clear hi e69 e71 e73
                go_simp
                refine HHO.out.mono ?_
                rintro e w' ⟨u, rfl, hu, hbw⟩
                dsimp only
                rw [put_is ha1]
                have hW' := HW8.out.call3 hu hbw
                refine hK _ _ ⟨HSW.out w' hW'.bel, ?_⟩
                rw [lst8_5]
                exact ih 3 x y z _ w' (by omega) (by omega) (J8.put ha1 ha2 HA3.out hd74 (fun i => tv8_5) hW')
              · refine wpOp_step (by rw [HOO.out]; simp only [List.getElem?_toArray, List.getElem?_cons_zero, List.getElem?_cons_succ]; rfl) (fun K hK => ?_)
                rw [if_pos (by rfl)]
                clear hi e69 e71 e73
                go_simp
                rw [put_is ha1]
                have hW' := HW8.out.allocP
                refine hK _ _ ⟨HSW.out _ hW'.bel, ?_⟩
                rw [lst8_6]
                exact ih c true y z _ _ hc (by simp only [Bool.toNat_false, Bool.toNat_true] at hm ⊢; omega) (J8.put ha1 ha2 HA3.out hd14 (fun i => tv8_6) hW')
              · refine wpOp_step (by rw [HOO.out]; simp only [List.getElem?_toArray, List.getElem?_cons_zero, List.getElem?_cons_succ]; rfl) (fun K hK => ?_)
                rw [if_pos (by rfl)]
                clear hi e69 e71 e73
                go_simp
                rw [put_is ha1]
                have hW' := HW8.out.allocQ
                refine hK _ _ ⟨HSW.out _ hW'.bel, ?_⟩
                rw [lst8_7]
                exact ih c x true z _ _ hc (by simp only [Bool.toNat_false, Bool.toNat_true] at hm ⊢; omega) (J8.put ha1 ha2 HA3.out hd15 (fun i => tv8_7) hW')
              · refine wpOp_step (by rw [HOO.out]; simp only [List.getElem?_toArray, List.getElem?_cons_zero, List.getElem?_cons_succ]; rfl) (fun K hK => ?_)
                rw [if_pos (by rfl)]
                clear hi e69 e71 e73
                go_simp
                rw [put_is ha1]
                have hW' := HW8.out.allocR
                refine hK _ _ ⟨HSW.out _ hW'.bel, ?_⟩
                rw [lst8_8]
                exact ih c x y true _ _ hc (by simp only [Bool.toNat_false, Bool.toNat_true] at hm ⊢; omega) (J8.put ha1 ha2 HA3.out hd16 (fun i => tv8_8) hW')
          rw [hN9, hL0]
          exact main 6 0 false false false _ w6.drew (by omega) (by simp) ⟨⟨none, 0, 0, none, 0, 0, none, 0, 0, none, 0, 0⟩, ⟨none, 0, 0, none, 0, 0, none, 0, 0, none, 0, 0⟩, ⟨none, 0, 0, none, 0, 0, none, 0, 0, none, 0, 0⟩, 0, 0, 0, 0, 0, rfl, rfl, fun i => (by simp [tv8]), ⟨hBeld, fun h => (by omega), fun h => (by omega), fun h => (by omega), fun h => (by cases h), fun h => (by cases h), fun h => (by cases h), fun h => (by cases h), fun h => (by cases h), fun h => (by cases h)⟩⟩
      case rest =>
      obtain ⟨V, hV⟩ : ∃ z, z = wc := ⟨_, rfl⟩
      subst hV
      obtain ⟨P, Q, R, B2, B3, u1, u2, u3, rfl, rfl, rfl, hTh, hBV⟩ := hcut
      obtain ⟨tp, tq, tr, tpq, tpr, tqr, to1, to2, to3, tlt, tle, tpb⟩ := hTh
      have hB5V : RowKit.Below w5.heap.size w5 V := HBQ.out.trans (hBV.mono HBQ.out.size)
      have hw56 := HBQ.out.size
      obtain ⟨l1, l2, l3, l4⟩ := trie_lens (ws := wss)
      obtain ⟨a1, a2, a3, a4, a5, a6, a7, a8, a9, a10, a11, a12⟩ := u1
      obtain ⟨b1, b2, b3, b4, b5, b6, b7, b8, b9, b10, b11, b12⟩ := u2
      obtain ⟨d1, d2, d3, d4, d5, d6, d7, d8, d9, d10, d11, d12⟩ := u3
      have z1 := to1.lens
      have z2 := to2.lens
      have z3 := to3.lens
      dsimp only at z1 z2 z3 tlt
      have q0 := HN.out
      obtain rfl : n = a2 := by omega
      obtain rfl : n = a5 := by omega
      obtain rfl : n = a8 := by omega
      obtain rfl : n = a11 := by omega
      obtain rfl : n = b2 := by omega
      obtain rfl : n = b5 := by omega
      obtain rfl : n = b8 := by omega
      obtain rfl : n = b11 := by omega
      obtain rfl : n = d2 := by omega
      obtain rfl : n = d5 := by omega
      obtain rfl : n = d8 := by omega
      obtain rfl : n = d11 := by omega
      clear l1 l2 l3 l4 z1 z2 z3
      obtain ⟨g1, hg1, _⟩ := row_pos (n := n) to1.dep (by omega)
      obtain ⟨g2, hg2, _⟩ := row_pos (n := n) to2.wrd (by omega)
      obtain ⟨g3, hg3, _⟩ := row_pos (n := n) to3.wrd (by omega)
      dsimp only at hg1 hg2 hg3
      subst hg1 hg2 hg3
      have hg1b : w6.heap.size ≤ g1 ∧ g1 < B2 := ⟨(row_lt to1.dep g1 rfl).1, tlt g1 rfl⟩
      have hg3b : B3 ≤ g3 := (row_lt to3.wrd g3 rfl).1
      obtain ⟨t1, hd1⟩ := to1.setDep (nu := nu) rfl depth
      have tcap2 := row_cap to2.wrd
      -- the box of the first
      have P1 : V.cell? ⟨P, 1, none⟩ = some (.slice (some ⟨g1, 0, none⟩) n a6) := by simp [World.cell?, tp]
      have hdep1 := to1.dep
      dsimp only at hdep1 t1 tcap2
      have hcd := World.ownsRow.cellAt hdep1 nu (by omega)
      have hfd := World.ownsRow.frozenAt hdep1 nu
      obtain ⟨d0, hd0⟩ : ∃ d0, (trieP wss).dep[nu]? = some d0 := ⟨(trieP wss).dep[nu]'(by rw [trie_lens.2.1, ← HN.out]; exact hnn), by simp⟩
      rw [List.getElem?_map, hd0, Option.map_some] at hcd
      have i1 : (0 : Int) ≤ (nu : Int) := by omega
      have i2 : (nu : Int) < (n : Int) := by omega
      have HD0 := Lib.hid hd0
      have Q0 := Lib.hid q0
      have HTP := Lib.hid tp
      have HTQ := Lib.hid tq
      have HTR := Lib.hid tr
      have HTLT := Lib.hid tlt
      clear q0 hd0 tp tq tr tlt hdep1
      have hPg : P ≠ g1 := fun e => own_far to1.dep HTP.out tne_int (by rw [e]; rfl)
      have hQg : Q ≠ g1 := fun e => own_far to1.dep HTQ.out tne_int (by rw [e]; rfl)
      have hRg : R ≠ g1 := fun e => own_far to1.dep HTR.out tne_int (by rw [e]; rfl)
      have hRg3 : R ≠ g3 := fun e => own_far to3.wrd HTR.out tne_int (by rw [e]; rfl)
      have HPG := Lib.hid hPg
      have HQG := Lib.hid hQg
      have HRG := Lib.hid hRg
      have HRG3 := Lib.hid hRg3
      clear hPg hQg hRg hRg3
      go_upto_region 10 with fail
      clear P1 hcd hfd i1 i2
      obtain ⟨V1, hV1⟩ : ∃ z, z = V.setCell ⟨g1, nu, none⟩ (.int .i64 depth) := ⟨_, rfl⟩
      rw [← hV1] at t1 hd1 ⊢
      have hsz1 : V1.heap.size = V.heap.size := by rw [hV1]; simp
      clear hV1
      have up1 : V1.heap[P]? = _ := (hd1.block P (Array.getElem?_eq_some_iff.1 HTP.out).1 (fun e => HPG.out (by injection e))).trans HTP.out
      have uq1 : V1.heap[Q]? = _ := (hd1.block Q (Array.getElem?_eq_some_iff.1 HTQ.out).1 (fun e => HQG.out (by injection e))).trans HTQ.out
      have ur1 : V1.heap[R]? = _ := (hd1.block R (Array.getElem?_eq_some_iff.1 HTR.out).1 (fun e => HRG.out (by injection e))).trans HTR.out
      have o2 := to2.other hd1 hg1b.2
      have o3 := to3.other hd1 (by omega)
      have hB51 : RowKit.Below w5.heap.size w5 V1 := hB5V.grown hd1 hB5V.size (fun k e => by injection e with e; omega)
      clear to1 to2 to3 hd1 hB5V hBV
      have Q2 : V1.cell? ⟨Q, 2, none⟩ = some (.slice (some ⟨g2, 0, none⟩) n b9) := by simp [World.cell?, uq1]
      have Q3 : V1.frozen? ⟨Q, 2, none⟩ = false := by simp [World.frozen?, uq1]
      have i3 : (n : Int) ≤ (b9 : Int) := by omega
      have i4 : (0 : Int) ≤ (n : Int) - 1 := by omega
      have HUP1 := Lib.hid up1
      have HUQ1 := Lib.hid uq1
      have HUR1 := Lib.hid ur1
      clear up1 uq1 ur1
      go_upto_region 11 with fail
      clear Q2 Q3 i3 i4
      obtain ⟨V2, hV2⟩ : ∃ z, z = V1.setCell ⟨Q, 2, none⟩ (.slice (some ⟨g2, 0, none⟩) (n - 1) b9) := ⟨_, rfl⟩
      rw [← hV2]
      have hp21 : V2.heap[P]? = V1.heap[P]? := by rw [hV2]; exact Below.heap_setCell _ _ _ _ tpq
      have up2 : V2.heap[P]? = _ := hp21.trans HUP1.out
      have hr21 : V2.heap[R]? = V1.heap[R]? := by rw [hV2]; exact Below.heap_setCell _ _ _ _ tqr.symm
      have ur2 : V2.heap[R]? = _ := hr21.trans HUR1.out
      have uq2 : V2.heap[Q]? = some (.cells #[.slice b1 n b3, .slice b4 n b6, .slice (some ⟨g2, 0, none⟩) (n - 1) b9, .slice b10 n b12] 62 (0, 0)) := by rw [hV2]; simpa using set_at (i := 2) HUQ1.out (.slice (some ⟨g2, 0, none⟩) (n - 1) b9)
      have t1' := t1.box (i := 2) (v := .slice (some ⟨g2, 0, none⟩) (n - 1) b9) HUQ1.out
      have o2' := o2.box (i := 2) (v := .slice (some ⟨g2, 0, none⟩) (n - 1) b9) HUQ1.out
      have o3' := o3.box (i := 2) (v := .slice (some ⟨g2, 0, none⟩) (n - 1) b9) HUQ1.out
      rw [← hV2] at t1' o2' o3'
      have hB52 : RowKit.Below w5.heap.size w5 V2 := by rw [hV2]; exact hB51.setCell (by show w5.heap.size ≤ Q; omega) _
      clear t1 o2 o3 hB51 hV2 hp21 hr21
      have hshort : Tri V2 ⟨b1, n, b3, b4, n, b6, some ⟨g2, 0, none⟩, n - 1, b9, b10, n, b12⟩ { trieP wss with wrd := (trieP wss).wrd.take (n - 1) } := by
        have h := o2'.tri
        have hc := h.wrd.cut (lo := 0) (m := n - 1) (by dsimp only; omega)
        simp only [List.drop_zero] at hc
        refine ⟨h.up, h.dep, ?_, h.byt, h.cap.1, h.cap.2.1, by dsimp only; omega, h.cap.2.2.2⟩
        simpa [Addr.add] using hc
      have hdeep := t1'.tri
      have er2 : rightT { trieP wss with wrd := (trieP wss).wrd.take (n - 1) } = false := by
        unfold rightT
        rw [short_no (by dsimp only; rw [List.length_take, trie_lens.2.2.1, trie_lens.1, ← Q0.out]; omega)]
        rfl
      have K2 : Hid (∀ W, RowKit.Below V2.heap.size V2 W → Calls Try.prog 46 #[.agg #[.slice b1 n b3, .slice b4 n b6, .slice (some ⟨g2, 0, none⟩) (n - 1) b9, .slice b10 n b12]] W fun e w' => e = .returned (.bool false) ∧ RowKit.Below V2.heap.size V2 w') := fun W hW =>
        (tright_any ⟨b1, n, b3, b4, n, b6, some ⟨g2, 0, none⟩, n - 1, b9, b10, n, b12⟩ _ W (hshort.below hW) (by dsimp only; omega)).mono fun e w' ⟨e1, e2⟩ => ⟨by rw [e1, er2], hW.trans (e2.mono hW.size)⟩
      have K1 : Hid (depth ≠ d0 → ∀ W, RowKit.Below V2.heap.size V2 W → Calls Try.prog 46 #[.agg #[.slice a1 n a3, .slice (some ⟨g1, 0, none⟩) n a6, .slice a7 n a9, .slice a10 n a12]] W fun e w' => e = .returned (.bool false) ∧ RowKit.Below V2.heap.size V2 w') := fun hne W hW => by
        have er1 : rightT { trieP wss with dep := (trieP wss).dep.set nu depth } = false := by
          have hno : readP { trieP wss with dep := (trieP wss).dep.set nu depth } = none := by
            refine deep_no HR0.out rfl rfl rfl (by simp) (fun e => ?_)
            have h1 : ((trieP wss).dep.set nu depth)[nu]? = some depth := by rw [List.getElem?_set_self (by rw [trie_lens.2.1, ← Q0.out]; exact hnn)]
            rw [show (trieP wss).dep.set nu depth = (trieP wss).dep from e, HD0.out] at h1
            exact hne (Option.some.inj h1).symm
          unfold rightT
          rw [hno]
          rfl
        exact (tright_any ⟨a1, n, a3, some ⟨g1, 0, none⟩, n, a6, a7, n, a9, a10, n, a12⟩ _ W (hdeep.below hW) (by dsimp only; omega)).mono fun e w' ⟨e1, e2⟩ => ⟨by rw [e1, er1], hW.trans (e2.mono hW.size)⟩
      have HUP2 := Lib.hid up2
      have HUQ2 := Lib.hid uq2
      have HUR2 := Lib.hid ur2
      have HO3 := Lib.hid o3'
      have HB52 := Lib.hid hB52
      clear up2 uq2 ur2 o3' hB52 hshort hdeep t1' o2' er2
      go_cut [100] from 22 (fun s wx => s = .bool false ∧ RowKit.Below V2.heap.size V2 wx)
      case first =>
        as_aux_lemma =>
          have hbel := RowKit.Below.refl V2.heap.size V2
          obtain ⟨⟨c0, c1⟩, c2, c3, c4, c5⟩ := HC.out V2 HB52.out
          obtain ⟨bb, off, y, hbb, hbl, hcy, hy⟩ := sl1_at (HT5.out.dep.below HB52.out) (k := nu) hnn
          subst hbb
          obtain rfl : y = d0 := by rw [HD0.out] at hy; exact (Option.some.inj hy).symm
          have i1 : (0 : Int) ≤ (nu : Int) := by omega
          have i2 : (nu : Int) < (n : Int) := by omega
          have x0 : V2.cell? ⟨Q, 0, none⟩ = some (.slice b1 n b3) := by simp [World.cell?, HUQ2.out]
          have x1 : V2.cell? ⟨Q, 1, none⟩ = some (.slice b4 n b6) := by simp [World.cell?, HUQ2.out]
          have x2 : V2.cell? ⟨Q, 2, none⟩ = some (.slice (some ⟨g2, 0, none⟩) (n - 1) b9) := by simp [World.cell?, HUQ2.out]
          have x3 : V2.cell? ⟨Q, 3, none⟩ = some (.slice b10 n b12) := by simp [World.cell?, HUQ2.out]
          clear hy
          by_cases hdd : depth = y
          · have dd : (depth != y) = false := by simpa using hdd
            clear hdd
            go_wp2_with fail
            refine (K2.out V2 hbel).mono ?_
            rintro e w9 ⟨rfl, hb9⟩
            go_wp2_with fail
            go_meet
            exact ⟨rfl, hb9⟩
          · have dd : (depth != y) = true := by simpa using hdd
            have y0 : V2.cell? ⟨P, 0, none⟩ = some (.slice a1 n a3) := by simp [World.cell?, HUP2.out]
            have y1 : V2.cell? ⟨P, 1, none⟩ = some (.slice (some ⟨g1, 0, none⟩) n a6) := by simp [World.cell?, HUP2.out]
            have y2 : V2.cell? ⟨P, 2, none⟩ = some (.slice a7 n a9) := by simp [World.cell?, HUP2.out]
            have y3 : V2.cell? ⟨P, 3, none⟩ = some (.slice a10 n a12) := by simp [World.cell?, HUP2.out]
            have KK := Lib.hid (K1.out hdd V2 hbel)
            clear hdd
            go_wp2_with fail
            refine KK.out.mono ?_
            rintro e w8 ⟨rfl, hb8⟩
            have hq8 : w8.heap[Q]? = _ := (hb8.block Q (Array.getElem?_eq_some_iff.1 HUQ2.out).1).trans HUQ2.out
            clear x0 x1 x2 x3 y0 y1 y2 y3
            have x0 : w8.cell? ⟨Q, 0, none⟩ = some (.slice b1 n b3) := by simp [World.cell?, hq8]
            have x1 : w8.cell? ⟨Q, 1, none⟩ = some (.slice b4 n b6) := by simp [World.cell?, hq8]
            have x2 : w8.cell? ⟨Q, 2, none⟩ = some (.slice (some ⟨g2, 0, none⟩) (n - 1) b9) := by simp [World.cell?, hq8]
            have x3 : w8.cell? ⟨Q, 3, none⟩ = some (.slice b10 n b12) := by simp [World.cell?, hq8]
            clear hq8
            go_wp2_with fail
            refine (K2.out w8 hb8).mono ?_
            rintro e w9 ⟨rfl, hb9⟩
            go_wp2_with fail
            go_meet
            exact ⟨rfl, hb9⟩
      case rest =>
      obtain ⟨V3, hV3⟩ : ∃ z, z = wc := ⟨_, rfl⟩
      subst hV3
      obtain ⟨rfl, hB23⟩ := hcut
      have ur3 : V3.heap[R]? = _ := (hB23.block R (Array.getElem?_eq_some_iff.1 HUR2.out).1).trans HUR2.out
      have o3 := HO3.out.below hB23
      have hB53 : RowKit.Below w5.heap.size w5 V3 := HB52.out.trans (hB23.mono HB52.out.size)
      clear K1 K2 HUP1 HUQ1 HUR1 HUP2 HUQ2 HUR2 HO3 HB52 HTP HTQ HTR HTLT hB23
      obtain ⟨⟨c0, c1⟩, c2, c3, c4, c5⟩ := HC.out V3 hB53
      have hwl : wss.length = la := HWL.out
      have hwne := (right_spec HR0.out).2.1
      have hla1 : 1 ≤ la := by
        have : wss.length ≠ 0 := fun e => hwne (List.eq_nil_of_length_eq_zero e)
        omega
      obtain ⟨io, hio, hiol⟩ : ∃ io : Nat, min (max ii 0) ((la : Int) - 1) = io ∧ io < la := ⟨(min (max ii 0) ((la : Int) - 1)).toNat, by omega, by omega⟩
      obtain ⟨ka, hka, hkal⟩ : ∃ ka : Nat, min (max kk 0) ((la : Int) - 1) = ka ∧ ka < la := ⟨(min (max kk 0) ((la : Int) - 1)).toNat, by omega, by omega⟩
      clear hwl hwne
      have HUR3 := Lib.hid ur3
      clear ur3
      go_wp2
      clear c0 c1 c2 c3 c4 c5 hio hka
      have hrow0 := o3.wrd
      have HO3 := Lib.hid o3
      have HB53 := Lib.hid hB53
      have hg3V : g3 < V3.heap.size := (row_lt hrow0 g3 rfl).2
      have hwln : (trieP wss).wrd.length = n := by rw [trie_lens.2.2.1, ← Q0.out]
      have HWLN := Lib.hid hwln
      dsimp only at hrow0
      clear o3 hB53 hwln
      have HG : Hid (∀ W, V3.grownBy W (some g3) → RowKit.Below w5.heap.size w5 W ∧ W.heap[R]? = V3.heap[R]?) := fun W hW =>
        ⟨HB53.out.grown hW HB53.out.size (fun k e => by injection e with e; omega), hW.block R (Array.getElem?_eq_some_iff.1 HUR3.out).1 (fun e => HRG3.out (by injection e))⟩
      go_loopw [18] (fun s18 wr => ∃ (j : Nat) (X : List Int), j ≤ n ∧ s18 = .int .i64 j ∧ Hid (SwSt (trieP wss).wrd io ka j X) ∧ wr.ownsRow B3 3 1 (.slice (some ⟨g3, 0, none⟩) n d9) n (X.map (Value.int .i64)) ∧ V3.grownBy wr (some g3)) (fun s18 _ => n - (intOf s18).toNat)
      case atStart => exact ⟨0, (trieP wss).wrd, Nat.zero_le _, rfl, SwSt.start _ _ _, hrow0, ⟨rfl, rfl, rfl, Nat.le_refl _, fun _ _ _ => rfl⟩⟩
      case round =>
        clear hrow0
        obtain ⟨j, X, hj, rfl, HSW, hrow, hgr⟩ := hrel
        obtain ⟨hB5r, hRr⟩ := HG.out wr hgr
        obtain ⟨⟨c0, c1⟩, c2, c3, c4, c5⟩ := HC.out wr hB5r
        by_cases hjn : j < n
        · have hdj : decide ((j : Int) < n) = true := by simp; omega
          obtain ⟨bb, off, v, hbb, hbl, cv0, hv⟩ := sl1_at HT5.out.wrd (k := j) hjn
          subst hbb
          have cv := (hB5r.cell (p := ⟨bb, off + j, none⟩) hbl).trans cv0
          have hv : (trieP wss).wrd[j]? = some v := hv
          have hR3 : wr.heap[R]? = _ := hRr.trans HUR3.out
          have r2 : wr.cell? ⟨R, 2, none⟩ = some (.slice (some ⟨g3, 0, none⟩) n d9) := by simp [World.cell?, hR3]
          have hXl : X.length = n := HSW.out.1.trans HWLN.out
          obtain ⟨xv, hxv⟩ : ∃ xv, X[j]? = some xv := ⟨X[j]'(by omega), by simp⟩
          have cx := World.ownsRow.cellAt hrow j (by omega)
          rw [List.getElem?_map, hxv, Option.map_some] at cx
          have fx := World.ownsRow.frozenAt hrow j
          have hst1 := fun (W : World) (Y : List Int) (u : Int) (hr : W.ownsRow B3 3 1 (.slice (some ⟨g3, 0, none⟩) n d9) n (Y.map (Value.int .i64))) => World.ownsRow.stored hr j (.int .i64 u)
          have HST := Lib.hid hst1
          have HSTEP := Lib.hid (HSW.out.step hv)
          have HSAME := Lib.hid (HSW.out.same hv)
          have HGR := Lib.hid hgr
          have HROW := Lib.hid hrow
          have i1 : (0 : Int) ≤ (j : Int) := by omega
          have i2 : (j : Int) < (n : Int) := by omega
          have HCV0 := Lib.hid cv0
          have HBL := Lib.hid hbl
          clear cv0
          clear hst1 hR3 hRr hxv hv hgr hrow hXl c0 c1 c2 c3 c5
          by_cases e1 : v = (io : Int)
          · by_cases e2 : v = (ka : Int)
            · as_aux_lemma =>
                have hsw : swI io ka v = (io : Int) := by unfold swI; rw [if_pos e2]
                obtain ⟨hr1, hg1⟩ := HST.out wr X ka HROW.out
                have hgw := grown_trans HGR.out hg1
                obtain ⟨hB5w, hRw⟩ := HG.out (wr.setCell ⟨g3, j, none⟩ (.int .i64 (ka : Int))) hgw
                have cc4 := (HC.out (wr.setCell ⟨g3, j, none⟩ (.int .i64 (ka : Int))) hB5w).2.2.2.1
                have ccv := (hB5w.cell (p := ⟨bb, off + j, none⟩) HBL.out).trans HCV0.out
                have hRw3 := hRw.trans HUR3.out
                have rr2 : ((wr.setCell ⟨g3, j, none⟩ (.int .i64 (ka : Int)))).cell? ⟨R, 2, none⟩ = some (.slice (some ⟨g3, 0, none⟩) n d9) := by simp [World.cell?, hRw3]
                clear hRw hRw3 hB5w
                have hr1' : (wr.setCell ⟨g3, j, none⟩ (.int .i64 (ka : Int))).ownsRow B3 3 1 (.slice (some ⟨g3, 0, none⟩) n d9) n ((X.set j (ka : Int)).map (Value.int .i64)) := by rw [List.map_set]; exact hr1
                obtain ⟨hr2, hg2⟩ := HST.out _ (X.set j (ka : Int)) io hr1'
                have hgw2 := grown_trans hgw hg2
                have HGW := Lib.hid hgw2
                have fx2 := World.ownsRow.frozenAt hr1' j
                have cx2 := World.ownsRow.cellAt hr1' j (by omega)
                rw [List.getElem?_map, List.getElem?_set_self (by rw [HSW.out.1, HWLN.out]; exact hjn), Option.map_some] at cx2
                have HR2 : Hid (((wr.setCell ⟨g3, j, none⟩ (.int .i64 (ka : Int))).setCell ⟨g3, j, none⟩ (.int .i64 (io : Int))).ownsRow B3 3 1 (.slice (some ⟨g3, 0, none⟩) n d9) n ((X.set j (swI io ka v)).map (Value.int .i64))) := by
                  rw [Hid, hsw]
                  rw [← List.map_set, List.set_set] at hr2
                  exact hr2
                have dA : (v == (io : Int)) = true := by simpa using e1
                have dB : (v == (ka : Int)) = true := by simpa using e2
                clear e1 e2 hsw hr1 hg1 hgw hr1' hr2 hg2 hgw2
                go_wp2
                go_roundw
                case rel => exact ⟨j + 1, _, by omega, by go_num, HSTEP.out, HR2.out, HGW.out⟩
                case measure => simp [intOf]; omega
            · as_aux_lemma =>
                have hsw : swI io ka v = (ka : Int) := by unfold swI; rw [if_neg e2, if_pos e1]
                obtain ⟨hr1, hg1⟩ := HST.out wr X ka HROW.out
                have hgw := grown_trans HGR.out hg1
                have HGW := Lib.hid hgw
                obtain ⟨hB5w, hRw⟩ := HG.out (wr.setCell ⟨g3, j, none⟩ (.int .i64 (ka : Int))) hgw
                have cc4 := (HC.out (wr.setCell ⟨g3, j, none⟩ (.int .i64 (ka : Int))) hB5w).2.2.2.1
                have ccv := (hB5w.cell (p := ⟨bb, off + j, none⟩) HBL.out).trans HCV0.out
                have hRw3 := hRw.trans HUR3.out
                have rr2 : ((wr.setCell ⟨g3, j, none⟩ (.int .i64 (ka : Int)))).cell? ⟨R, 2, none⟩ = some (.slice (some ⟨g3, 0, none⟩) n d9) := by simp [World.cell?, hRw3]
                clear hRw hRw3 hB5w
                have HR2 : Hid ((wr.setCell ⟨g3, j, none⟩ (.int .i64 (ka : Int))).ownsRow B3 3 1 (.slice (some ⟨g3, 0, none⟩) n d9) n ((X.set j (swI io ka v)).map (Value.int .i64))) := by rw [Hid, hsw, List.map_set]; exact hr1
                have dA : (v == (io : Int)) = true := by simpa using e1
                have dB : (v == (ka : Int)) = false := by simpa using e2
                clear e1 e2 hsw hr1 hg1 hgw
                go_wp2
                go_roundw
                case rel => exact ⟨j + 1, _, by omega, by go_num, HSTEP.out, HR2.out, HGW.out⟩
                case measure => simp [intOf]; omega
          · by_cases e2 : v = (ka : Int)
            · as_aux_lemma =>
                have hsw : swI io ka v = (io : Int) := by unfold swI; rw [if_pos e2]
                obtain ⟨hr1, hg1⟩ := HST.out wr X io HROW.out
                have hgw := grown_trans HGR.out hg1
                have HGW := Lib.hid hgw
                have HR2 : Hid ((wr.setCell ⟨g3, j, none⟩ (.int .i64 (io : Int))).ownsRow B3 3 1 (.slice (some ⟨g3, 0, none⟩) n d9) n ((X.set j (swI io ka v)).map (Value.int .i64))) := by rw [Hid, hsw, List.map_set]; exact hr1
                have dA : (v == (io : Int)) = false := by simpa using e1
                have dB : (v == (ka : Int)) = true := by simpa using e2
                clear e1 e2 hsw hr1 hg1 hgw
                go_wp2
                go_roundw
                case rel => exact ⟨j + 1, _, by omega, by go_num, HSTEP.out, HR2.out, HGW.out⟩
                case measure => simp [intOf]; omega
            · as_aux_lemma =>
                have hsw : swI io ka v = v := by unfold swI; rw [if_neg e2, if_neg e1]
                have HR2 : Hid (wr.ownsRow B3 3 1 (.slice (some ⟨g3, 0, none⟩) n d9) n ((X.set j (swI io ka v)).map (Value.int .i64))) := by rw [Hid, hsw, HSAME.out]; exact HROW.out
                have dA : (v == (io : Int)) = false := by simpa using e1
                have dB : (v == (ka : Int)) = false := by simpa using e2
                clear e1 e2 hsw cx fx
                go_wp2
                go_roundw
                case rel => exact ⟨j + 1, _, by omega, by go_num, HSTEP.out, HR2.out, HGR.out⟩
                case measure => simp [intOf]; omega
        · obtain rfl : j = n := by omega
          have hdj : decide ((j : Int) < j) = false := by simp
          have hX : X = (trieP wss).wrd.map (swI io ka) := by
            have h := HSW.out
            rw [← HWLN.out] at h
            exact h.all
          have o3' := HO3.out.setWrd (X := X) rfl hgr hrow
          have HRD3 : Hid (readP { trieP wss with wrd := X } = some (nodesL wss, swW wss io ka)) :=
            turned_yes (by rw [HWL.out]; exact hiol) (by rw [HWL.out]; exact hkal) HR0.out rfl rfl rfl hX
          have ht3 := o3'.tri
          have hR3 : wr.heap[R]? = _ := hRr.trans HUR3.out
          have r0 : wr.cell? ⟨R, 0, none⟩ = some (.slice d1 j d3) := by simp [World.cell?, hR3]
          have r1 : wr.cell? ⟨R, 1, none⟩ = some (.slice d4 j d6) := by simp [World.cell?, hR3]
          have r2 : wr.cell? ⟨R, 2, none⟩ = some (.slice (some ⟨g3, 0, none⟩) j d9) := by simp [World.cell?, hR3]
          have r3 : wr.cell? ⟨R, 3, none⟩ = some (.slice d10 j d12) := by simp [World.cell?, hR3]
          have ew : wordsT { trieP wss with wrd := X } = swW wss io ka := by unfold wordsT; rw [HRD3.out]
          have er : rightT { trieP wss with wrd := X } = true := by unfold rightT; rw [HRD3.out]; rfl
          have kw := twords_any ⟨d1, j, d3, d4, j, d6, some ⟨g3, 0, none⟩, j, d9, d10, j, d12⟩ _ wr ht3 (by dsimp only; omega)
          rw [ew, swW_length, HWL.out] at kw
          have KW := Lib.hid kw
          have HT3 := Lib.hid ht3
          have HER := Lib.hid er
          have HR3 := Lib.hid hR3
          have HB5w := Lib.hid hB5r
          clear hX o3' ht3 hR3 hRr ew er kw hgr hrow hB5r
          go_wp2_with fail
          refine KW.out.mono ?_
          rintro e V7 ⟨wa, wcp, rfl, hWt, hwc, hb7⟩
          have hR7 : V7.heap[R]? = _ := (hb7.block R (Array.getElem?_eq_some_iff.1 HR3.out).1).trans HR3.out
          clear r0 r1 r2 r3 c0 c1 c2 c3 c4 c5
          have r0 : V7.cell? ⟨R, 0, none⟩ = some (.slice d1 j d3) := by simp [World.cell?, hR7]
          have r1 : V7.cell? ⟨R, 1, none⟩ = some (.slice d4 j d6) := by simp [World.cell?, hR7]
          have r2 : V7.cell? ⟨R, 2, none⟩ = some (.slice (some ⟨g3, 0, none⟩) j d9) := by simp [World.cell?, hR7]
          have r3 : V7.cell? ⟨R, 3, none⟩ = some (.slice d10 j d12) := by simp [World.cell?, hR7]
          have kr := tright_any ⟨d1, j, d3, d4, j, d6, some ⟨g3, 0, none⟩, j, d9, d10, j, d12⟩ _ V7 (HT3.out.below hb7) (by dsimp only; omega)
          rw [HER.out] at kr
          have KR := Lib.hid kr
          clear kr hR7
          go_wp2_with fail
          refine KR.out.mono ?_
          rintro e V4 ⟨rfl, hb4⟩
          have HWT := Lib.hid (hWt.below hb4)
          have HB5r : Hid (RowKit.Below w5.heap.size w5 V4) := HB5w.out.trans ((hb7.trans (hb4.mono hb7.size)).mono HB5w.out.size)
          clear r0 r1 r2 r3 hWt hb7 hb4
          obtain ⟨⟨c0, c1⟩, c2, c3, c4, c5⟩ := HC.out V4 HB5r.out
          go_wp2
          clear c0 c1 c2 c3 c4 c5
          go_loopw [20, 21] (fun s20 _ wr => ∃ j2 : Nat, j2 ≤ la ∧ s20 = .int .i64 j2 ∧ RowKit.Below V4.heap.size V4 wr) (fun s20 _ _ => la - (intOf s20).toNat)
          case atStart => exact ⟨0, Nat.zero_le _, rfl, RowKit.Below.refl _ _⟩
          case round =>
            obtain ⟨j2, hj2, rfl, hBk⟩ := hrel
            by_cases hjl : j2 < la
            · have hdl : decide ((j2 : Int) < la) = true := by simp; omega
              obtain ⟨⟨c0, c1⟩, c2, c3, c4, c5⟩ := HC.out wr (HB5r.out.trans (hBk.mono HB5r.out.size))
              by_cases e1 : j2 = io
              · by_cases e2 : j2 = ka
                · have dA : ((j2 : Int) == (io : Int)) = true := by rw [beq_iff_eq]; omega
                  have dB : ((j2 : Int) == (ka : Int)) = true := by rw [beq_iff_eq]; omega
                  as_aux_lemma =>
                    have hmN : Hid (swN io ka j2 = io) := by unfold Hid swN; rw [if_pos e2]
                    obtain ⟨bb, off, aw, lw, cw, x, hbb, hbl, hcell, hx, hX, hlc⟩ := (HWT.out.below hBk).at_ hjl
                    subst hbb
                    have hml : io < la := by omega
                    obtain ⟨bc, offc, ac, lc, cc, y, hbc, hblc, hcellc, hy, hY, hlcc⟩ := (HA5.out.below (HB5r.out.trans (hBk.mono HB5r.out.size))).at_ hml
                    subst hbc
                    obtain rfl : x = y := by
                      have h := swW_at (ws := wss) (by rw [HWL.out]; exact hiol) (by rw [HWL.out]; exact hkal) (show j2 < wss.length by rw [HWL.out]; exact hjl)
                      rw [hx, hmN.out, hy] at h
                      exact Option.some.inj h
                    have hB5k := HB5r.out.trans (hBk.mono HB5r.out.size)
                    have f1 : ∀ d os, (grow (redrawn wr d) os).cell? ⟨w.heap.size, 1, none⟩ = some (.slice (some ⟨bc, offc, none⟩) la ca) := fun d os => (HC.out _ (hB5k.trans ((below_regrown wr d os).mono hB5k.size))).1.2
                    have f2 : ∀ d os, (grow (redrawn wr d) os).cell? ⟨bb, off + j2, none⟩ = some (.slice aw lw cw) := fun d os => ((below_regrown wr d os).cell (p := ⟨bb, off + j2, none⟩) hbl).trans hcell
                    have f3 : ∀ d os, (grow (redrawn wr d) os).cell? ⟨bc, offc + io, none⟩ = some (.slice ac lc cc) := fun d os => ((below_regrown wr d os).cell (p := ⟨bc, offc + io, none⟩) hblc).trans hcellc
                    have f4 := fun d os => conv_bys (hX.below (below_regrown wr d os)) cw
                    have f5 := fun d os => conv_bys (hY.below (below_regrown wr d os)) cc
                    have i1 : (0 : Int) ≤ (j2 : Int) := by omega
                    have i2 : (j2 : Int) < (la : Int) := by omega
                    have i3 : (0 : Int) ≤ (io : Int) := by omega
                    have i4 : (io : Int) < (la : Int) := by omega
                    have HBK := Lib.hid hBk
                    clear e1 e2 hx hX hcell hlc hy hY hcellc hlcc hBk hB5k hml
                    go_wp2
                    clear c0 c1 c2 c3 c4 c5
                    refine wp_region_quiet_below mixed (by as_aux_lemma => kernel_rfl) ?_
                    repeat (go_big_quiet_step (fail))
                    refine wpQuiet_nil ?_
                    rintro _ ⟨⟨dq, osq⟩, rfl⟩
                    have hBq : RowKit.Below V4.heap.size V4 (grow (redrawn wr dq) osq) := HBK.out.trans ((below_regrown wr dq osq).mono HBK.out.size)
                    clear f1 f2 f3 f4 f5
                    go_wp2
                    go_roundw
                    case rel => exact ⟨j2 + 1, by omega, by go_num, hBq⟩
                    case measure => simp [intOf]; omega
                · have dA : ((j2 : Int) == (io : Int)) = true := by rw [beq_iff_eq]; omega
                  have dB : ((j2 : Int) == (ka : Int)) = false := by rw [beq_eq_false_iff_ne]; omega
                  as_aux_lemma =>
                    have hmN : Hid (swN io ka j2 = ka) := by unfold Hid swN; rw [if_neg e2, if_pos e1]
                    obtain ⟨bb, off, aw, lw, cw, x, hbb, hbl, hcell, hx, hX, hlc⟩ := (HWT.out.below hBk).at_ hjl
                    subst hbb
                    have hml : ka < la := by omega
                    obtain ⟨bc, offc, ac, lc, cc, y, hbc, hblc, hcellc, hy, hY, hlcc⟩ := (HA5.out.below (HB5r.out.trans (hBk.mono HB5r.out.size))).at_ hml
                    subst hbc
                    obtain rfl : x = y := by
                      have h := swW_at (ws := wss) (by rw [HWL.out]; exact hiol) (by rw [HWL.out]; exact hkal) (show j2 < wss.length by rw [HWL.out]; exact hjl)
                      rw [hx, hmN.out, hy] at h
                      exact Option.some.inj h
                    have hB5k := HB5r.out.trans (hBk.mono HB5r.out.size)
                    have f1 : ∀ d os, (grow (redrawn wr d) os).cell? ⟨w.heap.size, 1, none⟩ = some (.slice (some ⟨bc, offc, none⟩) la ca) := fun d os => (HC.out _ (hB5k.trans ((below_regrown wr d os).mono hB5k.size))).1.2
                    have f2 : ∀ d os, (grow (redrawn wr d) os).cell? ⟨bb, off + j2, none⟩ = some (.slice aw lw cw) := fun d os => ((below_regrown wr d os).cell (p := ⟨bb, off + j2, none⟩) hbl).trans hcell
                    have f3 : ∀ d os, (grow (redrawn wr d) os).cell? ⟨bc, offc + ka, none⟩ = some (.slice ac lc cc) := fun d os => ((below_regrown wr d os).cell (p := ⟨bc, offc + ka, none⟩) hblc).trans hcellc
                    have f4 := fun d os => conv_bys (hX.below (below_regrown wr d os)) cw
                    have f5 := fun d os => conv_bys (hY.below (below_regrown wr d os)) cc
                    have i1 : (0 : Int) ≤ (j2 : Int) := by omega
                    have i2 : (j2 : Int) < (la : Int) := by omega
                    have i3 : (0 : Int) ≤ (ka : Int) := by omega
                    have i4 : (ka : Int) < (la : Int) := by omega
                    have HBK := Lib.hid hBk
                    clear e1 e2 hx hX hcell hlc hy hY hcellc hlcc hBk hB5k hml
                    go_wp2
                    clear c0 c1 c2 c3 c4 c5
                    refine wp_region_quiet_below mixed (by as_aux_lemma => kernel_rfl) ?_
                    repeat (go_big_quiet_step (fail))
                    refine wpQuiet_nil ?_
                    rintro _ ⟨⟨dq, osq⟩, rfl⟩
                    have hBq : RowKit.Below V4.heap.size V4 (grow (redrawn wr dq) osq) := HBK.out.trans ((below_regrown wr dq osq).mono HBK.out.size)
                    clear f1 f2 f3 f4 f5
                    go_wp2
                    go_roundw
                    case rel => exact ⟨j2 + 1, by omega, by go_num, hBq⟩
                    case measure => simp [intOf]; omega
              · by_cases e2 : j2 = ka
                · have dA : ((j2 : Int) == (io : Int)) = false := by rw [beq_eq_false_iff_ne]; omega
                  have dB : ((j2 : Int) == (ka : Int)) = true := by rw [beq_iff_eq]; omega
                  as_aux_lemma =>
                    have hmN : Hid (swN io ka j2 = io) := by unfold Hid swN; rw [if_pos e2]
                    obtain ⟨bb, off, aw, lw, cw, x, hbb, hbl, hcell, hx, hX, hlc⟩ := (HWT.out.below hBk).at_ hjl
                    subst hbb
                    have hml : io < la := by omega
                    obtain ⟨bc, offc, ac, lc, cc, y, hbc, hblc, hcellc, hy, hY, hlcc⟩ := (HA5.out.below (HB5r.out.trans (hBk.mono HB5r.out.size))).at_ hml
                    subst hbc
                    obtain rfl : x = y := by
                      have h := swW_at (ws := wss) (by rw [HWL.out]; exact hiol) (by rw [HWL.out]; exact hkal) (show j2 < wss.length by rw [HWL.out]; exact hjl)
                      rw [hx, hmN.out, hy] at h
                      exact Option.some.inj h
                    have hB5k := HB5r.out.trans (hBk.mono HB5r.out.size)
                    have f1 : ∀ d os, (grow (redrawn wr d) os).cell? ⟨w.heap.size, 1, none⟩ = some (.slice (some ⟨bc, offc, none⟩) la ca) := fun d os => (HC.out _ (hB5k.trans ((below_regrown wr d os).mono hB5k.size))).1.2
                    have f2 : ∀ d os, (grow (redrawn wr d) os).cell? ⟨bb, off + j2, none⟩ = some (.slice aw lw cw) := fun d os => ((below_regrown wr d os).cell (p := ⟨bb, off + j2, none⟩) hbl).trans hcell
                    have f3 : ∀ d os, (grow (redrawn wr d) os).cell? ⟨bc, offc + io, none⟩ = some (.slice ac lc cc) := fun d os => ((below_regrown wr d os).cell (p := ⟨bc, offc + io, none⟩) hblc).trans hcellc
                    have f4 := fun d os => conv_bys (hX.below (below_regrown wr d os)) cw
                    have f5 := fun d os => conv_bys (hY.below (below_regrown wr d os)) cc
                    have i1 : (0 : Int) ≤ (j2 : Int) := by omega
                    have i2 : (j2 : Int) < (la : Int) := by omega
                    have i3 : (0 : Int) ≤ (io : Int) := by omega
                    have i4 : (io : Int) < (la : Int) := by omega
                    have HBK := Lib.hid hBk
                    clear e1 e2 hx hX hcell hlc hy hY hcellc hlcc hBk hB5k hml
                    go_wp2
                    clear c0 c1 c2 c3 c4 c5
                    refine wp_region_quiet_below mixed (by as_aux_lemma => kernel_rfl) ?_
                    repeat (go_big_quiet_step (fail))
                    refine wpQuiet_nil ?_
                    rintro _ ⟨⟨dq, osq⟩, rfl⟩
                    have hBq : RowKit.Below V4.heap.size V4 (grow (redrawn wr dq) osq) := HBK.out.trans ((below_regrown wr dq osq).mono HBK.out.size)
                    clear f1 f2 f3 f4 f5
                    go_wp2
                    go_roundw
                    case rel => exact ⟨j2 + 1, by omega, by go_num, hBq⟩
                    case measure => simp [intOf]; omega
                · have dA : ((j2 : Int) == (io : Int)) = false := by rw [beq_eq_false_iff_ne]; omega
                  have dB : ((j2 : Int) == (ka : Int)) = false := by rw [beq_eq_false_iff_ne]; omega
                  as_aux_lemma =>
                    have hmN : Hid (swN io ka j2 = j2) := by unfold Hid swN; rw [if_neg e2, if_neg e1]
                    obtain ⟨bb, off, aw, lw, cw, x, hbb, hbl, hcell, hx, hX, hlc⟩ := (HWT.out.below hBk).at_ hjl
                    subst hbb
                    have hml : j2 < la := by omega
                    obtain ⟨bc, offc, ac, lc, cc, y, hbc, hblc, hcellc, hy, hY, hlcc⟩ := (HA5.out.below (HB5r.out.trans (hBk.mono HB5r.out.size))).at_ hml
                    subst hbc
                    obtain rfl : x = y := by
                      have h := swW_at (ws := wss) (by rw [HWL.out]; exact hiol) (by rw [HWL.out]; exact hkal) (show j2 < wss.length by rw [HWL.out]; exact hjl)
                      rw [hx, hmN.out, hy] at h
                      exact Option.some.inj h
                    have hB5k := HB5r.out.trans (hBk.mono HB5r.out.size)
                    have f1 : ∀ d os, (grow (redrawn wr d) os).cell? ⟨w.heap.size, 1, none⟩ = some (.slice (some ⟨bc, offc, none⟩) la ca) := fun d os => (HC.out _ (hB5k.trans ((below_regrown wr d os).mono hB5k.size))).1.2
                    have f2 : ∀ d os, (grow (redrawn wr d) os).cell? ⟨bb, off + j2, none⟩ = some (.slice aw lw cw) := fun d os => ((below_regrown wr d os).cell (p := ⟨bb, off + j2, none⟩) hbl).trans hcell
                    have f3 : ∀ d os, (grow (redrawn wr d) os).cell? ⟨bc, offc + j2, none⟩ = some (.slice ac lc cc) := fun d os => ((below_regrown wr d os).cell (p := ⟨bc, offc + j2, none⟩) hblc).trans hcellc
                    have f4 := fun d os => conv_bys (hX.below (below_regrown wr d os)) cw
                    have f5 := fun d os => conv_bys (hY.below (below_regrown wr d os)) cc
                    have i1 : (0 : Int) ≤ (j2 : Int) := by omega
                    have i2 : (j2 : Int) < (la : Int) := by omega
                    have i3 : (0 : Int) ≤ (j2 : Int) := by omega
                    have i4 : (j2 : Int) < (la : Int) := by omega
                    have HBK := Lib.hid hBk
                    clear e1 e2 hx hX hcell hlc hy hY hcellc hlcc hBk hB5k hml
                    go_wp2
                    clear c0 c1 c2 c3 c4 c5
                    refine wp_region_quiet_below mixed (by as_aux_lemma => kernel_rfl) ?_
                    repeat (go_big_quiet_step (fail))
                    refine wpQuiet_nil ?_
                    rintro _ ⟨⟨dq, osq⟩, rfl⟩
                    have hBq : RowKit.Below V4.heap.size V4 (grow (redrawn wr dq) osq) := HBK.out.trans ((below_regrown wr dq osq).mono HBK.out.size)
                    clear f1 f2 f3 f4 f5
                    go_wp2
                    go_roundw
                    case rel => exact ⟨j2 + 1, by omega, by go_num, hBq⟩
                    case measure => simp [intOf]; omega
            · obtain rfl : j2 = la := by omega
              have hdl : decide ((j2 : Int) < j2) = false := by simp
              have HBF : Hid (RowKit.Below w.heap.size w wr) := HB5.out.trans ((HB5r.out.trans (hBk.mono HB5r.out.size)).mono HB5.out.size)
              go_wp2_with fail
              refine (wakes7 wr).mono ?_
              rintro e w9 ⟨rfl, hb9⟩
              go_wp2
              go_ret
              exact ⟨rfl, HBF.out.trans (hb9.mono HBF.out.size)⟩

end Go.Proofs.Ytmpmjkbjnklgfaa
