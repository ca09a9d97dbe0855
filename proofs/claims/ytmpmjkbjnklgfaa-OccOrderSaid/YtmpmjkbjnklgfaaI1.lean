/- Hits sorted in place by insertion, by a method that compares: walked. -/
import Derived.Test.YtmpmjkbjnklgfaaO6
import Derived.BigRegion
namespace Go.Proofs.Ytmpmjkbjnklgfaa
open Go.RowKit Go.Sort
set_option linter.unusedVariables false

abbrev nth (c : List HitP) (i : Nat) : HitP := c.getD i (0, 0)
/-- A block that holds hits from its head on. -/
def RowAt (W : World) (g cap : Nat) (l : List HitP) : Prop :=
  ∃ cur : Array Value, W.heap[g]? = some (.cells cur 43 (0, 0)) ∧ cur.size = cap * 2 ∧ l.length ≤ cap ∧ ∀ k, k < l.length → cur[k * 2]? = some (.int .i64 (nth l k).1) ∧ cur[k * 2 + 1]? = some (.int .i64 (nth l k).2)
theorem RowAt.lt {W : World} {g cap : Nat} {l : List HitP} (h : RowAt W g cap l) : g < W.heap.size := by
  obtain ⟨cur, h1, _⟩ := h
  exact (Array.getElem?_eq_some_iff.1 h1).1
theorem RowAt.cell {W : World} {g cap : Nat} {l : List HitP} (h : RowAt W g cap l) {k : Nat} (hk : k < l.length) :
    W.cell? ⟨g, k * 2, none⟩ = some (.int .i64 (nth l k).1) ∧ W.cell? ⟨g, k * 2 + 1, none⟩ = some (.int .i64 (nth l k).2) ∧ W.frozen? ⟨g, k * 2, none⟩ = false ∧ W.frozen? ⟨g, k * 2 + 1, none⟩ = false := by
  obtain ⟨cur, h1, h2, h3, h4⟩ := h
  obtain ⟨c0, c1⟩ := h4 k hk
  simp [World.cell?, World.frozen?, h1, c0, c1]
theorem RowAt.below {W W' : World} {g cap : Nat} {l : List HitP} (h : RowAt W g cap l) (hb : Below W.heap.size W W') : RowAt W' g cap l := by
  have hlt := h.lt
  obtain ⟨cur, h1, h2⟩ := h
  exact ⟨cur, (hb.block g hlt).trans h1, h2⟩
theorem nth_set {l : List HitP} {k i : Nat} {h : HitP} (hk : k < l.length) : nth (l.set k h) i = if i = k then h else nth l i := by
  unfold nth
  rw [List.getD_eq_getElem?_getD, List.getElem?_set, List.getD_eq_getElem?_getD]
  by_cases e : k = i
  · subst e; simp [hk]
  · rw [if_neg e, if_neg (fun h => e h.symm)]
theorem RowAt.set {W : World} {g cap : Nat} {l : List HitP} (h : RowAt W g cap l) {k : Nat} (hk : k < l.length) (x : HitP) :
    RowAt ((W.setCell ⟨g, k * 2, none⟩ (.int .i64 x.1)).setCell ⟨g, k * 2 + 1, none⟩ (.int .i64 x.2)) g cap (l.set k x) := by
  obtain ⟨cur, h1, h2, h3, h4⟩ := h
  have e1 := set_at (i := k * 2) h1 (.int .i64 x.1)
  have e2 := set_at (i := k * 2 + 1) e1 (.int .i64 x.2)
  refine ⟨_, e2, by simp [h2], by simpa using h3, fun j hj => ?_⟩
  rw [List.length_set] at hj
  obtain ⟨c0, c1⟩ := h4 j hj
  rw [nth_set hk]
  by_cases e : j = k
  · subst e
    rw [if_pos rfl]
    simp [Array.getElem?_setIfInBounds, h2]
    omega
  · rw [if_neg e]
    rw [Array.getElem?_setIfInBounds_ne (by omega), Array.getElem?_setIfInBounds_ne (by omega), Array.getElem?_setIfInBounds_ne (by omega), Array.getElem?_setIfInBounds_ne (by omega)]
    exact ⟨c0, c1⟩
/-- Two neighbours exchanged. -/
def swapN (l : List HitP) (j : Nat) : List HitP := (l.set (j + 1) (nth l j)).set j (nth l (j + 1))
theorem swapN_length (l : List HitP) (j : Nat) : (swapN l j).length = l.length := by simp [swapN]
theorem nth_swapN {l : List HitP} {j i : Nat} (hj : j + 1 < l.length) : nth (swapN l j) i = if i = j then nth l (j + 1) else if i = j + 1 then nth l j else nth l i := by
  unfold swapN
  rw [nth_set (by simp; omega), nth_set hj]
theorem swapN_perm {l : List HitP} {j : Nat} (hj : j + 1 < l.length) : (swapN l j).Perm l := by
  have hl : l = l.take j ++ nth l j :: nth l (j + 1) :: l.drop (j + 2) := by
    conv => lhs; rw [← List.take_append_drop j l, List.drop_eq_getElem_cons (by omega), List.drop_eq_getElem_cons hj]
    simp [nth, List.getD_eq_getElem?_getD]
    rw [List.getElem?_eq_getElem (by omega), List.getElem?_eq_getElem hj]
    simp
  have hs : swapN l j = l.take j ++ nth l (j + 1) :: nth l j :: l.drop (j + 2) := by
    apply List.ext_getElem?
    intro i
    have hlen : (l.take j).length = j := by simp; omega
    by_cases hi : i < l.length
    · have e1 : (swapN l j)[i]? = some (nth (swapN l j) i) := by
        unfold nth
        rw [List.getD_eq_getElem?_getD, List.getElem?_eq_getElem (by rw [swapN_length]; exact hi), Option.getD_some]
      have e2 : ∀ i, i < l.length → l[i]? = some (nth l i) := by
        intro i hi
        unfold nth
        rw [List.getD_eq_getElem?_getD, List.getElem?_eq_getElem hi, Option.getD_some]
      rw [e1, nth_swapN hj]
      by_cases h1 : i = j
      · subst h1
        rw [List.getElem?_append_right (by omega), hlen]
        simp
      · by_cases h2 : i = j + 1
        · subst h2
          rw [List.getElem?_append_right (by omega), hlen]
          simp
        · rw [if_neg h1, if_neg h2]
          by_cases h3 : i < j
          · rw [List.getElem?_append_left (by omega), List.getElem?_take, if_pos h3, e2 i hi]
          · rw [List.getElem?_append_right (by omega), hlen, show i - j = (i - j - 2) + 1 + 1 by omega, List.getElem?_cons_succ, List.getElem?_cons_succ, List.getElem?_drop, show j + 2 + (i - j - 2) = i by omega, e2 i hi]
    · rw [List.getElem?_eq_none (by rw [swapN_length]; omega), List.getElem?_eq_none (by simp; omega)]
  rw [hs]
  conv => rhs; rw [hl]
  exact (List.Perm.swap _ _ _).append_left _

/-! ### plain: insertion -/
def InvI (lt : HitP → HitP → Prop) (c : List HitP) (i j : Nat) : Prop := ∀ p q, p < q → q ≤ i → q ≠ j → ¬ lt (nth c q) (nth c p)
def SrtTo (lt : HitP → HitP → Prop) (c : List HitP) (n : Nat) : Prop := ∀ p q, p < q → q < n → ¬ lt (nth c q) (nth c p)
theorem InvI.start {lt : HitP → HitP → Prop} {c : List HitP} {i : Nat} (h : SrtTo lt c i) : InvI lt c i i := fun p q h1 h2 h3 => h p q h1 (by omega)
theorem InvI.stop {lt : HitP → HitP → Prop} {c : List HitP} {i j : Nat} (hn : ∀ a b d, ¬ lt a b → ¬ lt b d → ¬ lt a d) (h : InvI lt c i j) (hj : j ≤ i) (h0 : j = 0 ∨ ¬ lt (nth c j) (nth c (j - 1))) : SrtTo lt c (i + 1) := by
  intro p q h1 h2
  by_cases hq : q = j
  · subst hq
    rcases h0 with h0 | h0
    · omega
    · by_cases hp : p = q - 1
      · rw [hp]; exact h0
      · exact hn _ _ _ h0 (h p (q - 1) (by omega) (by omega) (by omega))
  · exact h p q h1 (by omega) hq
theorem InvI.step {lt : HitP → HitP → Prop} {c : List HitP} {i j : Nat} (ha : ∀ a b, lt a b → ¬ lt b a) (h : InvI lt c i (j + 1)) (hj : j + 1 ≤ i) (hi : i < c.length) (hlt : lt (nth c (j + 1)) (nth c j)) : InvI lt (swapN c j) i j := by
  intro p q h1 h2 h3
  rw [nth_swapN (by omega), nth_swapN (by omega), if_neg h3]
  by_cases hq : q = j + 1
  · subst hq
    rw [if_pos rfl]
    by_cases hp : p = j
    · rw [if_pos hp]; exact ha _ _ hlt
    · rw [if_neg hp, if_neg (by omega)]
      exact h p j (by omega) (by omega) (by omega)
  · rw [if_neg hq]
    by_cases hp : p = j
    · rw [if_pos hp]
      exact h (j + 1) q (by omega) h2 hq
    · rw [if_neg hp]
      by_cases hp1 : p = j + 1
      · rw [if_pos hp1]
        exact h j q (by omega) h2 hq
      · rw [if_neg hp1]
        exact h p q h1 h2 hq

/-- What a function that compares owes the sort. -/
structure CmpB (cf : FuncId) (rv : Value) (ord : HitP → HitP → Int) (S : HitP → Prop) (C : World → Prop) (g : Nat) : Prop where
  enters : ∀ (args : Array Value) (w : World), Sem.run Try.prog (callFunc cf args) w = .ok (.enter cf args) w
  below : ∀ W W', C W → Below W.heap.size W W' → C W'
  store : ∀ W i v, C W → C (W.setCell ⟨g, i, none⟩ v)
  calls : ∀ x y W, S x → S y → C W → Calls Try.prog cf #[rv, .agg #[.int .i64 x.1, .int .i64 x.2], .agg #[.int .i64 y.1, .int .i64 y.2]] W fun e w' => e = .returned (.int .i64 (ord x y)) ∧ Below W.heap.size W w'

end Go.Proofs.Ytmpmjkbjnklgfaa
