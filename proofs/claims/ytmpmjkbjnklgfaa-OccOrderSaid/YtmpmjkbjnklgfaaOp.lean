/- Plain words of layer 6: hits, their order, all of a text. -/
import Derived.Test.YtmpmjkbjnklgfaaLp
namespace Go.Proofs.Ytmpmjkbjnklgfaa
set_option linter.unusedVariables false

abbrev HitP := Int × Int
def lenW (wss : List (List Int)) (k : Int) : Int := if 0 ≤ k ∧ k < wss.length then (((wss[k.toNat]?).getD []).length : Int) else 0
def cmpI (a b : Int) : Int := if a < b then -1 else if b < a then 1 else 0
def orI (a b c : Int) : Int := if a ≠ 0 then a else if b ≠ 0 then b else c
def ordH (wss : List (List Int)) (a b : HitP) : Int := orI (cmpI a.1 b.1) (cmpI (lenW wss b.2) (lenW wss a.2)) (cmpI a.2 b.2)
def lessH (wss : List (List Int)) (a b : HitP) : Bool := decide (ordH wss a b < 0)
theorem lessH_iff {wss : List (List Int)} {a b : HitP} : lessH wss a b = true ↔ a.1 < b.1 ∨ a.1 = b.1 ∧ (lenW wss b.2 < lenW wss a.2 ∨ lenW wss b.2 = lenW wss a.2 ∧ a.2 < b.2) := by
  unfold lessH ordH orI cmpI
  simp only [decide_eq_true_eq]
  by_cases h1 : a.1 < b.1
  · simp [h1]
  · by_cases h2 : b.1 < a.1
    · simp [h1, h2]; try omega
    · by_cases h3 : lenW wss b.2 < lenW wss a.2
      · simp [h1, h2, h3]; try omega
      · by_cases h4 : lenW wss a.2 < lenW wss b.2
        · simp [h1, h2, h3, h4]; try omega
        · by_cases h5 : a.2 < b.2
          · simp [h1, h2, h3, h4, h5]; try omega
          · by_cases h6 : b.2 < a.2
            · simp [h1, h2, h3, h4, h5, h6]; try omega
            · simp [h1, h2, h3, h4, h5, h6]
theorem lessH_irrefl (wss : List (List Int)) (a : HitP) : lessH wss a a = false := by
  cases e : lessH wss a a with
  | false => rfl
  | true => have := lessH_iff.1 e; omega
theorem lessH_trans {wss : List (List Int)} {a b c : HitP} (h1 : lessH wss a b = true) (h2 : lessH wss b c = true) : lessH wss a c = true := by
  have h1 := lessH_iff.1 h1
  have h2 := lessH_iff.1 h2
  exact lessH_iff.2 (by omega)
theorem lessH_asymm {wss : List (List Int)} {a b : HitP} (h1 : lessH wss a b = true) : lessH wss b a = false := by
  cases e : lessH wss b a with
  | false => rfl
  | true =>
    have h1 := lessH_iff.1 h1
    have h2 := lessH_iff.1 e
    omega
theorem lessH_total {wss : List (List Int)} {a b : HitP} (h1 : lessH wss a b = false) (h2 : lessH wss b a = false) : a = b := by
  have h1 : ¬ lessH wss a b = true := by rw [h1]; simp
  have h2 : ¬ lessH wss b a = true := by rw [h2]; simp
  rw [lessH_iff] at h1 h2
  obtain ⟨x, y⟩ := a
  obtain ⟨u, v⟩ := b
  dsimp only at h1 h2
  simp only [Prod.mk.injEq]
  by_cases hy : y = v
  · subst hy; omega
  · omega
theorem lessH_ntrans {wss : List (List Int)} {a b c : HitP} (h1 : lessH wss a b = false) (h2 : lessH wss b c = false) : lessH wss a c = false := by
  cases e : lessH wss a c with
  | false => rfl
  | true =>
    exfalso
    have h1 : ¬ lessH wss a b = true := by rw [h1]; simp
    have h2 : ¬ lessH wss b c = true := by rw [h2]; simp
    rw [lessH_iff] at h1 h2 e
    omega

/-- Rising, one behind the other. -/
def riseH (wss : List (List Int)) : List HitP → Bool
  | [] => true
  | [_] => true
  | a :: b :: l => lessH wss a b && riseH wss (b :: l)
theorem riseH_pairwise {wss : List (List Int)} : ∀ {l : List HitP}, riseH wss l = true ↔ l.Pairwise (fun a b => lessH wss a b = true)
  | [] => by simp [riseH]
  | [a] => by simp [riseH]
  | a :: b :: l => by
    have ih := riseH_pairwise (wss := wss) (l := b :: l)
    simp only [riseH, Bool.and_eq_true, ih]
    rw [List.pairwise_cons (a := a)]
    constructor
    · rintro ⟨h1, h2⟩
      refine ⟨fun x hx => ?_, h2⟩
      rcases List.mem_cons.1 hx with rfl | hx
      · exact h1
      · exact lessH_trans h1 ((List.pairwise_cons.1 h2).1 x hx)
    · rintro ⟨h1, h2⟩
      exact ⟨h1 b (by simp), h2⟩
/-- Two lists that rise and have the same members are the same. -/
theorem rise_unique {wss : List (List Int)} : ∀ {l m : List HitP}, l.Pairwise (fun a b => lessH wss a b = true) → m.Pairwise (fun a b => lessH wss a b = true) → (∀ x, x ∈ l ↔ x ∈ m) → l = m
  | [], [], _, _, _ => rfl
  | [], b :: m, _, _, h => by have := (h b).2 (by simp); simp at this
  | a :: l, [], _, _, h => by have := (h a).1 (by simp); simp at this
  | a :: l, b :: m, h1, h2, h => by
    rw [List.pairwise_cons] at h1 h2
    have hab : a = b := by
      have ha := (h a).1 (by simp)
      have hb := (h b).2 (by simp)
      rcases List.mem_cons.1 ha with e | ha
      · exact e
      · rcases List.mem_cons.1 hb with e | hb
        · exact e.symm
        · have g1 := h2.1 a ha
          have g2 := h1.1 b hb
          rw [lessH_asymm g1] at g2
          cases g2
    subst hab
    have hnl : a ∉ l := fun hm => by have := h1.1 a hm; rw [lessH_irrefl] at this; cases this
    have hnm : a ∉ m := fun hm => by have := h2.1 a hm; rw [lessH_irrefl] at this; cases this
    congr 1
    refine rise_unique h1.2 h2.2 fun x => ⟨fun hx => ?_, fun hx => ?_⟩
    · rcases List.mem_cons.1 ((h x).1 (by simp [hx])) with e | hm
      · subst e; exact absurd hx hnl
      · exact hm
    · rcases List.mem_cons.1 ((h x).2 (by simp [hx])) with e | hm
      · subst e; exact absurd hx hnm
      · exact hm

/-- Where a hit is put, among hits that rise: behind all that do not come behind it. -/
def putN (wss : List (List Int)) (l : List HitP) (h : HitP) : Nat := l.length - (l.reverse.takeWhile (fun x => lessH wss h x)).length
def putH (wss : List (List Int)) (l : List HitP) (h : HitP) : List HitP := l.take (putN wss l h) ++ h :: l.drop (putN wss l h)
theorem takeWhile_all {α : Type} {p : α → Bool} : ∀ {xs ys : List α}, (∀ x ∈ xs, p x = true) → (∀ y, ys[0]? = some y → p y = false) → (xs ++ ys).takeWhile p = xs
  | [], [], _, _ => rfl
  | [], y :: ys, _, h => by
    have := h y rfl
    simp [this]
  | x :: xs, ys, h1, h2 => by
    rw [List.cons_append, List.takeWhile_cons, h1 x (by simp)]
    simp only [if_true]
    rw [takeWhile_all (fun z hz => h1 z (by simp [hz])) h2]
theorem putN_is {wss : List (List Int)} {l : List HitP} {h : HitP} {k : Nat} (hk : k ≤ l.length) (h1 : ∀ x ∈ l.drop k, lessH wss h x = true) (h2 : ∀ x, 0 < k → l[k - 1]? = some x → lessH wss h x = false) : putN wss l h = k := by
  unfold putN
  have e : l.reverse = (l.drop k).reverse ++ (l.take k).reverse := by rw [← List.reverse_append, List.take_append_drop]
  rw [e, takeWhile_all]
  · simp; omega
  · intro x hx; exact h1 x (by simpa using hx)
  · intro y hy
    by_cases h0 : k = 0
    · subst h0; simp at hy
    · refine h2 y (by omega) ?_
      rw [List.getElem?_reverse (by rw [List.length_take]; omega), List.length_take, List.getElem?_take] at hy
      rw [if_pos (by omega)] at hy
      rw [← hy]
      congr 1
      omega
theorem putN_le (wss : List (List Int)) (l : List HitP) (h : HitP) : putN wss l h ≤ l.length := by unfold putN; omega
theorem mem_putH {wss : List (List Int)} {l : List HitP} {h x : HitP} : x ∈ putH wss l h ↔ x = h ∨ x ∈ l := by
  unfold putH
  rw [List.mem_append, List.mem_cons]
  constructor
  · rintro (h1 | h1 | h1)
    · exact .inr (List.mem_of_mem_take h1)
    · exact .inl h1
    · exact .inr (List.mem_of_mem_drop h1)
  · rintro (h1 | h1)
    · exact .inr (.inl h1)
    · rw [← List.take_append_drop (putN wss l h) l, List.mem_append] at h1
      rcases h1 with h1 | h1
      · exact .inl h1
      · exact .inr (.inr h1)
theorem putH_rises {wss : List (List Int)} {l : List HitP} {h : HitP} (hr : l.Pairwise (fun a b => lessH wss a b = true)) (hn : h ∉ l) : (putH wss l h).Pairwise (fun a b => lessH wss a b = true) := by
  obtain ⟨k, hk, h1, h2⟩ : ∃ k, k ≤ l.length ∧ (∀ x ∈ l.drop k, lessH wss h x = true) ∧ (∀ x, 0 < k → l[k - 1]? = some x → lessH wss h x = false) := by
    have key : ∀ n, n ≤ l.length → (∀ x ∈ l.drop n, lessH wss h x = true) → ∃ k, k ≤ l.length ∧ (∀ x ∈ l.drop k, lessH wss h x = true) ∧ (∀ x, 0 < k → l[k - 1]? = some x → lessH wss h x = false) := by
      intro n
      induction n with
      | zero => intro h1 h2; exact ⟨0, h1, h2, fun x h0 => by omega⟩
      | succ n ih =>
        intro h1 h2
        obtain ⟨x, hx⟩ : ∃ x, l[n]? = some x := ⟨l[n]'(by omega), by simp⟩
        cases e : lessH wss h x with
        | false => exact ⟨n + 1, h1, h2, fun y _ hy => by simp at hy; rw [hx] at hy; rw [← Option.some.inj hy]; exact e⟩
        | true =>
          refine ih (by omega) fun y hy => ?_
          rw [List.drop_eq_getElem_cons (show n < l.length by omega)] at hy
          have : l[n]'(by omega) = x := by have := hx; rw [List.getElem?_eq_getElem (by omega)] at this; exact Option.some.inj this
          rw [this] at hy
          rcases List.mem_cons.1 hy with rfl | hy
          · exact e
          · exact h2 y hy
    exact key l.length (Nat.le_refl _) (by simp)
  have hp := putN_is hk h1 h2
  unfold putH
  rw [hp]
  rw [List.pairwise_append, List.pairwise_cons]
  have hsplit := hr
  rw [← List.take_append_drop k l, List.pairwise_append] at hsplit
  refine ⟨hsplit.1, ⟨h1, hsplit.2.1⟩, fun a ha b hb => ?_⟩
  have hah : lessH wss a h = true := by
    have hk0 : 0 < k := by
      by_cases h0 : k = 0
      · subst h0; simp at ha
      · omega
    obtain ⟨x, hx⟩ : ∃ x, l[k - 1]? = some x := ⟨l[k - 1]'(by omega), by simp⟩
    have hxh : lessH wss x h = true := by
      cases e : lessH wss x h with
      | true => rfl
      | false => exact absurd (by rw [lessH_total e (h2 x hk0 hx)] at hx; exact List.mem_of_getElem? hx) hn
    obtain ⟨i, hi⟩ := List.getElem?_of_mem ha
    have hi2 : l[i]? = some a := by rw [List.getElem?_take] at hi; split at hi; exact hi; cases hi
    have hik : i < k := by have := (List.getElem?_eq_some_iff.1 hi).1; simp at this; omega
    by_cases hlast : i = k - 1
    · subst hlast; rw [hx] at hi2; rw [← Option.some.inj hi2]; exact hxh
    · have := List.pairwise_iff_getElem.1 hr i (k - 1) (by omega) (by omega) (by omega)
      rw [(List.getElem?_eq_some_iff.1 hi2).2, (List.getElem?_eq_some_iff.1 hx).2] at this
      exact lessH_trans this hxh
  rcases List.mem_cons.1 hb with rfl | hb
  · exact hah
  · exact lessH_trans hah (h1 b hb)

/-- Which words stand at a place. -/
def stands (fold : Bool) (wss : List (List Int)) (text : List Int) (place : Nat) (k : Nat) : Bool := atL fold text place ((wss[k]?).getD [])
def hereD (fold : Bool) (wss : List (List Int)) (frm : Int) (text : List Int) (place : Nat) (n : Nat) : List HitP :=
  (List.range n).foldl (fun l k => if stands fold wss text place k then putH wss l (frm + place, (k : Int)) else l) []
theorem hereD_succ (fold : Bool) (wss : List (List Int)) (frm : Int) (text : List Int) (place n : Nat) :
    hereD fold wss frm text place (n + 1) = if stands fold wss text place n then putH wss (hereD fold wss frm text place n) (frm + place, (n : Int)) else hereD fold wss frm text place n := by
  simp [hereD, List.range_succ, List.foldl_append]
theorem mem_hereD {fold : Bool} {wss : List (List Int)} {frm : Int} {text : List Int} {place : Nat} {h : HitP} : ∀ {n : Nat}, h ∈ hereD fold wss frm text place n ↔ ∃ k, k < n ∧ stands fold wss text place k = true ∧ h = (frm + place, (k : Int))
  | 0 => by simp [hereD]
  | n + 1 => by
    have ih := mem_hereD (fold := fold) (wss := wss) (frm := frm) (text := text) (place := place) (h := h) (n := n)
    rw [hereD_succ]
    cases e : stands fold wss text place n with
    | false =>
      simp only [Bool.false_eq_true, if_false, ih]
      constructor
      · rintro ⟨k, h1, h2, h3⟩; exact ⟨k, by omega, h2, h3⟩
      · rintro ⟨k, h1, h2, h3⟩
        by_cases hk : k = n
        · subst hk; rw [e] at h2; cases h2
        · exact ⟨k, by omega, h2, h3⟩
    | true =>
      simp only [if_true, mem_putH, ih]
      constructor
      · rintro (h1 | ⟨k, h1, h2, h3⟩)
        · exact ⟨n, by omega, e, h1⟩
        · exact ⟨k, by omega, h2, h3⟩
      · rintro ⟨k, h1, h2, h3⟩
        by_cases hk : k = n
        · subst hk; exact .inl h3
        · exact .inr ⟨k, by omega, h2, h3⟩
theorem hereD_rises (fold : Bool) (wss : List (List Int)) (frm : Int) (text : List Int) (place : Nat) : ∀ n, (hereD fold wss frm text place n).Pairwise (fun a b => lessH wss a b = true)
  | 0 => by simp [hereD]
  | n + 1 => by
    have ih := hereD_rises fold wss frm text place n
    rw [hereD_succ]
    split
    · refine putH_rises ih fun hm => ?_
      obtain ⟨k, h1, h2, h3⟩ := mem_hereD.1 hm
      simp at h3
      omega
    · exact ih
/-- All hits, as the document has them. -/
def occTo (fold : Bool) (wss : List (List Int)) (frm : Int) (text : List Int) (n : Nat) : List HitP := (List.range n).flatMap fun place => hereD fold wss frm text place wss.length
def occD (fold : Bool) (wss : List (List Int)) (frm : Int) (text : List Int) : List HitP := occTo fold wss frm text (text.length + 1)
theorem occTo_succ (fold : Bool) (wss : List (List Int)) (frm : Int) (text : List Int) (n : Nat) : occTo fold wss frm text (n + 1) = occTo fold wss frm text n ++ hereD fold wss frm text n wss.length := by
  simp [occTo, List.range_succ]
theorem mem_occTo {fold : Bool} {wss : List (List Int)} {frm : Int} {text : List Int} {n : Nat} {h : HitP} : h ∈ occTo fold wss frm text n ↔ ∃ place k, place < n ∧ k < wss.length ∧ stands fold wss text place k = true ∧ h = (frm + place, (k : Int)) := by
  unfold occTo
  rw [List.mem_flatMap]
  constructor
  · rintro ⟨p, hp, hm⟩
    obtain ⟨k, h1, h2, h3⟩ := mem_hereD.1 hm
    exact ⟨p, k, by simpa using hp, h1, h2, h3⟩
  · rintro ⟨p, k, h1, h2, h3, h4⟩
    exact ⟨p, by simpa using h1, mem_hereD.2 ⟨k, h2, h3, h4⟩⟩
theorem occTo_rises (fold : Bool) (wss : List (List Int)) (frm : Int) (text : List Int) : ∀ n, (occTo fold wss frm text n).Pairwise (fun a b => lessH wss a b = true)
  | 0 => by simp [occTo]
  | n + 1 => by
    rw [occTo_succ, List.pairwise_append]
    refine ⟨occTo_rises fold wss frm text n, hereD_rises _ _ _ _ _ _, fun a ha b hb => ?_⟩
    obtain ⟨p, k, h1, h2, h3, rfl⟩ := mem_occTo.1 ha
    obtain ⟨j, g1, g2, rfl⟩ := mem_hereD.1 hb
    exact lessH_iff.2 (.inl (by dsimp only; omega))
/-- All hits, place by place, word by word. -/
def rawTo (fold : Bool) (wss : List (List Int)) (text : List Int) (n : Nat) : List (Nat × Nat) := (List.range n).flatMap fun place => ((List.range wss.length).filter fun k => stands fold wss text place k).map fun k => (place, k)
theorem mem_rawTo {fold : Bool} {wss : List (List Int)} {text : List Int} {n : Nat} {q : Nat × Nat} : q ∈ rawTo fold wss text n ↔ q.1 < n ∧ q.2 < wss.length ∧ stands fold wss text q.1 q.2 = true := by
  unfold rawTo
  rw [List.mem_flatMap]
  constructor
  · rintro ⟨p, hp, hm⟩
    rw [List.mem_map] at hm
    obtain ⟨k, hk, rfl⟩ := hm
    rw [List.mem_filter] at hk
    exact ⟨by simpa using hp, by simpa using hk.1, hk.2⟩
  · rintro ⟨h1, h2, h3⟩
    refine ⟨q.1, by simpa using h1, ?_⟩
    rw [List.mem_map]
    exact ⟨q.2, List.mem_filter.2 ⟨by simpa using h2, h3⟩, rfl⟩
/-- What rises and has just what stands is all hits. -/
theorem occ_unique {fold : Bool} {wss : List (List Int)} {frm : Int} {text : List Int} {l : List HitP} (h1 : l.Perm ((rawTo fold wss text (text.length + 1)).map fun q => (frm + (q.1 : Int), (q.2 : Int)))) (h2 : l.Pairwise (fun a b => lessH wss a b = true)) : l = occD fold wss frm text := by
  refine rise_unique h2 (occTo_rises _ _ _ _ _) fun x => ?_
  rw [h1.mem_iff, List.mem_map]
  unfold occD
  rw [mem_occTo]
  constructor
  · rintro ⟨q, hq, rfl⟩
    obtain ⟨g1, g2, g3⟩ := mem_rawTo.1 hq
    exact ⟨q.1, q.2, g1, g2, g3, rfl⟩
  · rintro ⟨p, k, g1, g2, g3, rfl⟩
    exact ⟨(p, k), mem_rawTo.2 ⟨g1, g2, g3⟩, rfl⟩

/-- Hits between two places. -/
def betwH (low high : Int) (l : List HitP) : List HitP := l.filter fun h => decide (low < h.1) && decide (h.1 ≤ high)
theorem betwH_snoc (low high : Int) (l : List HitP) (x : HitP) : betwH low high (l ++ [x]) = if low < x.1 ∧ x.1 ≤ high then betwH low high l ++ [x] else betwH low high l := by
  unfold betwH
  rw [List.filter_append]
  by_cases h : low < x.1 ∧ x.1 ≤ high
  · simp [h]
  · rw [if_neg h]
    have : (decide (low < x.1) && decide (x.1 ≤ high)) = false := by simp; omega
    simp [this]
/-- A hit stands in a text. -/
def standsH (fold : Bool) (wss : List (List Int)) (frm : Int) (text : List Int) (h : HitP) : Bool :=
  decide (0 ≤ h.2 ∧ h.2 < wss.length ∧ frm ≤ h.1 ∧ h.1 - frm ≤ text.length) && stands fold wss text (h.1 - frm).toNat h.2.toNat

end Go.Proofs.Ytmpmjkbjnklgfaa
