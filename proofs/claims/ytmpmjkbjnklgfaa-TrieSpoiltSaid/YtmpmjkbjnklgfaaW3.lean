/- Parts of the proof, one behind the other: Op, O1, L5, L6, Sp, S1. No condition but what each theorem states. -/
import Derived.Shelf.Abstract
import Derived.Maps.AppendAt
import Derived.OwnWalk
import Derived.Laws.OwnMore
import Derived.Deep.AppendLies
import Derived.Laws.BytesArg
import Derived.Deep.RegionHeld3
import Derived.Deep.RegionWith
import Derived.Test.YtmpmjkbjnklgfaaW2

/- Plain words of layer 6: hits, their order, all of a text. -/

namespace Go.Proofs.Ytmpmjkbjnklgfaa
set_option linter.unusedVariables false

abbrev HitP := Int × Int
def lenW (wss : List (List Int)) (k : Int) : Int := if 0 ≤ k ∧ k < wss.length then (((wss[k.toNat]?).getD []).length : Int) else 0
def cmpI (a b : Int) : Int := if a < b then -1 else if b < a then 1 else 0
def orI (a b c : Int) : Int := if a ≠ 0 then a else if b ≠ 0 then b else c
def ordH (wss : List (List Int)) (a b : HitP) : Int := orI (cmpI a.1 b.1) (cmpI (lenW wss b.2) (lenW wss a.2)) (cmpI a.2 b.2)
def lessH (wss : List (List Int)) (a b : HitP) : Bool := decide (ordH wss a b < 0)
theorem lessH_iff {wss : List (List Int)} {a b : HitP} : lessH wss a b = true ↔ a.1 < b.1 ∨ a.1 = b.1 ∧ (lenW wss b.2 < lenW wss a.2 ∨ lenW wss b.2 = lenW wss a.2 ∧ a.2 < b.2) := by
  unfold lessH ordH orI cmpI
  simp only [decide_eq_true_eq]
  by_cases h1 : a.1 < b.1
  · simp [h1]
  · by_cases h2 : b.1 < a.1
    · simp [h1, h2]; try omega
    · by_cases h3 : lenW wss b.2 < lenW wss a.2
      · simp [h1, h2, h3]; try omega
      · by_cases h4 : lenW wss a.2 < lenW wss b.2
        · simp [h1, h2, h3, h4]; try omega
        · by_cases h5 : a.2 < b.2
          · simp [h1, h2, h3, h4, h5]; try omega
          · by_cases h6 : b.2 < a.2
            · simp [h1, h2, h3, h4, h5, h6]; try omega
            · simp [h1, h2, h3, h4, h5, h6]
theorem lessH_irrefl (wss : List (List Int)) (a : HitP) : lessH wss a a = false := by
  cases e : lessH wss a a with
  | false => rfl
  | true => have := lessH_iff.1 e; omega
theorem lessH_trans {wss : List (List Int)} {a b c : HitP} (h1 : lessH wss a b = true) (h2 : lessH wss b c = true) : lessH wss a c = true := by
  have h1 := lessH_iff.1 h1
  have h2 := lessH_iff.1 h2
  exact lessH_iff.2 (by omega)
theorem lessH_asymm {wss : List (List Int)} {a b : HitP} (h1 : lessH wss a b = true) : lessH wss b a = false := by
  cases e : lessH wss b a with
  | false => rfl
  | true =>
    have h1 := lessH_iff.1 h1
    have h2 := lessH_iff.1 e
    omega
theorem lessH_total {wss : List (List Int)} {a b : HitP} (h1 : lessH wss a b = false) (h2 : lessH wss b a = false) : a = b := by
  have h1 : ¬ lessH wss a b = true := by rw [h1]; simp
  have h2 : ¬ lessH wss b a = true := by rw [h2]; simp
  rw [lessH_iff] at h1 h2
  obtain ⟨x, y⟩ := a
  obtain ⟨u, v⟩ := b
  dsimp only at h1 h2
  simp only [Prod.mk.injEq]
  by_cases hy : y = v
  · subst hy; omega
  · omega
theorem lessH_ntrans {wss : List (List Int)} {a b c : HitP} (h1 : lessH wss a b = false) (h2 : lessH wss b c = false) : lessH wss a c = false := by
  cases e : lessH wss a c with
  | false => rfl
  | true =>
    exfalso
    have h1 : ¬ lessH wss a b = true := by rw [h1]; simp
    have h2 : ¬ lessH wss b c = true := by rw [h2]; simp
    rw [lessH_iff] at h1 h2 e
    omega

/-- Rising, one behind the other. -/
def riseH (wss : List (List Int)) : List HitP → Bool
  | [] => true
  | [_] => true
  | a :: b :: l => lessH wss a b && riseH wss (b :: l)
theorem riseH_pairwise {wss : List (List Int)} : ∀ {l : List HitP}, riseH wss l = true ↔ l.Pairwise (fun a b => lessH wss a b = true)
  | [] => by simp [riseH]
  | [a] => by simp [riseH]
  | a :: b :: l => by
    have ih := riseH_pairwise (wss := wss) (l := b :: l)
    simp only [riseH, Bool.and_eq_true, ih]
    rw [List.pairwise_cons (a := a)]
    constructor
    · rintro ⟨h1, h2⟩
      refine ⟨fun x hx => ?_, h2⟩
      rcases List.mem_cons.1 hx with rfl | hx
      · exact h1
      · exact lessH_trans h1 ((List.pairwise_cons.1 h2).1 x hx)
    · rintro ⟨h1, h2⟩
      exact ⟨h1 b (by simp), h2⟩
/-- Two lists that rise and have the same members are the same. -/
theorem rise_unique {wss : List (List Int)} : ∀ {l m : List HitP}, l.Pairwise (fun a b => lessH wss a b = true) → m.Pairwise (fun a b => lessH wss a b = true) → (∀ x, x ∈ l ↔ x ∈ m) → l = m
  | [], [], _, _, _ => rfl
  | [], b :: m, _, _, h => by have := (h b).2 (by simp); simp at this
  | a :: l, [], _, _, h => by have := (h a).1 (by simp); simp at this
  | a :: l, b :: m, h1, h2, h => by
    rw [List.pairwise_cons] at h1 h2
    have hab : a = b := by
      have ha := (h a).1 (by simp)
      have hb := (h b).2 (by simp)
      rcases List.mem_cons.1 ha with e | ha
      · exact e
      · rcases List.mem_cons.1 hb with e | hb
        · exact e.symm
        · have g1 := h2.1 a ha
          have g2 := h1.1 b hb
          rw [lessH_asymm g1] at g2
          cases g2
    subst hab
    have hnl : a ∉ l := fun hm => by have := h1.1 a hm; rw [lessH_irrefl] at this; cases this
    have hnm : a ∉ m := fun hm => by have := h2.1 a hm; rw [lessH_irrefl] at this; cases this
    congr 1
    refine rise_unique h1.2 h2.2 fun x => ⟨fun hx => ?_, fun hx => ?_⟩
    · rcases List.mem_cons.1 ((h x).1 (by simp [hx])) with e | hm
      · subst e; exact absurd hx hnl
      · exact hm
    · rcases List.mem_cons.1 ((h x).2 (by simp [hx])) with e | hm
      · subst e; exact absurd hx hnm
      · exact hm

/-- Where a hit is put, among hits that rise: behind all that do not come behind it. -/
def putN (wss : List (List Int)) (l : List HitP) (h : HitP) : Nat := l.length - (l.reverse.takeWhile (fun x => lessH wss h x)).length
def putH (wss : List (List Int)) (l : List HitP) (h : HitP) : List HitP := l.take (putN wss l h) ++ h :: l.drop (putN wss l h)
theorem takeWhile_all {α : Type} {p : α → Bool} : ∀ {xs ys : List α}, (∀ x ∈ xs, p x = true) → (∀ y, ys[0]? = some y → p y = false) → (xs ++ ys).takeWhile p = xs
  | [], [], _, _ => rfl
  | [], y :: ys, _, h => by
    have := h y rfl
    simp [this]
  | x :: xs, ys, h1, h2 => by
    rw [List.cons_append, List.takeWhile_cons, h1 x (by simp)]
    simp only [if_true]
    rw [takeWhile_all (fun z hz => h1 z (by simp [hz])) h2]
theorem putN_is {wss : List (List Int)} {l : List HitP} {h : HitP} {k : Nat} (hk : k ≤ l.length) (h1 : ∀ x ∈ l.drop k, lessH wss h x = true) (h2 : ∀ x, 0 < k → l[k - 1]? = some x → lessH wss h x = false) : putN wss l h = k := by
  unfold putN
  have e : l.reverse = (l.drop k).reverse ++ (l.take k).reverse := by rw [← List.reverse_append, List.take_append_drop]
  rw [e, takeWhile_all]
  · simp; omega
  · intro x hx; exact h1 x (by simpa using hx)
  · intro y hy
    by_cases h0 : k = 0
    · subst h0; simp at hy
    · refine h2 y (by omega) ?_
      rw [List.getElem?_reverse (by rw [List.length_take]; omega), List.length_take, List.getElem?_take] at hy
      rw [if_pos (by omega)] at hy
      rw [← hy]
      congr 1
      omega
theorem putN_le (wss : List (List Int)) (l : List HitP) (h : HitP) : putN wss l h ≤ l.length := by unfold putN; omega
theorem mem_putH {wss : List (List Int)} {l : List HitP} {h x : HitP} : x ∈ putH wss l h ↔ x = h ∨ x ∈ l := by
  unfold putH
  rw [List.mem_append, List.mem_cons]
  constructor
  · rintro (h1 | h1 | h1)
    · exact .inr (List.mem_of_mem_take h1)
    · exact .inl h1
    · exact .inr (List.mem_of_mem_drop h1)
  · rintro (h1 | h1)
    · exact .inr (.inl h1)
    · rw [← List.take_append_drop (putN wss l h) l, List.mem_append] at h1
      rcases h1 with h1 | h1
      · exact .inl h1
      · exact .inr (.inr h1)
theorem putH_rises {wss : List (List Int)} {l : List HitP} {h : HitP} (hr : l.Pairwise (fun a b => lessH wss a b = true)) (hn : h ∉ l) : (putH wss l h).Pairwise (fun a b => lessH wss a b = true) := by
  obtain ⟨k, hk, h1, h2⟩ : ∃ k, k ≤ l.length ∧ (∀ x ∈ l.drop k, lessH wss h x = true) ∧ (∀ x, 0 < k → l[k - 1]? = some x → lessH wss h x = false) := by
    have key : ∀ n, n ≤ l.length → (∀ x ∈ l.drop n, lessH wss h x = true) → ∃ k, k ≤ l.length ∧ (∀ x ∈ l.drop k, lessH wss h x = true) ∧ (∀ x, 0 < k → l[k - 1]? = some x → lessH wss h x = false) := by
      intro n
      induction n with
      | zero => intro h1 h2; exact ⟨0, h1, h2, fun x h0 => by omega⟩
      | succ n ih =>
        intro h1 h2
        obtain ⟨x, hx⟩ : ∃ x, l[n]? = some x := ⟨l[n]'(by omega), by simp⟩
        cases e : lessH wss h x with
        | false => exact ⟨n + 1, h1, h2, fun y _ hy => by simp at hy; rw [hx] at hy; rw [← Option.some.inj hy]; exact e⟩
        | true =>
          refine ih (by omega) fun y hy => ?_
          rw [List.drop_eq_getElem_cons (show n < l.length by omega)] at hy
          have : l[n]'(by omega) = x := by have := hx; rw [List.getElem?_eq_getElem (by omega)] at this; exact Option.some.inj this
          rw [this] at hy
          rcases List.mem_cons.1 hy with rfl | hy
          · exact e
          · exact h2 y hy
    exact key l.length (Nat.le_refl _) (by simp)
  have hp := putN_is hk h1 h2
  unfold putH
  rw [hp]
  rw [List.pairwise_append, List.pairwise_cons]
  have hsplit := hr
  rw [← List.take_append_drop k l, List.pairwise_append] at hsplit
  refine ⟨hsplit.1, ⟨h1, hsplit.2.1⟩, fun a ha b hb => ?_⟩
  have hah : lessH wss a h = true := by
    have hk0 : 0 < k := by
      by_cases h0 : k = 0
      · subst h0; simp at ha
      · omega
    obtain ⟨x, hx⟩ : ∃ x, l[k - 1]? = some x := ⟨l[k - 1]'(by omega), by simp⟩
    have hxh : lessH wss x h = true := by
      cases e : lessH wss x h with
      | true => rfl
      | false => exact absurd (by rw [lessH_total e (h2 x hk0 hx)] at hx; exact List.mem_of_getElem? hx) hn
    obtain ⟨i, hi⟩ := List.getElem?_of_mem ha
    have hi2 : l[i]? = some a := by rw [List.getElem?_take] at hi; split at hi; exact hi; cases hi
    have hik : i < k := by have := (List.getElem?_eq_some_iff.1 hi).1; simp at this; omega
    by_cases hlast : i = k - 1
    · subst hlast; rw [hx] at hi2; rw [← Option.some.inj hi2]; exact hxh
    · have := List.pairwise_iff_getElem.1 hr i (k - 1) (by omega) (by omega) (by omega)
      rw [(List.getElem?_eq_some_iff.1 hi2).2, (List.getElem?_eq_some_iff.1 hx).2] at this
      exact lessH_trans this hxh
  rcases List.mem_cons.1 hb with rfl | hb
  · exact hah
  · exact lessH_trans hah (h1 b hb)

/-- Which words stand at a place. -/
def stands (fold : Bool) (wss : List (List Int)) (text : List Int) (place : Nat) (k : Nat) : Bool := atL fold text place ((wss[k]?).getD [])
def hereD (fold : Bool) (wss : List (List Int)) (frm : Int) (text : List Int) (place : Nat) (n : Nat) : List HitP :=
  (List.range n).foldl (fun l k => if stands fold wss text place k then putH wss l (frm + place, (k : Int)) else l) []
theorem hereD_succ (fold : Bool) (wss : List (List Int)) (frm : Int) (text : List Int) (place n : Nat) :
    hereD fold wss frm text place (n + 1) = if stands fold wss text place n then putH wss (hereD fold wss frm text place n) (frm + place, (n : Int)) else hereD fold wss frm text place n := by
  simp [hereD, List.range_succ, List.foldl_append]
theorem mem_hereD {fold : Bool} {wss : List (List Int)} {frm : Int} {text : List Int} {place : Nat} {h : HitP} : ∀ {n : Nat}, h ∈ hereD fold wss frm text place n ↔ ∃ k, k < n ∧ stands fold wss text place k = true ∧ h = (frm + place, (k : Int))
  | 0 => by simp [hereD]
  | n + 1 => by
    have ih := mem_hereD (fold := fold) (wss := wss) (frm := frm) (text := text) (place := place) (h := h) (n := n)
    rw [hereD_succ]
    cases e : stands fold wss text place n with
    | false =>
      simp only [Bool.false_eq_true, if_false, ih]
      constructor
      · rintro ⟨k, h1, h2, h3⟩; exact ⟨k, by omega, h2, h3⟩
      · rintro ⟨k, h1, h2, h3⟩
        by_cases hk : k = n
        · subst hk; rw [e] at h2; cases h2
        · exact ⟨k, by omega, h2, h3⟩
    | true =>
      simp only [if_true, mem_putH, ih]
      constructor
      · rintro (h1 | ⟨k, h1, h2, h3⟩)
        · exact ⟨n, by omega, e, h1⟩
        · exact ⟨k, by omega, h2, h3⟩
      · rintro ⟨k, h1, h2, h3⟩
        by_cases hk : k = n
        · subst hk; exact .inl h3
        · exact .inr ⟨k, by omega, h2, h3⟩
theorem hereD_rises (fold : Bool) (wss : List (List Int)) (frm : Int) (text : List Int) (place : Nat) : ∀ n, (hereD fold wss frm text place n).Pairwise (fun a b => lessH wss a b = true)
  | 0 => by simp [hereD]
  | n + 1 => by
    have ih := hereD_rises fold wss frm text place n
    rw [hereD_succ]
    split
    · refine putH_rises ih fun hm => ?_
      obtain ⟨k, h1, h2, h3⟩ := mem_hereD.1 hm
      simp at h3
      omega
    · exact ih
/-- All hits, as the document has them. -/
def occTo (fold : Bool) (wss : List (List Int)) (frm : Int) (text : List Int) (n : Nat) : List HitP := (List.range n).flatMap fun place => hereD fold wss frm text place wss.length
def occD (fold : Bool) (wss : List (List Int)) (frm : Int) (text : List Int) : List HitP := occTo fold wss frm text (text.length + 1)
theorem occTo_succ (fold : Bool) (wss : List (List Int)) (frm : Int) (text : List Int) (n : Nat) : occTo fold wss frm text (n + 1) = occTo fold wss frm text n ++ hereD fold wss frm text n wss.length := by
  simp [occTo, List.range_succ]
theorem mem_occTo {fold : Bool} {wss : List (List Int)} {frm : Int} {text : List Int} {n : Nat} {h : HitP} : h ∈ occTo fold wss frm text n ↔ ∃ place k, place < n ∧ k < wss.length ∧ stands fold wss text place k = true ∧ h = (frm + place, (k : Int)) := by
  unfold occTo
  rw [List.mem_flatMap]
  constructor
  · rintro ⟨p, hp, hm⟩
    obtain ⟨k, h1, h2, h3⟩ := mem_hereD.1 hm
    exact ⟨p, k, by simpa using hp, h1, h2, h3⟩
  · rintro ⟨p, k, h1, h2, h3, h4⟩
    exact ⟨p, by simpa using h1, mem_hereD.2 ⟨k, h2, h3, h4⟩⟩
theorem occTo_rises (fold : Bool) (wss : List (List Int)) (frm : Int) (text : List Int) : ∀ n, (occTo fold wss frm text n).Pairwise (fun a b => lessH wss a b = true)
  | 0 => by simp [occTo]
  | n + 1 => by
    rw [occTo_succ, List.pairwise_append]
    refine ⟨occTo_rises fold wss frm text n, hereD_rises _ _ _ _ _ _, fun a ha b hb => ?_⟩
    obtain ⟨p, k, h1, h2, h3, rfl⟩ := mem_occTo.1 ha
    obtain ⟨j, g1, g2, rfl⟩ := mem_hereD.1 hb
    exact lessH_iff.2 (.inl (by dsimp only; omega))
/-- All hits, place by place, word by word. -/
def rawTo (fold : Bool) (wss : List (List Int)) (text : List Int) (n : Nat) : List (Nat × Nat) := (List.range n).flatMap fun place => ((List.range wss.length).filter fun k => stands fold wss text place k).map fun k => (place, k)
theorem mem_rawTo {fold : Bool} {wss : List (List Int)} {text : List Int} {n : Nat} {q : Nat × Nat} : q ∈ rawTo fold wss text n ↔ q.1 < n ∧ q.2 < wss.length ∧ stands fold wss text q.1 q.2 = true := by
  unfold rawTo
  rw [List.mem_flatMap]
  constructor
  · rintro ⟨p, hp, hm⟩
    rw [List.mem_map] at hm
    obtain ⟨k, hk, rfl⟩ := hm
    rw [List.mem_filter] at hk
    exact ⟨by simpa using hp, by simpa using hk.1, hk.2⟩
  · rintro ⟨h1, h2, h3⟩
    refine ⟨q.1, by simpa using h1, ?_⟩
    rw [List.mem_map]
    exact ⟨q.2, List.mem_filter.2 ⟨by simpa using h2, h3⟩, rfl⟩
/-- What rises and has just what stands is all hits. -/
theorem occ_unique {fold : Bool} {wss : List (List Int)} {frm : Int} {text : List Int} {l : List HitP} (h1 : l.Perm ((rawTo fold wss text (text.length + 1)).map fun q => (frm + (q.1 : Int), (q.2 : Int)))) (h2 : l.Pairwise (fun a b => lessH wss a b = true)) : l = occD fold wss frm text := by
  refine rise_unique h2 (occTo_rises _ _ _ _ _) fun x => ?_
  rw [h1.mem_iff, List.mem_map]
  unfold occD
  rw [mem_occTo]
  constructor
  · rintro ⟨q, hq, rfl⟩
    obtain ⟨g1, g2, g3⟩ := mem_rawTo.1 hq
    exact ⟨q.1, q.2, g1, g2, g3, rfl⟩
  · rintro ⟨p, k, g1, g2, g3, rfl⟩
    exact ⟨(p, k), mem_rawTo.2 ⟨g1, g2, g3⟩, rfl⟩

/-- Hits between two places. -/
def betwH (low high : Int) (l : List HitP) : List HitP := l.filter fun h => decide (low < h.1) && decide (h.1 ≤ high)
theorem betwH_snoc (low high : Int) (l : List HitP) (x : HitP) : betwH low high (l ++ [x]) = if low < x.1 ∧ x.1 ≤ high then betwH low high l ++ [x] else betwH low high l := by
  unfold betwH
  rw [List.filter_append]
  by_cases h : low < x.1 ∧ x.1 ≤ high
  · simp [h]
  · rw [if_neg h]
    have : (decide (low < x.1) && decide (x.1 ≤ high)) = false := by simp; omega
    simp [this]
/-- A hit stands in a text. -/
def standsH (fold : Bool) (wss : List (List Int)) (frm : Int) (text : List Int) (h : HitP) : Bool :=
  decide (0 ≤ h.2 ∧ h.2 < wss.length ∧ frm ≤ h.1 ∧ h.1 - frm ≤ text.length) && stands fold wss text (h.1 - frm).toNat h.2.toNat

end Go.Proofs.Ytmpmjkbjnklgfaa

/- Which of two hits comes ahead (layer 6), walked. -/



namespace Go.Proofs.Ytmpmjkbjnklgfaa
open Go.RowKit Go.Sort
set_option linter.unusedVariables false

theorem compare_any (x y : Int) (w : World) :
    Calls Try.prog 110 #[.int .i64 x, .int .i64 y] w fun e w' => e = .returned (.int .i64 (cmpI x y)) ∧ w = w' := by
  by_cases h1 : x < y
  · have hE : Hid (cmpI x y = -1) := by simp [Hid, cmpI, h1]
    go_enter Try.func110, Try.ntmps110
    go_wp2
    go_ret
    exact ⟨by rw [hE.out]; rfl, rfl⟩
  · by_cases h2 : y < x
    · have hE : Hid (cmpI x y = 1) := by simp [Hid, cmpI, h1, h2]
      go_enter Try.func110, Try.ntmps110
      go_wp2
      go_ret
      exact ⟨by rw [hE.out]; rfl, rfl⟩
    · have hE : Hid (cmpI x y = 0) := by simp [Hid, cmpI, h1, h2]
      go_enter Try.func110, Try.ntmps110
      go_wp2
      go_ret
      exact ⟨by rw [hE.out]; rfl, rfl⟩

def orL (zs : List Int) : Int := (zs.find? (fun z => z != 0)).getD 0
theorem orL_hit {pre rest : List Int} {z : Int} (h : ∀ x ∈ pre, x = 0) (hz : z ≠ 0) : orL (pre ++ z :: rest) = z := by
  unfold orL
  rw [List.find?_append, List.find?_eq_none.2 (fun x hx => by simp [h x hx])]
  simp [hz]
theorem orL_none {zs : List Int} (h : ∀ x ∈ zs, x = 0) : orL zs = 0 := by
  unfold orL
  rw [List.find?_eq_none.2 (fun x hx => by simp [h x hx])]
  rfl
theorem orL3 (x y z : Int) : orL [x, y, z] = orI x y z := by
  unfold orL orI
  by_cases h1 : x = 0
  · by_cases h2 : y = 0
    · by_cases h3 : z = 0 <;> simp [h1, h2, h3]
    · simp [h1, h2]
  · simp [h1]

set_option maxHeartbeats 1000000 in
theorem or_any (a : Option Addr) (la ca : Nat) (zs : List Int) (w : World) (hA : Sl1 (Value.int .i64) w a la zs) (hla : la ≤ 1000000) :
    Calls Try.prog 109 #[.slice a la ca] w fun e w' => e = .returned (.int .i64 (orL zs)) ∧ w = w' := by
  obtain ⟨hl, hm⟩ := hA
  have HL := Lib.hid hl
  clear hl
  go_enter Try.func109, Try.ntmps109
  go_wp2
  go_loop [8] (fun i => ∃ k : Nat, k ≤ la ∧ i = .int .i64 k ∧ Hid (∀ x ∈ zs.take k, x = 0)) (fun i => la - (intOf i).toNat)
  case atStart => exact ⟨0, Nat.zero_le _, rfl, fun x hx => by simp at hx⟩
  case round =>
    obtain ⟨k, hk, rfl, HK⟩ := hrel
    by_cases hlt : k < la
    · obtain ⟨b, off, rfl, hb, hc⟩ := hm.resolve_left (by omega)
      obtain ⟨z, hz⟩ : ∃ z, zs[k]? = some z := ⟨zs[k]'(by rw [HL.out]; exact hlt), by simp⟩
      have hcell : w.cell? ⟨b, off + k, none⟩ = some (.int .i64 z) := hc k z hz
      have HZ := Lib.hid hz
      clear hz hc hm
      by_cases h0 : z = 0
      · subst h0
        have HS : Hid (∀ x ∈ zs.take (k + 1), x = 0) := by
          rw [take_step HZ.out]
          intro x hx
          rcases List.mem_append.1 hx with hx | hx
          · exact HK.out x hx
          · simpa using hx
        go_wp2
        go_round
        case rel => exact ⟨k + 1, by omega, by go_num, HS⟩
        case measure => simp [intOf]; omega
      · have HS : Hid (orL zs = z) := by
          have h := orL_hit (rest := zs.drop (k + 1)) HK.out h0
          rwa [← split_at HZ.out] at h
        have hne : (z != 0) = true := by simp [h0]
        clear h0
        go_wp2
        go_ret
        exact ⟨by rw [HS.out]; rfl, rfl⟩
    · obtain rfl : k = la := by omega
      have HS : Hid (orL zs = 0) := by
        have h := HK.out
        rw [List.take_of_length_le (by rw [HL.out]; exact Nat.le_refl _)] at h
        exact orL_none h
      go_wp2
      go_ret
      exact ⟨by rw [HS.out]; rfl, rfl⟩

set_option maxHeartbeats 1000000 in
theorem glen_any (b : Nat) (k : Int) (a : Option Addr) (la ca : Nat) (wss : List (List Int)) (w : World) (hg : w.cell? ⟨b, 1, none⟩ = some (.slice a la ca)) (hA : Wds w a la wss) (hla : la ≤ 1000000) :
    Calls Try.prog 111 #[.pointer (some ⟨b, 0, none⟩), .int .i64 k] w fun e w' => e = .returned (.int .i64 (lenW wss k)) ∧ w = w' := by
  have HL := Lib.hid hA.len
  by_cases h0 : 0 ≤ k
  · by_cases h1 : k < la
    · obtain ⟨n, rfl⟩ : ∃ n : Nat, k = n := ⟨k.toNat, by omega⟩
      obtain ⟨bb, off, a', l, c, x, rfl, hbl, hcell, hx, hX, hlc⟩ := hA.at_ (show n < la by omega)
      have hE : Hid (lenW wss n = l) := by
        unfold Hid lenW
        rw [if_pos ⟨h0, by rw [HL.out]; exact h1⟩, Int.toNat_natCast, hx, Option.getD_some, hX.len]
      clear hx hX hA
      go_enter Try.func111, Try.ntmps111
      go_wp2
      go_ret
      exact ⟨by rw [hE.out]; rfl, rfl⟩
    · have hE : Hid (lenW wss k = 0) := by
        unfold Hid lenW
        rw [if_neg (by rw [HL.out]; omega)]
      go_enter Try.func111, Try.ntmps111
      go_wp2
      go_ret
      exact ⟨by rw [hE.out]; rfl, rfl⟩
  · have hE : Hid (lenW wss k = 0) := by
      unfold Hid lenW
      rw [if_neg (by omega)]
    go_enter Try.func111, Try.ntmps111
    go_wp2
    go_ret
    exact ⟨by rw [hE.out]; rfl, rfl⟩

/-- Draws and blocks. -/
theorem grow_drew3 (w : World) (A B C : Obj) (n : Nat) : ∃ q os, (((w.alloc A).alloc B).drewN n).alloc C = grow (w.drewN q) os :=
  ⟨n, #[A] ++ #[B] ++ #[C], by
    show ({ heap := ((w.heap.push A).push B).push C, tape := w.tape, drawn := w.drawn + n, os := w.os, output := w.output } : World) = grow (w.drewN n) _
    simp only [grow, World.drewN]
    congr 1⟩
theorem below_grew {w w' : World} (h : ∃ q os, w' = grow (w.drewN q) os) : Below w.heap.size w w' := by
  obtain ⟨q, os, rfl⟩ := h
  exact below_regrown w (w.drawn + q) os

theorem Sl1.lay {α : Type} (enc : α → Value) (w : World) (zs : List α) (t : TypeId) (n : Nat) (h : w.heap.size = n) : Sl1 enc (w.alloc (.cells (zs.map enc).toArray t)) (some ⟨n, 0, none⟩) zs.length zs := by
  subst h
  refine ⟨rfl, .inr ⟨w.heap.size, 0, rfl, by simp, fun i x hx => ?_⟩⟩
  have hn := World.alloc_heap_new w (.cells (zs.map enc).toArray t)
  unfold World.cell?
  dsimp only
  rw [hn]
  simp [hx]

set_option maxHeartbeats 2000000 in
theorem order_any (b : Nat) (x y : HitP) (a : Option Addr) (la ca : Nat) (wss : List (List Int)) (w : World) (hb : b < w.heap.size) (hg : w.cell? ⟨b, 1, none⟩ = some (.slice a la ca)) (hA : Wds w a la wss) (hla : la ≤ 1000000) :
    Calls Try.prog 73 #[.pointer (some ⟨b, 0, none⟩), .agg #[.int .i64 x.1, .int .i64 x.2], .agg #[.int .i64 y.1, .int .i64 y.2]] w fun e w' => e = .returned (.int .i64 (ordH wss x y)) ∧ ∃ q os, w' = grow (w.drewN q) os := by
  have HE : Hid (ordH wss x y = orL [cmpI x.1 y.1, cmpI (lenW wss y.2) (lenW wss x.2), cmpI x.2 y.2]) := (orL3 _ _ _).symm
  have hB2 : Below w.heap.size w ((w.alloc (.cells #[.int .i64 x.1, .int .i64 x.2] 43)).alloc (.cells #[.int .i64 y.1, .int .i64 y.2] 43)) := ((Below.refl _ _).alloc (Nat.le_refl _) _).alloc (by simp) _
  have hg2 : ∀ n, (((w.alloc (.cells #[.int .i64 x.1, .int .i64 x.2] 43)).alloc (.cells #[.int .i64 y.1, .int .i64 y.2] 43)).drewN n).cell? ⟨b, 1, none⟩ = some (.slice a la ca) := fun n => (hB2.cell (p := ⟨b, 1, none⟩) hb).trans hg
  have hA2 : ∀ n, Wds (((w.alloc (.cells #[.int .i64 x.1, .int .i64 x.2] 43)).alloc (.cells #[.int .i64 y.1, .int .i64 y.2] 43)).drewN n) a la wss := fun n => (hA.below hB2).below ⟨rfl, rfl, rfl, Nat.le_refl _, fun _ _ => rfl⟩
  go_enter Try.func73, Try.ntmps73
  go_wp2
  refine region_drawn_tail 19 mixed (by kernel_rfl) ?_
  dsimp only [List.take_succ_cons, List.take_zero, List.drop_succ_cons, List.drop_zero]
  repeat (go_big_quiet_step (first | exact drawn_same (compare_any _ _ _) | exact drawn_same (glen_any b _ a la ca wss _ (hg2 _) (hA2 _) hla)))
  refine wpQuiet_nil ?_
  rintro _ ⟨nq, rfl⟩
  go_wp2_with fail
  refine (or_any _ _ _ [cmpI x.1 y.1, cmpI (lenW wss y.2) (lenW wss x.2), cmpI x.2 y.2] _ (Sl1.lay _ _ [cmpI x.1 y.1, cmpI (lenW wss y.2) (lenW wss x.2), cmpI x.2 y.2] _ _ (by simp)) (by simp)).mono ?_
  rintro e w3 ⟨rfl, rfl⟩
  go_wp2
  go_ret
  exact ⟨by rw [HE.out]; rfl, grow_drew3 _ _ _ _ _⟩

theorem orderB_any (b : Nat) (x y : HitP) (a : Option Addr) (la ca : Nat) (wss : List (List Int)) (w : World) (hb : b < w.heap.size) (hg : w.cell? ⟨b, 1, none⟩ = some (.slice a la ca)) (hA : Wds w a la wss) (hla : la ≤ 1000000) :
    Calls Try.prog 73 #[.pointer (some ⟨b, 0, none⟩), .agg #[.int .i64 x.1, .int .i64 x.2], .agg #[.int .i64 y.1, .int .i64 y.2]] w fun e w' => e = .returned (.int .i64 (ordH wss x y)) ∧ Below w.heap.size w w' :=
  (order_any b x y a la ca wss w hb hg hA hla).mono fun _ _ ⟨h1, h2⟩ => ⟨h1, below_grew h2⟩
end Go.Proofs.Ytmpmjkbjnklgfaa

/- Texts folded and copied (layers 3 and 5, and the document's functions), walked. -/





namespace Go.Proofs.Ytmpmjkbjnklgfaa
open Go.RowKit Go.Sort
set_option linter.unusedVariables false

/-- A row of bytes that the call made. -/
abbrev OwnB (w : World) (base : Nat) (v : Value) (n : Nat) (xs : List Int) : Prop := w.ownsRow base 5 1 v n (xs.map (Value.int .u8))
theorem u8_info : (Try.prog.info? 5).map (fun i => (i.zero, i.size, i.bytes)) = some (some (.int .u8 0), 1, 1) := by kernel_rfl
theorem own_sl1 {α : Type} {enc : α → Value} {w : World} {base n : Nat} {e : TypeId} {v : Value} {xs : List α} (h : w.ownsRow base e 1 v n (xs.map enc)) : ∃ a c, v = .slice a n c ∧ n ≤ c ∧ Sl1 enc w a n xs := by
  have hl : xs.length = n := by have := h.1; simpa using this
  rcases h.2 with ⟨rfl, rfl⟩ | ⟨g, cap, cur, rfl, hg, hh, hn, _, _, hc⟩
  · exact ⟨none, 0, rfl, Nat.le_refl _, hl, .inl rfl⟩
  · refine ⟨_, cap, rfl, hn, hl, .inr ⟨g, 0, rfl, (Array.getElem?_eq_some_iff.1 hh).1, fun i x hx => ?_⟩⟩
    have := h.cells (g := g) rfl i (enc x) (by simp [hx])
    rwa [add_plain] at this
theorem own_bys {w : World} {base n : Nat} {v : Value} {xs : List Int} (h : OwnB w base v n xs) (hb : ∀ x ∈ xs, 0 ≤ x ∧ x ≤ 255) : ∃ a c, v = .slice a n c ∧ n ≤ c ∧ Bys w a n xs := by
  obtain ⟨a, c, e, hc, h1⟩ := own_sl1 h
  exact ⟨a, c, e, hc, h1, hb⟩
theorem below_append {w wr w1 : World} {o : Obj} {base n size : Nat} {e : TypeId} {v : Value} {xs : List Value} (hB : Below w.heap.size w wr) (hown : wr.ownsRow w.heap.size e size v n xs) (hg : (wr.alloc o).grownBy w1 v.ownBlock) : Below w.heap.size w w1 :=
  (hB.alloc hB.size o).grown hg (by simp; have := hB.size; omega) (fun k hk => (hown.lt k hk).1)

theorem Sl1.news {α : Type} {enc : α → Value} {w : World} {ad : Addr} {m : Nat} {ys : List α} (h : Sl1 enc w (some ad) m ys) : ∀ j u, (ys.map enc)[j]? = some u → w.cell? (ad.add j) = some u := by
  intro j u hu
  rw [List.getElem?_map, Option.map_eq_some_iff] at hu
  obtain ⟨y, hy, rfl⟩ := hu
  obtain ⟨h1, h2⟩ := h
  have hj := (List.getElem?_eq_some_iff.1 hy).1
  obtain ⟨b, off, e, hlt, hc⟩ := h2.resolve_left (by omega)
  obtain rfl := Option.some.inj e
  rw [add_plain]
  exact hc j y hy

/-- append of a slice that came in, nil or not, onto a row of the call's own: the run. -/
theorem run_append_sl1 {P : Program} {α : Type} {enc : α → Value} (hone : ∀ x, (enc x).oneCell' = true) (w : World) (base : Nat) (t ty e : TypeId) (i : TypeInfo) (z : Value) (bytes : Nat) (ht : P.underlying t = some (.slice e)) (hi : P.info? e = some i) (hz : i.zero = some z)
    (hsize : i.size = 1) (hby : i.bytes = bytes) (hzs : z.cells.size = 1) (v : Value) (n : Nat) (xs : List Value) (hown : w.ownsRow base e 1 v n xs)
    (A : Option Addr) (m c : Nat) (ys : List α) (hs : Sl1 enc w A m ys) (h63 : n + m ≤ maxLen) (hbytes : (n + m) * bytes ≤ 140737488355328) (hbase : base ≤ w.heap.size) :
    ∃ v' w', (Builtin.append_ #[t, t] ty #[v, .slice A m c]).run P w = .ok v' w' ∧ w'.ownsRow base e 1 v' (n + m) (xs ++ ys.map enc) ∧ w.grownBy w' v.ownBlock ∧
      (v'.ownBlock = v.ownBlock ∨ v'.ownBlock = some w.heap.size) := by
  cases A with
  | some ad =>
    obtain ⟨v', w', hr, h2, h3, _, h5⟩ := run_append_own_at (P := P) w base t ty e i z 1 bytes ht hi hz hsize hby hzs (by decide) v n xs hown ad m c (ys.map enc) (by simp [hs.1]) hs.news (by intro u hu; obtain ⟨y, _, rfl⟩ := List.mem_map.1 hu; exact hone y) h63 hbytes hbase
    exact ⟨v', w', hr, h2, h3, h5⟩
  | none =>
    have hm : m = 0 := hs.2.elim id fun ⟨b, off, e, _⟩ => by cases e
    subst hm
    have hy : ys = [] := List.eq_nil_of_length_eq_zero hs.1
    subst hy
    refine ⟨v, w, ?_, by simpa using hown, World.grownBy.refl w _, .inl rfl⟩
    rcases hown.2 with ⟨rfl, rfl⟩ | ⟨g, cap, cur, rfl, _, _, hnc, _⟩
    · simp [Builtin.append_, run_underlying ht, sizeOf, typeInfo, hi, Builtin.lenOf, Builtin.firstCells]
    · simp [Builtin.append_, run_underlying ht, sizeOf, typeInfo, hi, Builtin.lenOf, Builtin.firstCells, hnc, storeCells]

theorem wpList_append_sl1 {P : Program} {w : World} {ops : Array Oper} {rest : List Oper} {o : Oper} {a : Act} {Q : Exit → Act → World → Prop} (hgd : o.guard = none) (s x : Operand) (t : TypeId)
    (ho : o.op = .call { callee := .builtin .append, args := #[s, x], argTypes := #[t, t] }) {α : Type} {enc : α → Value} (hone : ∀ x, (enc x).oneCell' = true)
    (base : Nat) (e : TypeId) (i : TypeInfo) (z : Value) (bytes : Nat) (ht : P.underlying t = some (.slice e)) (hi : P.info? e = some i) (hz : i.zero = some z) (hsize : i.size = 1) (hby : i.bytes = bytes) (hzs : z.cells.size = 1)
    (v : Value) (n : Nat) (xs : List Value) (hs : a.eval s = v) (hown : w.ownsRow base e 1 v n xs) (A : Option Addr) (m c : Nat) (ys : List α) (hx : a.eval x = .slice A m c) (hsl : Sl1 enc w A m ys)
    (h63 : n + m ≤ maxLen) (hbytes : (n + m) * bytes ≤ 140737488355328) (hbase : base ≤ w.heap.size)
    (h : ∀ v' w', w'.ownsRow base e 1 v' (n + m) (xs ++ ys.map enc) → w.grownBy w' v.ownBlock → (v'.ownBlock = v.ownBlock ∨ v'.ownBlock = some w.heap.size) → wpList P ops Q rest (a.put o.dst v') w') : wpList P ops Q (o :: rest) a w := by
  refine wpList_plain hgd fun K hK => ?_
  obtain ⟨v', w', hr, h2, h3, h4⟩ := run_append_sl1 (P := P) hone w base t o.type e i z bytes ht hi hz hsize hby hzs v n xs hown A m c ys hsl h63 hbytes hbase
  unfold Oper.wp execOp
  simp only [ho, resolve, invoke, builtin, Sem.run_bind, Sem.run_pure, Result.andThen_ok, List.map_toArray, List.map_cons, List.map_nil, hs, hx, hr]
  exact hK _ _ (h v' w' h2 h3 h4)

set_option maxRecDepth 100000 in
set_option maxHeartbeats 1000000 in
theorem rfolded_any (a : Option Addr) (la ca : Nat) (xs : List Int) (w : World) (hA : Bys w a la xs) (hla : la ≤ 1000000) :
    Calls Try.prog 115 #[.slice a la ca] w fun e w' => ∃ v, e = .returned v ∧ OwnB w' w.heap.size v la (xs.map foldI) ∧ Below w.heap.size w w' := by
  obtain ⟨i0, hi, hz0, hz1, hz2⟩ := info_parts u8_info
  have HL := Lib.hid hA.len
  go_enter Try.func115, Try.ntmps115
  go_wp2
  go_loopw [3, 4] (fun o i wr => ∃ k : Nat, k ≤ la ∧ i = .int .i64 k ∧ OwnB wr w.heap.size o k ((xs.take k).map foldI) ∧ Below w.heap.size w wr) (fun _ i _ => la - (intOf i).toNat)
  case atStart => exact ⟨0, Nat.zero_le _, rfl, World.ownsRow_nil _ _ _ _, Below.refl _ _⟩
  case round =>
    obtain ⟨k, hk, rfl, hown, hBe⟩ := hrel
    by_cases hlt : k < la
    · obtain ⟨x, hx⟩ : ∃ x, xs[k]? = some x := ⟨xs[k]'(by rw [HL.out]; exact hlt), by simp⟩
      have hAr := hA.below hBe
      have hbx := hAr.2 x (List.mem_of_getElem? hx)
      obtain ⟨b, off, rfl, hbl, hc⟩ := hAr.1.2.resolve_left (by omega)
      have hcell := hc k x hx
      have htk := Lib.hid (take_step hx)
      clear hc hx
      go_wp2_with (first
        | (go_at_call 150; refine (rfold_any _ _ (by omega) (by omega)).mono ?_; rintro e w' ⟨rfl, rfl⟩)
        | (at_builtin
           refine wpList_append_own_at _ rfl _ _ 40 rfl w.heap.size 5 i0 (.int .u8 0) 1 1 Try.underlying40 hi hz0 hz1 hz2 rfl (by decide) _ _ _ rfl (hown.alloc _) ⟨wr.heap.size, 0, none⟩ 1 1 [.int .u8 (foldI x)] rfl rfl (cell_one_new _ _ _) (by simp [Value.oneCell']) (by unfold maxLen; omega) (by omega) (by have := hBe.size; simp; omega) ?_
           intro v' w5 hown' hgrow hnil hat))
      have hB5 := below_append (base := w.heap.size) hBe hown hgrow
      go_roundw
      case rel => exact ⟨k + 1, by omega, by go_num, by unfold OwnB; rw [htk.out, List.map_append, List.map_append]; exact hown', hB5⟩
      case measure => simp [intOf]; omega
    · obtain rfl : k = la := by omega
      go_wp2
      go_ret
      refine ⟨_, rfl, ?_, hBe⟩
      have h := hown
      rw [List.take_of_length_le (by rw [HL.out]; exact Nat.le_refl _)] at h
      exact h

set_option maxRecDepth 100000 in
set_option maxHeartbeats 1000000 in
theorem folded_l_any (a : Option Addr) (la ca : Nat) (xs : List Int) (w : World) (hA : Bys w a la xs) (hla : la ≤ 1000000) :
    Calls Try.prog 172 #[.slice a la ca] w fun e w' => ∃ v, e = .returned v ∧ OwnB w' w.heap.size v la (xs.map foldI) ∧ Below w.heap.size w w' := by
  obtain ⟨i0, hi, hz0, hz1, hz2⟩ := info_parts u8_info
  have HL := Lib.hid hA.len
  go_enter Try.func172, Try.ntmps172
  go_wp2
  go_loopw [3, 8] (fun o i wr => ∃ k : Nat, k ≤ la ∧ i = .int .i64 k ∧ OwnB wr w.heap.size o k ((xs.take k).map foldI) ∧ Below w.heap.size w wr) (fun _ i _ => la - (intOf i).toNat)
  case atStart => exact ⟨0, Nat.zero_le _, rfl, World.ownsRow_nil _ _ _ _, Below.refl _ _⟩
  case round =>
    obtain ⟨k, hk, rfl, hown, hBe⟩ := hrel
    by_cases hlt : k < la
    · obtain ⟨x, hx⟩ : ∃ x, xs[k]? = some x := ⟨xs[k]'(by rw [HL.out]; exact hlt), by simp⟩
      have hAr := hA.below hBe
      have hbx := hAr.2 x (List.mem_of_getElem? hx)
      obtain ⟨b, off, rfl, hbl, hc⟩ := hAr.1.2.resolve_left (by omega)
      have hcell := hc k x hx
      have htk := Lib.hid (take_step hx)
      clear hc hx
      go_wp2_with (first
        | (go_at_call 194; refine (fold_any _ _ (by omega) (by omega)).mono ?_; rintro e w' ⟨rfl, rfl⟩)
        | (at_builtin
           refine wpList_append_own_at _ rfl _ _ 40 rfl w.heap.size 5 i0 (.int .u8 0) 1 1 Try.underlying40 hi hz0 hz1 hz2 rfl (by decide) _ _ _ rfl (hown.alloc _) ⟨wr.heap.size, 0, none⟩ 1 1 [.int .u8 (foldI x)] rfl rfl (cell_one_new _ _ _) (by simp [Value.oneCell']) (by unfold maxLen; omega) (by omega) (by have := hBe.size; simp; omega) ?_
           intro v' w5 hown' hgrow hnil hat))
      have hB5 := below_append (base := w.heap.size) hBe hown hgrow
      go_roundw
      case rel => exact ⟨k + 1, by omega, by go_num, by unfold OwnB; rw [htk.out, List.map_append, List.map_append]; exact hown', hB5⟩
      case measure => simp [intOf]; omega
    · obtain rfl : k = la := by omega
      go_wp2
      go_ret
      refine ⟨_, rfl, ?_, hBe⟩
      have h := hown
      rw [List.take_of_length_le (by rw [HL.out]; exact Nat.le_refl _)] at h
      exact h

theorem u8_one (x : Int) : (Value.int .u8 x).oneCell' = true := rfl

set_option maxHeartbeats 1000000 in
theorem copied_any (fold : Bool) (a : Option Addr) (la ca : Nat) (xs : List Int) (w : World) (hA : Bys w a la xs) (hla : la ≤ 1000000) :
    Calls Try.prog 153 #[.bool fold, .slice a la ca] w fun e w' => ∃ v, e = .returned v ∧ OwnB w' w.heap.size v la (foldL fold xs) ∧ Below w.heap.size w w' := by
  obtain ⟨i0, hi, hz0, hz1, hz2⟩ := info_parts u8_info
  cases fold
  · go_enter Try.func153, Try.ntmps153
    go_wp2_with (at_builtin; refine wpList_append_sl1 rfl _ _ 40 rfl u8_one w.heap.size 5 i0 (.int .u8 0) 1 Try.underlying40 hi hz0 hz1 hz2 rfl _ 0 [] rfl (World.ownsRow_nil _ _ _ _) a la ca xs rfl hA.1 (by unfold maxLen; omega) (by omega) (Nat.le_refl _) ?_; intro v' w5 hown' hgrow hat)
    go_ret
    refine ⟨_, rfl, ?_, (Below.refl _ _).grown hgrow (Nat.le_refl _) (fun k e => by cases e)⟩
    simpa [foldL, OwnB] using hown'
  · go_enter Try.func153, Try.ntmps153
    go_wp2_with fail
    refine (folded_l_any a la ca xs w hA hla).mono ?_
    rintro e w1 ⟨v, rfl, hown, hb⟩
    go_wp2
    go_ret
    exact ⟨_, rfl, hown, hb⟩

set_option maxHeartbeats 1000000 in
theorem text_any (fold : Bool) (a : Option Addr) (la ca : Nat) (xs : List Int) (w : World) (hA : Bys w a la xs) (hla : la ≤ 1000000) :
    Calls Try.prog 89 #[.bool fold, .slice a la ca] w fun e w' => ∃ v, e = .returned v ∧ OwnB w' w.heap.size v la (foldL fold xs) ∧ Below w.heap.size w w' := by
  obtain ⟨i0, hi, hz0, hz1, hz2⟩ := info_parts u8_info
  cases fold
  · have hA1 := hA.below ((Below.refl _ _).alloc (Nat.le_refl _) (.cells #[] 5))
    have hown0 : OwnB (w.alloc (.cells #[] 5)) w.heap.size (.slice (some ⟨w.heap.size, 0, none⟩) 0 0) 0 [] := World.ownsRow_lit w #[] 0 (Nat.le_refl _) (Nat.zero_le _) rfl
    go_enter Try.func89, Try.ntmps89
    go_wp2_with (at_builtin; refine wpList_append_sl1 rfl _ _ 40 rfl u8_one w.heap.size 5 i0 (.int .u8 0) 1 Try.underlying40 hi hz0 hz1 hz2 rfl _ 0 [] rfl hown0 a la ca xs rfl hA1.1 (by unfold maxLen; omega) (by omega) (by simp) ?_; intro v' w5 hown' hgrow hat)
    go_ret
    refine ⟨_, rfl, ?_, ((Below.refl _ _).alloc (Nat.le_refl _) _).grown hgrow (by simp) (fun k e => by cases e; exact Nat.le_refl _)⟩
    simpa [foldL, OwnB] using hown'
  · go_enter Try.func89, Try.ntmps89
    go_wp2_with fail
    refine (rfolded_any a la ca xs w hA hla).mono ?_
    rintro e w1 ⟨v, rfl, hown, hb⟩
    go_wp2
    go_ret
    exact ⟨_, rfl, hown, hb⟩

end Go.Proofs.Ytmpmjkbjnklgfaa

/- The document's functions of layer 3: texts that are the same, where they stand, which of them. -/




namespace Go.Proofs.Ytmpmjkbjnklgfaa
open Go.RowKit Go.Sort
set_option linter.unusedVariables false

theorem strOfNums_inj {xs ys : List Int} (hx : ∀ x ∈ xs, 0 ≤ x ∧ x ≤ 255) (hy : ∀ x ∈ ys, 0 ≤ x ∧ x ≤ 255) (h1 : (strOfNums xs).data.toList = (strOfNums ys).data.toList) : xs = ys := by
  simp only [strOfNums_data] at h1
  have h2 := congrArg (List.map fun b : UInt8 => (b.toNat : Int)) h1
  simp only [List.map_map] at h2
  have f : ∀ l : List Int, (∀ x ∈ l, 0 ≤ x ∧ x ≤ 255) → l.map ((fun b : UInt8 => (b.toNat : Int)) ∘ fun n => UInt8.ofNat n.toNat) = l := by
    intro l hl
    conv => rhs; rw [← List.map_id l]
    refine List.map_congr_left fun x hxl => ?_
    have := hl x hxl
    simp
    omega
  rwa [f xs hx, f ys hy] at h2
theorem conv_bys {w : World} {a : Option Addr} {len : Nat} {xs : List Int} (h : Bys w a len xs) (cap : Nat) :
    Sem.run Try.prog (convert 40 9 (.slice a len cap)) w = .ok (.string (strOfNums xs)) w := by
  obtain ⟨⟨h1, h2⟩, hb⟩ := h
  by_cases h0 : len = 0
  · subst h0
    have hx : xs = [] := List.eq_nil_of_length_eq_zero h1
    subst hx
    cases a with
    | none => exact run_convert_bytes_nil w _ _ Try.underlying40 Try.underlying5 0 cap _ Try.underlying9
    | some ad =>
      rw [run_convert_bytes_string w 40 9 _ _ 0 cap Try.underlying40 Try.underlying5 Try.underlying9]
      have hl : (loadCells ad 0).run Try.prog w = .ok (([] : List Int).map (Value.int .u8)).toArray w := by
        simpa using run_loadCells_list (P := Try.prog) w ad [] (fun j v hj => by simp at hj)
      rw [run_bytesToString w ad 0 cap [] hl]
      rfl
  · obtain ⟨b, off, rfl, hlt, hc⟩ := h2.resolve_left h0
    refine run_convert_bytes_arg w _ _ Try.underlying40 Try.underlying5 b off len cap xs h1 (fun i hi => ?_) _ Try.underlying9
    rw [hc i (xs[i]'(by omega)) (List.getElem?_eq_getElem _)]
    simp [List.getD, List.getElem?_eq_getElem (show i < xs.length by omega)]

theorem str_beq {xs ys : List Int} (hx : ∀ x ∈ xs, 0 ≤ x ∧ x ≤ 255) (hy : ∀ x ∈ ys, 0 ≤ x ∧ x ≤ 255) : ((strOfNums xs).toList == (strOfNums ys).toList) = decide (xs = ys) := by
  by_cases h : xs = ys
  · subst h; simp
  · have : (strOfNums xs).toList ≠ (strOfNums ys).toList := fun e => h (strOfNums_inj hx hy (by rwa [ByteArray.toList_eq, ByteArray.toList_eq] at e))
    simp [h, this]

theorem rfolded_c (a : Option Addr) (la ca : Nat) (xs : List Int) (w : World) (hA : Bys w a la xs) (hla : la ≤ 1000000) :
    Calls Try.prog 115 #[.slice a la ca] w fun e w' => ∃ a1 c1, e = .returned (.slice a1 la c1) ∧ Bys w' a1 la (xs.map foldI) ∧ Below w.heap.size w w' :=
  (rfolded_any a la ca xs w hA hla).mono fun e w' ⟨v, he, hown, hb⟩ => by
    obtain ⟨a1, c1, rfl, _, h⟩ := own_bys hown (fun x hx => by obtain ⟨y, hy, rfl⟩ := List.mem_map.1 hx; exact foldI_bd (hA.2 y hy))
    exact ⟨a1, c1, he, h, hb⟩

set_option maxRecDepth 100000 in
set_option maxHeartbeats 300000 in
theorem rsame_any (fold : Bool) (a b : Option Addr) (la ca lb cb : Nat) (xs ys : List Int) (w : World) (hA : Bys w a la xs) (hB : Bys w b lb ys) (hla : la ≤ 1000000) (hlb : lb ≤ 1000000) :
    Calls Try.prog 79 #[.bool fold, .slice a la ca, .slice b lb cb] w fun e w' => e = .returned (.bool (sameL fold xs ys)) ∧ Below w.heap.size w w' := by
  cases fold
  · have c1 := conv_bys hA
    have c2 := conv_bys hB
    go_enter Try.func79, Try.ntmps79
    go_wp2
    go_ret
    exact ⟨by simp [sameL, foldL, str_beq hA.2 hB.2], Below.refl _ _⟩
  · have hAd : Bys w.drew a la xs := hA
    have hBd : Bys w.drew b lb ys := hB
    go_enter Try.func79, Try.ntmps79
    go_wp2
    go_region_with (first
      | (go_at_call 115; refine (rfolded_c a la ca xs w.drew hAd hla).mono ?_; rintro e w1 ⟨a1, c1, rfl, h12, hb1⟩; have cv0 := conv_bys h12; have hB1 := hBd.below hb1; clear hAd)
      | (go_at_call 115; refine (rfolded_c b lb cb ys w1 hB1 hlb).mono ?_; rintro e w2 ⟨a2, c2, rfl, h22, hb2⟩; have cv1 := conv_bys (h12.below hb2); have cv2 := conv_bys h22))
    all_goals
      go_wp2
      go_ret
      have hx : ∀ x ∈ xs.map foldI, 0 ≤ x ∧ x ≤ 255 := fun x hx => by obtain ⟨y, hy, rfl⟩ := List.mem_map.1 hx; exact foldI_bd (hA.2 y hy)
      have hy : ∀ x ∈ ys.map foldI, 0 ≤ x ∧ x ≤ 255 := fun x hx => by obtain ⟨y, hy, rfl⟩ := List.mem_map.1 hx; exact foldI_bd (hB.2 y hy)
      have hbd : Below w.heap.size w w.drew := ⟨rfl, rfl, rfl, Nat.le_refl _, fun _ _ => rfl⟩
      have hbe : Below w.heap.size w w2 := hbd.trans (hb1.trans (hb2.mono hb1.size))
      refine ⟨?_, hbe⟩
      show Ending.returned (.bool ((strOfNums (xs.map foldI)).toList == (strOfNums (ys.map foldI)).toList)) = _
      rw [str_beq hx hy]
      rfl

set_option maxHeartbeats 1000000 in
theorem rat_any (fold : Bool) (a b : Option Addr) (la ca lb cb : Nat) (place : Int) (xs ys : List Int) (w : World) (hA : Bys w a la xs) (hB : Bys w b lb ys) (hca : la ≤ ca) (hla : la ≤ 1000000) (hlb : lb ≤ 1000000) (hp : -9223372036854775808 ≤ place ∧ place ≤ 9223372036854775807) :
    Calls Try.prog 42 #[.bool fold, .slice a la ca, .int .i64 place, .slice b lb cb] w fun e w' => e = .returned (.bool (atL fold xs place ys)) ∧ Below w.heap.size w w' := by
  have hxl := hA.len
  have hyl := hB.len
  by_cases h1 : (lb : Int) ≤ place
  · by_cases h2 : place ≤ (la : Int)
    · obtain ⟨p, rfl⟩ : ∃ p : Nat, place = p := ⟨place.toNat, by omega⟩
      have HE : Hid (atL fold xs p ys = sameL fold ((xs.drop (p - lb)).take (p - (p - lb))) ys) := by
        unfold Hid atL
        rw [hxl, hyl, decide_eq_true ⟨h1, h2⟩, Bool.true_and, Int.toNat_natCast, show p - (p - lb) = lb by omega]
      clear hxl hyl
      go_enter Try.func42, Try.ntmps42
      go_wp2_with fail
      · refine (rsame_any fold _ b _ _ lb cb _ ys w (hA.cut0 (lo := p - lb) (m := p - (p - lb)) (by omega)) hB (by omega) hlb).mono ?_
        rintro e w1 ⟨rfl, hb⟩
        go_wp2
        go_ret
        exact ⟨by rw [HE.out]; rfl, hb⟩
      · refine (rsame_any fold _ b _ _ lb cb _ ys w (hA.cut (lo := p - lb) (m := p - (p - lb)) (by omega)) hB (by omega) hlb).mono ?_
        rintro e w1 ⟨rfl, hb⟩
        go_wp2
        go_ret
        exact ⟨by rw [HE.out]; rfl, hb⟩
    · have HE : Hid (atL fold xs place ys = false) := by
        unfold Hid atL
        rw [hxl, hyl, decide_eq_false (by omega), Bool.false_and]
      clear hxl hyl
      go_enter Try.func42, Try.ntmps42
      go_wp2
      go_ret
      exact ⟨by rw [HE.out]; rfl, Below.refl _ _⟩
  · have HE : Hid (atL fold xs place ys = false) := by
      unfold Hid atL
      rw [hxl, hyl, decide_eq_false (by omega), Bool.false_and]
    clear hxl hyl
    go_enter Try.func42, Try.ntmps42
    go_wp2
    go_ret
    exact ⟨by rw [HE.out]; rfl, Below.refl _ _⟩

set_option maxHeartbeats 1000000 in
theorem rwhich_any (fold : Bool) (a b : Option Addr) (la ca lb cb : Nat) (xs : List Int) (wss : List (List Int)) (w : World) (hA : Bys w a la xs) (hla : la ≤ 1000000) (hB : Wds w b lb wss) (hlb : lb ≤ 1000000) (hM : ∀ x ∈ wss, x.length ≤ 1000000) :
    Calls Try.prog 114 #[.bool fold, .slice a la ca, .slice b lb cb] w fun e w' => e = .returned (.int .i64 (whichL fold xs wss)) ∧ Below w.heap.size w w' := by
  have HL := Lib.hid hB.len
  go_enter Try.func114, Try.ntmps114
  go_wp2
  go_loopw [7] (fun i wr => ∃ k : Nat, k ≤ lb ∧ i = .int .i64 k ∧ Hid (whichL fold xs (wss.take k) = -1) ∧ Below w.heap.size w wr) (fun i _ => lb - (intOf i).toNat)
  case atStart => exact ⟨0, Nat.zero_le _, rfl, by simp [Hid, whichL_nil], Below.refl _ _⟩
  case round =>
    obtain ⟨k, hk, rfl, HK, hBe⟩ := hrel
    have hAr := hA.below hBe
    have hBr := hB.below hBe
    by_cases hlt : k < lb
    · obtain ⟨bb, off, a', l, c, x, rfl, hbl, hcell, hx, hX, hlc⟩ := hBr.at_ hlt
      have hxl : l ≤ 1000000 := by have := mem_bd hM hx; rw [hX.len] at this; exact this
      go_wp2_with fail
      refine (rsame_any fold a a' la ca l c xs x wr hAr hX hla hxl).mono ?_
      rintro e w1 ⟨rfl, hb⟩
      have hB1 : Below w.heap.size w w1 := hBe.trans (hb.mono hBe.size)
      cases e : sameL fold xs x with
      | true =>
        have HH : Hid (whichL fold xs wss = k) := by
          have h := whichL_hit (rest := wss.drop (k + 1)) HK e
          rw [← split_at hx] at h
          rw [Hid, h, List.length_take, HL.out]
          omega
        go_wp2
        go_ret
        exact ⟨by rw [HH.out]; rfl, hB1⟩
      | false =>
        have HH : Hid (whichL fold xs (wss.take (k + 1)) = -1) := by
          rw [take_step hx]
          exact whichL_snoc_no HK e
        go_wp2
        go_roundw
        case rel => exact ⟨k + 1, by omega, by go_num, HH, hB1⟩
        case measure => simp [intOf]; omega
    · obtain rfl : k = lb := by omega
      have HH : Hid (whichL fold xs wss = -1) := by
        have h := HK
        rwa [List.take_of_length_le (by rw [HL.out]; exact Nat.le_refl _)] at h
      go_wp2
      go_ret
      exact ⟨by rw [HH.out]; rfl, hBe⟩

end Go.Proofs.Ytmpmjkbjnklgfaa

/- Plain words of layer 5: the beginnings of words, one byte behind the other; how many there are. -/

namespace Go.Proofs.Ytmpmjkbjnklgfaa
set_option linter.unusedVariables false

/-- A word's bytes, the first one marked. -/
def begW : List Int → List (Bool × Int)
  | [] => []
  | c :: cs => (true, c) :: cs.map (fun c => (false, c))
def begL (fold : Bool) (wss : List (List Int)) : List (Bool × Int) := wss.flatMap fun w => begW (foldL fold w)

theorem begW_length (ys : List Int) : (begW ys).length = ys.length := by cases ys <;> simp [begW]
theorem begW_at {ys : List Int} {i : Nat} {c : Int} (h : ys[i]? = some c) : (begW ys)[i]? = some (((i : Int) == 0), c) := by
  cases ys with
  | nil => simp at h
  | cons y ys =>
    cases i with
    | zero => simp at h; simp [begW, h]
    | succ i =>
      simp at h
      simp [begW, h]
      omega
theorem begL_snoc (fold : Bool) (wss : List (List Int)) (x : List Int) : begL fold (wss ++ [x]) = begL fold wss ++ begW (foldL fold x) := by simp [begL]
theorem begL_take_le (fold : Bool) (wss : List (List Int)) {k : Nat} {x : List Int} (h : wss[k]? = some x) : (begL fold (wss.take k)).length + x.length ≤ (begL fold wss).length := by
  have e := split_at h
  have e2 : begL fold wss = begL fold (wss.take k) ++ (begW (foldL fold x) ++ begL fold (wss.drop (k + 1))) := by
    conv => lhs; rw [e]
    simp [begL]
  rw [e2]
  simp [begW_length, foldL_length]
theorem foldL_at {fold : Bool} {xs : List Int} {i : Nat} {c : Int} (h : xs[i]? = some c) : (foldL fold xs)[i]? = some (if fold then foldI c else c) := by
  rw [foldL_map, List.getElem?_map, h]; rfl

/-- The code's way to count: which node stands at which edge, how many there are, at which one is. -/
structure NSt where
  f : Int × Int → Option Int
  many : Int
  node : Int
def nstep (s : NSt) (p : Bool × Int) : NSt :=
  let node := if p.1 then 0 else s.node
  match s.f (node, p.2) with
  | some m => { s with node := m }
  | none => { f := fun q => if q = (node, p.2) then some s.many else s.f q, many := s.many + 1, node := s.many }
def nrun (l : List (Bool × Int)) : NSt := l.foldl nstep ⟨fun _ => none, 1, 0⟩
theorem nrun_snoc (l : List (Bool × Int)) (p : Bool × Int) : nrun (l ++ [p]) = nstep (nrun l) p := by simp [nrun, List.foldl_append]
theorem nstep_found {s : NSt} {p : Bool × Int} {m : Int} (h : s.f (if p.1 then 0 else s.node, p.2) = some m) : nstep s p = { s with node := m } := by
  unfold nstep
  simp only [h]
theorem nstep_new {s : NSt} {p : Bool × Int} (h : s.f (if p.1 then 0 else s.node, p.2) = none) : nstep s p = { f := fun q => if q = (if p.1 then 0 else s.node, p.2) then some s.many else s.f q, many := s.many + 1, node := s.many } := by
  unfold nstep
  simp only [h]
theorem nrun_bd (l : List (Bool × Int)) : 1 ≤ (nrun l).many ∧ (nrun l).many ≤ l.length + 1 ∧ 0 ≤ (nrun l).node ∧ (nrun l).node ≤ l.length ∧ ∀ q m, (nrun l).f q = some m → 0 ≤ m ∧ m ≤ l.length := by
  obtain ⟨n, hn⟩ : ∃ n, l.length = n := ⟨_, rfl⟩
  induction n generalizing l with
  | zero =>
    obtain rfl := List.eq_nil_of_length_eq_zero hn
    simp [nrun]
  | succ n ih =>
    obtain ⟨l', x, rfl⟩ : ∃ l' x, l = l' ++ [x] := ⟨l.dropLast, l.getLast (by intro h; simp [h] at hn), (List.dropLast_concat_getLast _).symm⟩
    obtain ⟨h1, h2, h3, h4, h5⟩ := ih l' (by simpa using hn)
    rw [nrun_snoc]
    unfold nstep
    simp only [List.length_append, List.length_cons, List.length_nil]
    cases e : (nrun l').f (if x.1 = true then 0 else (nrun l').node, x.2) with
    | some m =>
      have := h5 _ _ e
      refine ⟨h1, by dsimp only; omega, this.1, by dsimp only; omega, fun q k hq => ?_⟩
      have := h5 q k hq
      omega
    | none =>
      refine ⟨by dsimp only; omega, by dsimp only; omega, by dsimp only; omega, by dsimp only; omega, fun q k hq => ?_⟩
      dsimp only at hq
      by_cases hqq : q = (if x.1 = true then 0 else (nrun l').node, x.2)
      · rw [if_pos hqq] at hq
        have := Option.some.inj hq
        omega
      · rw [if_neg hqq] at hq
        have := h5 q k hq
        omega

/-- What there is of words: how many, how many bytes, the longest, the shortest. -/
def cstep (c : Int × Int × Int × Int) (x : List Int) : Int × Int × Int × Int :=
  (c.1 + 1, c.2.1 + x.length, max c.2.2.1 x.length, if c.1 = 0 ∨ (x.length : Int) < c.2.2.2 then (x.length : Int) else c.2.2.2)
def cnt (wss : List (List Int)) : Int × Int × Int × Int := wss.foldl cstep (0, 0, 0, 0)
theorem cnt_snoc (l : List (List Int)) (x : List Int) : cnt (l ++ [x]) = cstep (cnt l) x := by simp [cnt, List.foldl_append]
theorem cnt_bd {M : Nat} (l : List (List Int)) (h : ∀ x ∈ l, x.length ≤ M) : (cnt l).1 = l.length ∧ 0 ≤ (cnt l).2.1 ∧ (cnt l).2.1 ≤ l.length * (M : Int) := by
  obtain ⟨n, hn⟩ : ∃ n, l.length = n := ⟨_, rfl⟩
  induction n generalizing l with
  | zero =>
    obtain rfl := List.eq_nil_of_length_eq_zero hn
    simp [cnt]
  | succ n ih =>
    obtain ⟨l', x, rfl⟩ : ∃ l' x, l = l' ++ [x] := ⟨l.dropLast, l.getLast (by intro h; simp [h] at hn), (List.dropLast_concat_getLast _).symm⟩
    obtain ⟨h1, h2, h3⟩ := ih l' (fun y hy => h y (by simp [hy])) (by simpa using hn)
    have hx := h x (by simp)
    rw [cnt_snoc]
    have e : ((l' ++ [x]).length : Int) * (M : Int) = l'.length * (M : Int) + M := by
      rw [List.length_append, List.length_cons, List.length_nil, Int.natCast_add, Int.add_mul]; simp
    rw [e]
    simp only [cstep]
    refine ⟨by rw [h1]; simp, by omega, by omega⟩

/-- The six questions' answers, and the first that is yes. -/
def askB (W Bs Lg Sh N : Int) : Nat → Bool
  | 0 => decide (W = 0)
  | 1 => decide (W > 64)
  | 2 => decide (Sh = 0)
  | 3 => decide (Lg > 32)
  | 4 => decide (Bs > 600)
  | _ => decide (N > 400)
def firstAsk (f : Nat → Bool) : Int := match (List.range 6).find? f with | some k => 50 + k | none => 0
theorem firstAsk_hit {f : Nat → Bool} {k : Nat} (hk : k < 6) (h : ∀ j, j < k → f j = false) (hf : f k = true) : firstAsk f = 50 + k := by
  have : (List.range 6).find? f = some k := by
    have : k = 0 ∨ k = 1 ∨ k = 2 ∨ k = 3 ∨ k = 4 ∨ k = 5 := by omega
    rcases this with rfl | rfl | rfl | rfl | rfl | rfl <;> simp [List.range, List.range.loop, List.find?, hf, h]
  simp [firstAsk, this]
theorem firstAsk_none {f : Nat → Bool} (h : ∀ j, j < 6 → f j = false) : firstAsk f = 0 := by
  simp [firstAsk, List.range, List.range.loop, List.find?, h]
def checkP (fold : Bool) (wss : List (List Int)) : Int := firstAsk (askB (cnt wss).1 (cnt wss).2.1 (cnt wss).2.2.1 (cnt wss).2.2.2 (nrun (begL fold wss)).many)

end Go.Proofs.Ytmpmjkbjnklgfaa

/- The beginnings of words, one byte behind the other (layer 5): the iterator. -/


namespace Go.Proofs.Ytmpmjkbjnklgfaa
open Go.RowKit Go.Sort
set_option linter.unusedVariables false
attribute [local go_sem] Oper.semAt_some
attribute [local simp] wide_fn wide_depth
attribute [local go_sem] wide_fn wide_depth

theorem beginnings_any (fold : Bool) (a : Option Addr) (la ca : Nat) (w : World) :
    Calls Try.prog 198 #[.bool fold, .slice a la ca] w fun e w' => e = .returned (.func (.func 200) #[] #[.pointer (some ⟨w.heap.size + 1, 0, none⟩), .pointer (some ⟨w.heap.size, 0, none⟩)]) ∧
      w' = (w.alloc (.cells #[.bool fold] 4)).alloc (.cells #[.slice a la ca] 37) := by
  go_enter Try.func198, Try.ntmps198
  go_wp2
  go_ret
  exact ⟨rfl, rfl⟩

abbrev BgP := { p : Bool × Int // 0 ≤ p.2 ∧ p.2 ≤ 255 }
def bgEnc (p : BgP) : Array Value := #[.bool p.1.1, .int .u8 p.1.2]

theorem keepOn_mono {S T : Nat → Prop} {A B : World} (h : keepOn S A B) (hs : ∀ k, T k → S k) : keepOn T A B := fun k hk => h k (hs k hk)
theorem kept_t {A B C : World} (h : kept A B) (hs : A.heap.size ≤ B.heap.size) (k : kept B C) : kept A C := fun i hi => (k i (Nat.lt_of_lt_of_le hi hs)).trans (h i hi)

set_option maxRecDepth 100000 in
set_option maxHeartbeats 4000000 in
theorem beg_stops (fold : Bool) (a : Option Addr) (la ca p1 p2 : Nat) (wss : List (List Int)) (n : Nat) (w0 w : World) (S : Nat → Prop) (hA : Wds w0 a la wss) (hB0 : Below w0.heap.size w0 w) (hS : ∀ k, k < w0.heap.size → S k) (hS1 : S p1) (hS2 : S p2) (hSw : ∀ k, S k → k < w.heap.size)
    (hla : la ≤ 1000000) (hM : ∀ x ∈ wss, x.length ≤ 1000000)
    (h1 : w.heap[p1]? = some (.cells #[.slice a la ca] 37 (0, 0))) (h2 : w.heap[p2]? = some (.cells #[.bool fold] 4 (0, 0))) :
    SeqStopsK Fence.wide n Try.prog 200 #[.pointer (some ⟨p1, 0, none⟩), .pointer (some ⟨p2, 0, none⟩)] bgEnc (keepOn S) (fun zs => zs.map Subtype.val = begL fold wss) (fun _ => True) ((begL fold wss).length + 1) w := by
  intro l J Jx W hW hJ hJx hY h0
  have hkW : keepOn S w W := keepOn_of_below hW hSw
  have cells : ∀ v : World, keepOn S w v → v.cell? ⟨p1, 0, none⟩ = some (.slice a la ca) ∧ v.cell? ⟨p2, 0, none⟩ = some (.bool fold) := by
    intro v hv
    have e1 : v.heap[p1]? = _ := (hv p1 hS1).trans h1
    have e2 : v.heap[p2]? = _ := (hv p2 hS2).trans h2
    simp [World.cell?, e1, e2]
  have hk0 : ∀ v : World, keepOn S w v → kept w0 v := fun v hv k hk => (hv k (hS k hk)).trans (hB0.block k hk)
  have HL := Lib.hid hA.len
  have HSZ := Lib.hid hA
  clear hA
  obtain ⟨c1, c2⟩ := cells W hkW
  refine callsIn_of_wp Try.func200 rfl trivial ?_ rfl
  simp only [Try.ntmps200, List.size_toArray, List.length_cons, List.length_nil, Nat.reduceAdd, Nat.reduceSub, Array.replicate_succ, Array.replicate_zero, List.push_toArray, List.append_toArray, List.nil_append, List.cons_append]
  gi_wp2
  clear c1 c2
  gi_loopw [10] (fun i wr => ∃ (k : Nat) (pre : List BgP), k ≤ la ∧ i = .int .i64 k ∧ Hid (pre.map Subtype.val = begL fold (wss.take k)) ∧ J pre wr ∧ keepOn S w wr) (fun i _ => la - (intOf i).toNat)
  case atStart => exact ⟨0, [], Nat.zero_le _, rfl, by simp [Hid, begL], h0, hkW⟩
  case round =>
    obtain ⟨k, pre, hk, rfl, HP, hj, hkr⟩ := hrel
    obtain ⟨c1, c2⟩ := cells wr hkr
    by_cases hlt : k < la
    · obtain ⟨bb, off, a', l', c, x, rfl, hbl, hcell0, hx, hX, hlc⟩ := HSZ.out.at_ hlt
      have hcell : wr.cell? ⟨bb, off + k, none⟩ = some (.slice a' l' c) := (kept_cell (hk0 wr hkr) (p := ⟨bb, off + k, none⟩) hbl).trans hcell0
      have hxl : l' ≤ 1000000 := by have := mem_bd hM hx; rw [hX.len] at this; exact this
      have HX := Lib.hid hx
      have HXX := Lib.hid hX
      clear hcell0 hx hX
      gi_wp2
      gi_loopw [16] (fun i wi => ∃ (j : Nat) (pre : List BgP), j ≤ l' ∧ i = .int .i64 j ∧ Hid (pre.map Subtype.val = begL fold (wss.take k) ++ (begW (foldL fold x)).take j) ∧ J pre wi ∧ keepOn S w wi) (fun i _ => l' - (intOf i).toNat)
      case atStart => exact ⟨0, pre, Nat.zero_le _, rfl, by simpa [Hid] using HP, hj, hkr⟩
      case round =>
        clear HP hj hkr c1 c2 hcell
        obtain ⟨j, pre, hjl, rfl, HP, hj, hki⟩ := hrel
        obtain ⟨c1, c2⟩ := cells wr hki
        by_cases hjlt : j < l'
        · obtain ⟨y, hy⟩ : ∃ y, x[j]? = some y := ⟨x[j]'(by rw [HXX.out.len]; exact hjlt), by simp⟩
          obtain ⟨by_, oy, rfl, hby, hyc⟩ := HXX.out.1.2.resolve_left (by omega)
          have hyb := HXX.out.2 y (List.mem_of_getElem? hy)
          have hfb := foldI_bd hyb
          have hcy : wr.cell? ⟨by_, oy + j, none⟩ = some (.int .u8 y) := (kept_cell (hk0 wr hki) (p := ⟨by_, oy + j, none⟩) hby).trans (hyc j y hy)
          have hplen : pre.length < (begL fold wss).length + 1 := by
            have h1 := congrArg List.length HP.out
            have h2 := begL_take_le fold wss HX.out
            simp [begW_length, foldL_length] at h1
            have := HXX.out.len
            omega
          have HB := Lib.hid (begW_at (foldL_at (fold := fold) hy))
          clear hy hyc
          cases fold
          · obtain ⟨fn, tmps, assign, body, hyl, hRo⟩ := hY pre ⟨(((j : Int) == 0), y), hyb⟩ wr hj hplen
            have HS : Hid ((pre ++ [(⟨(((j : Int) == 0), y), hyb⟩ : BgP)]).map Subtype.val = begL false (wss.take k) ++ (begW (foldL false x)).take (j + 1)) := by
              rw [take_step HB.out, ← List.append_assoc, ← HP.out]
              simp [Hid]
            dsimp only [bgEnc] at hyl
            gi_wp2
            refine hRo.mono ?_
            rintro e W4 (⟨rfl, hJ4, hk4⟩ | ⟨rfl, hJx4⟩)
            · gi_wp2
              go_roundw
              case rel => exact ⟨j + 1, _, by omega, by go_num, HS, hJ4, keepOn_t hki hk4⟩
              case measure => simp [intOf]; omega
            · gi_wp2
              refine bodyPost_ret (results_none rfl _ _ _) rfl ?_
              exact ⟨⟨_, rfl⟩, .inr ⟨_, trivial, hJx4⟩⟩
          · obtain ⟨fn, tmps, assign, body, hyl, hRo⟩ := hY pre ⟨(((j : Int) == 0), foldI y), hfb⟩ wr hj hplen
            have HS : Hid ((pre ++ [(⟨(((j : Int) == 0), foldI y), hfb⟩ : BgP)]).map Subtype.val = begL true (wss.take k) ++ (begW (foldL true x)).take (j + 1)) := by
              rw [take_step HB.out, ← List.append_assoc, ← HP.out]
              simp [Hid]
            dsimp only [bgEnc] at hyl
            gi_wp2_with fail
            refine (callsIn_wide.2 (fold_any y wr hyb.1 hyb.2)).mono ?_
            rintro e W3 ⟨rfl, rfl⟩
            gi_wp2
            refine hRo.mono ?_
            rintro e W4 (⟨rfl, hJ4, hk4⟩ | ⟨rfl, hJx4⟩)
            · gi_wp2
              go_roundw
              case rel => exact ⟨j + 1, _, by omega, by go_num, HS, hJ4, keepOn_t hki hk4⟩
              case measure => simp [intOf]; omega
            · gi_wp2
              refine bodyPost_ret (results_none rfl _ _ _) rfl ?_
              exact ⟨⟨_, rfl⟩, .inr ⟨_, trivial, hJx4⟩⟩
        · obtain rfl : j = l' := by omega
          gi_wp2
          go_roundw
          case rel =>
            refine ⟨k + 1, pre, by omega, by go_num, ?_, hj, hki⟩
            have hfull : (begW (foldL fold x)).take j = begW (foldL fold x) := List.take_of_length_le (by rw [begW_length, foldL_length, HXX.out.len]; exact Nat.le_refl _)
            rw [Hid, HP.out, take_step HX.out, begL_snoc, hfull]
          case measure => simp [intOf]; omega
    · obtain rfl : k = la := by omega
      gi_wp2
      go_end0
      refine ⟨⟨_, rfl⟩, .inl ⟨pre, ?_, hj⟩⟩
      show pre.map Subtype.val = begL fold wss
      rw [HP.out, List.take_of_length_le (by have := HL.out; omega)]

end Go.Proofs.Ytmpmjkbjnklgfaa
