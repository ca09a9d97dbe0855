/- Plain laws of layer 6: how many hits there are, a text in parts. -/
import Derived.Test.YtmpmjkbjnklgfaaOp
namespace Go.Proofs.Ytmpmjkbjnklgfaa
set_option linter.unusedVariables false

theorem putH_length (wss : List (List Int)) (l : List HitP) (h : HitP) : (putH wss l h).length = l.length + 1 := by
  have := putN_le wss l h
  unfold putH
  simp
  omega
theorem hereD_length (fold : Bool) (wss : List (List Int)) (frm : Int) (text : List Int) (place : Nat) : ∀ n, (hereD fold wss frm text place n).length = ((List.range n).filter fun k => stands fold wss text place k).length
  | 0 => by simp [hereD]
  | n + 1 => by
    have ih := hereD_length fold wss frm text place n
    rw [hereD_succ, List.range_succ, List.filter_append]
    cases e : stands fold wss text place n <;> simp [e, ih, putH_length]
theorem occTo_length (fold : Bool) (wss : List (List Int)) (frm : Int) (text : List Int) : ∀ n, (occTo fold wss frm text n).length = ((List.range n).map fun p => ((List.range wss.length).filter fun k => stands fold wss text p k).length).sum
  | 0 => by simp [occTo]
  | n + 1 => by
    rw [occTo_succ, List.range_succ, List.map_append, List.sum_append, List.length_append, occTo_length fold wss frm text n, hereD_length]
    simp
theorem sum_swap (f : Nat → Nat → Bool) (m : Nat) : ∀ n, ((List.range n).map fun p => ((List.range m).filter fun k => f p k).length).sum = ((List.range m).map fun k => ((List.range n).filter fun p => f p k).length).sum
  | 0 => by
    simp only [List.range_zero, List.map_nil, List.sum_nil, List.filter_nil, List.length_nil]
    induction m with
    | zero => simp
    | succ m ih => rw [List.range_succ, List.map_append, List.sum_append, ← ih]; simp
  | n + 1 => by
    rw [List.range_succ, List.map_append, List.sum_append, sum_swap f m n]
    simp only [List.map_cons, List.map_nil, List.sum_cons, List.sum_nil, Nat.add_zero]
    clear sum_swap
    induction m with
    | zero => simp
    | succ m ih =>
      simp only [List.range_succ (n := m), List.map_append, List.sum_append, List.filter_append, List.length_append, List.map_cons, List.map_nil, List.sum_cons, List.sum_nil, Nat.add_zero] at ih ⊢
      cases e : f n m <;> simp [e] <;> omega
theorem occ_count (fold : Bool) (wss : List (List Int)) (frm : Int) (text : List Int) : (occD fold wss frm text).length = ((List.range wss.length).map fun k => ((List.range (text.length + 1)).filter fun p => stands fold wss text p k).length).sum := by
  unfold occD
  rw [occTo_length, sum_swap (fun p k => stands fold wss text p k)]

theorem occD_mem {fold : Bool} {wss : List (List Int)} {frm : Int} {text : List Int} {h : HitP} (hm : h ∈ occD fold wss frm text) : standsH fold wss frm text h = true ∧ frm ≤ h.1 ∧ h.1 ≤ frm + text.length ∧ 0 ≤ h.2 ∧ h.2 < wss.length := by
  obtain ⟨p, k, h1, h2, h3, rfl⟩ := mem_occTo.1 hm
  unfold standsH
  dsimp only
  have e1 : (frm + (p : Int) - frm).toNat = p := by omega
  rw [e1, Int.toNat_natCast, h3, decide_eq_true (by omega)]
  exact ⟨rfl, by omega, by omega, by omega, by omega⟩

/-- What stands in a part. -/
theorem atL_take {fold : Bool} {text word : List Int} {at_ p : Nat} (hp : p ≤ at_) (ha : at_ ≤ text.length) : atL fold (text.take at_) p word = atL fold text p word := by
  unfold atL
  rw [List.length_take, Nat.min_eq_left ha, Int.toNat_natCast]
  have e : ((text.take at_).drop (p - word.length)).take word.length = (text.drop (p - word.length)).take word.length ∨ ¬ (word.length : Int) ≤ p := by
    by_cases hw : word.length ≤ p
    · left
      rw [List.drop_take, List.take_take, Nat.min_eq_left (by omega)]
    · right; omega
  rcases e with e | e
  · rw [e]
    congr 2
    simp
    omega
  · rw [decide_eq_false (by omega), decide_eq_false (by omega)]
    rfl
theorem atL_drop {fold : Bool} {text word : List Int} {d p : Nat} (hw : word.length ≤ p ∨ d = 0) (hd : d ≤ text.length) : atL fold (text.drop d) p word = atL fold text ((p + d : Nat) : Int) word := by
  rcases hw with hw | rfl
  · unfold atL
    rw [List.length_drop, Int.toNat_natCast, Int.toNat_natCast, List.drop_drop, show d + (p - word.length) = p + d - word.length by omega]
    congr 2
    simp
    omega
  · simp
theorem stands_take {fold : Bool} {wss : List (List Int)} {text : List Int} {at_ p k : Nat} (hp : p ≤ at_) (ha : at_ ≤ text.length) : stands fold wss (text.take at_) p k = stands fold wss text p k := atL_take hp ha
theorem longL_mem : ∀ (wss : List (List Int)), 0 ≤ longL wss ∧ ∀ x ∈ wss, (x.length : Int) ≤ longL wss := by
  intro wss
  unfold longL
  suffices h : ∀ (l : List (List Int)) (m : Int), m ≤ l.foldl (fun n w => max n (w.length : Int)) m ∧ ∀ x ∈ l, (x.length : Int) ≤ l.foldl (fun n w => max n (w.length : Int)) m from ⟨(h wss 0).1, (h wss 0).2⟩
  intro l
  induction l with
  | nil => intro m; simp
  | cons y l ih =>
    intro m
    rw [List.foldl_cons]
    obtain ⟨h1, h2⟩ := ih (max m (y.length : Int))
    refine ⟨by omega, fun x hx => ?_⟩
    rcases List.mem_cons.1 hx with rfl | hx
    · omega
    · exact h2 x hx
theorem occ_first (fold : Bool) (wss : List (List Int)) (frm : Int) (text : List Int) (at_ : Nat) (ha : at_ ≤ text.length) : occD fold wss frm (text.take at_) = occTo fold wss frm text (at_ + 1) := by
  refine rise_unique (occTo_rises _ _ _ _ _) (occTo_rises _ _ _ _ _) fun x => ?_
  unfold occD
  rw [mem_occTo, mem_occTo, List.length_take, Nat.min_eq_left ha]
  constructor
  · rintro ⟨p, k, h1, h2, h3, h4⟩
    exact ⟨p, k, h1, h2, by rwa [stands_take (by omega) ha] at h3, h4⟩
  · rintro ⟨p, k, h1, h2, h3, h4⟩
    exact ⟨p, k, h1, h2, by rwa [stands_take (by omega) ha], h4⟩
theorem betw_first (fold : Bool) (wss : List (List Int)) (frm : Int) (text : List Int) (at_ : Nat) (ha : at_ ≤ text.length) : occD fold wss frm (text.take at_) = betwH (frm - 1) (frm + at_) (occD fold wss frm text) := by
  rw [occ_first fold wss frm text at_ ha]
  refine rise_unique (occTo_rises _ _ _ _ _) ((occTo_rises _ _ _ _ _).filter _) fun x => ?_
  unfold occD betwH
  rw [mem_occTo, List.mem_filter, mem_occTo]
  constructor
  · rintro ⟨p, k, h1, h2, h3, rfl⟩
    exact ⟨⟨p, k, by omega, h2, h3, rfl⟩, by simp; omega⟩
  · rintro ⟨⟨p, k, h1, h2, h3, rfl⟩, h4⟩
    simp at h4
    exact ⟨p, k, by omega, h2, h3, rfl⟩
theorem occ_parts (fold : Bool) (wss : List (List Int)) (frm : Int) (text : List Int) (at_ warm : Nat) (ha : at_ ≤ text.length) (hw : warm = at_ ∨ longL wss - 1 ≤ warm ∧ warm ≤ at_) :
    occD fold wss frm text = occD fold wss frm (text.take at_) ++ betwH (frm + at_) (frm + text.length) (occD fold wss (frm + at_ - warm) (text.drop (at_ - warm))) := by
  have hwa : warm ≤ at_ := by omega
  have hlen : ∀ k, k < wss.length → ∀ p : Nat, warm < p → ((wss[k]?).getD []).length ≤ p ∨ at_ - warm = 0 := by
    intro k hk p hp
    rcases hw with rfl | ⟨h1, h2⟩
    · right; omega
    · left
      have hx : (wss[k]?).getD [] ∈ wss := by
        rw [List.getElem?_eq_getElem hk, Option.getD_some]
        exact List.getElem_mem hk
      have := (longL_mem wss).2 _ hx
      omega
  rw [occ_first fold wss frm text at_ ha]
  have hbm : ∀ x, x ∈ betwH (frm + at_) (frm + text.length) (occD fold wss (frm + at_ - warm) (text.drop (at_ - warm))) ↔ ∃ p k, at_ < p ∧ p < text.length + 1 ∧ k < wss.length ∧ stands fold wss text p k = true ∧ x = (frm + (p : Int), (k : Int)) := by
    intro x
    unfold betwH occD
    rw [List.mem_filter, mem_occTo, List.length_drop]
    constructor
    · rintro ⟨⟨p, k, h1, h2, h3, rfl⟩, h4⟩
      simp at h4
      refine ⟨p + (at_ - warm), k, by omega, by omega, h2, ?_, by simp; omega⟩
      unfold stands at h3 ⊢
      rwa [atL_drop (hlen k h2 p (by omega)) (by omega)] at h3
    · rintro ⟨p, k, h0, h1, h2, h3, rfl⟩
      refine ⟨⟨p - (at_ - warm), k, by omega, h2, ?_, by simp; omega⟩, by simp; omega⟩
      unfold stands at h3 ⊢
      rw [atL_drop (hlen k h2 _ (by omega)) (by omega), show p - (at_ - warm) + (at_ - warm) = p by omega]
      exact h3
  refine rise_unique (occTo_rises _ _ _ _ _) ?_ fun x => ?_
  · rw [List.pairwise_append]
    refine ⟨occTo_rises _ _ _ _ _, (occTo_rises _ _ _ _ _).filter _, fun a ha' b hb => ?_⟩
    obtain ⟨p, k, h1, h2, h3, rfl⟩ := mem_occTo.1 ha'
    obtain ⟨q, j, g0, g1, g2, g3, rfl⟩ := (hbm b).1 hb
    exact lessH_iff.2 (.inl (by dsimp only; omega))
  · rw [List.mem_append, hbm]
    unfold occD
    rw [mem_occTo, mem_occTo]
    constructor
    · rintro ⟨p, k, h1, h2, h3, rfl⟩
      by_cases hp : p ≤ at_
      · exact .inl ⟨p, k, by omega, h2, h3, rfl⟩
      · exact .inr ⟨p, k, by omega, h1, h2, h3, rfl⟩
    · rintro (⟨p, k, h1, h2, h3, rfl⟩ | ⟨p, k, h0, h1, h2, h3, rfl⟩)
      · exact ⟨p, k, by omega, h2, h3, rfl⟩
      · exact ⟨p, k, by omega, h2, h3, rfl⟩

/-- Rising in parts. -/
theorem rise_append {wss : List (List Int)} {l m : List HitP} : riseH wss (l ++ m) = (riseH wss l && riseH wss m && (match l.getLast?, m.head? with | some a, some b => lessH wss a b | _, _ => true)) := by
  induction l with
  | nil => cases m <;> simp [riseH]
  | cons a l ih =>
    cases l with
    | nil =>
      cases m with
      | nil => simp [riseH]
      | cons b m => simp [riseH, Bool.and_comm]
    | cons b l =>
      rw [List.cons_append, List.cons_append]
      simp only [riseH]
      rw [← List.cons_append, ih, List.getLast?_cons_cons]
      simp [Bool.and_assoc]
end Go.Proofs.Ytmpmjkbjnklgfaa
