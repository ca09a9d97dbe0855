/- Parts of the proof, one behind the other: Reg, Bm, B1, Rf, B2, B3. No condition but what each theorem states. -/
import Derived.Lib.QuietBelowIn
import Derived.StillTail
import Derived.TacticsIn
import Derived.WalkKit
import Derived.Test.YtmpmjkbjnklgfaaProg
import Derived.WalkLawsBesides
import Derived.Deep.QuietTactic
import Derived.BigQuiet
import Derived.RangeFuncNested
import Derived.RangeFuncBound
import Derived.RangeFuncCalls
import Derived.RangeFuncLeaves
import Derived.RangeFuncBox
import Derived.Shelf.Abstract
import Derived.Shelf.RegionOpen
import Derived.OwnWalkIn
import Derived.TacticsInMore
import Derived.LoopNIn
import Derived.LoopIn

/- A region that draws its order, whose first m operations are quiet in a class of worlds and whose last ones come one behind the other: plain, and in a fence (in a round, too). Conditions: as each theorem states. -/




namespace Go.Proofs.Ytmpmjkbjnklgfaa
open Go Go.RowKit Go.Sort

/-! ### plain -/
section plain
variable {P : Program} {ops : Array Oper} {md : Region.Mode} {C : World → Prop}

def headQ (P : Program) (md : Region.Mode) (ops : Array Oper) (C : World → Prop) (m : Nat) (L : Array Bool → Act → Prop) : Nat → Array Bool → Act → Prop
  | 0, listed, a => L listed a
  | f + 1, listed, a => Region.ready md ops listed ≠ [] ∧ ∀ i ∈ Region.ready md ops listed, i < m ∧ qOp P ops C i (headQ P md ops C m L f (listed.setIfInBounds i true)) a

theorem any_of_headQ {m g : Nat} {L : Array Bool → Act → Prop} {Q' : Exit → Act → World → Prop} (hL : ∀ listed a w, C w → L listed a → wpAny P md ops Q' g listed a w) :
    ∀ (f : Nat) (listed : Array Bool) (a : Act) (w : World), C w → headQ P md ops C m L f listed a → wpAny P md ops Q' (f + g) listed a w
  | 0, listed, a, w, hw, h => by rw [Nat.zero_add]; exact hL _ _ _ hw h
  | f + 1, listed, a, w, hw, h => by
    rw [show f + 1 + g = (f + g) + 1 by omega]
    exact ⟨fun h0 => absurd h0 h.1, fun i hi => wpOp_of_qOp hw (fun a' w' hw' h' => any_of_headQ hL f _ a' w' hw' h') (h.2 i hi).2⟩

theorem headQ_first {m i : Nat} {oi : Oper} {v : Value} {L : Array Bool → Act → Prop} (hi : ops[i]? = some oi) (hsel : ∀ (j : Nat) (o : Oper) cs b, ops[j]? = some o → o.op ≠ .select cs b)
    (hs : Region.sinkB md ops m = true) (hc : Region.chainB md ops m = true) (hm : m < ops.size) (him : i < m)
    (hdone : ∀ listed a, L listed a → ∀ j ∈ Region.ready md ops listed, m ≤ j) :
    ∀ (f : Nat) (listed : Array Bool) (a : Act), HeadInv md ops m listed →
      (∀ j oj, ops[j]? = some oj → j ≠ i → listed.getD j true = false → (∀ e ∈ oj.after, Region.binds md e = true → e.on ≠ i) → oi.apart ops oj = true) →
      i ∈ Region.ready md ops listed → YieldsIn P ops C oi v a →
      headQ P md ops C m L f (listed.setIfInBounds i true) (a.put oi.dst v) → headQ P md ops C m L (f + 1) listed a := by
  intro f
  induction f with
  | zero =>
    intro listed a inv _ hr hy H
    have hun := (mem_ready.1 hr).1
    refine ⟨fun h => (by rw [h] at hr; cases hr), fun j hj => ?_⟩
    have hjm : j < m := by
      rcases Nat.lt_or_ge j m with h | h
      · exact h
      · exact absurd hj (tail_waits hs hc hm inv _ i rfl him hun j h)
    refine ⟨hjm, ?_⟩
    by_cases hji : j = i
    · subst hji; exact hy.qOp hi H
    · have := hdone _ _ H j (ready_mono hj hji)
      omega
  | succ f ih =>
    intro listed a inv hfree hr hy H
    have hun := (mem_ready.1 hr).1
    refine ⟨fun h => (by rw [h] at hr; cases hr), fun j hj => ?_⟩
    have hjm : j < m := by
      rcases Nat.lt_or_ge j m with h | h
      · exact h
      · exact absurd hj (tail_waits hs hc hm inv _ i rfl him hun j h)
    refine ⟨hjm, ?_⟩
    by_cases hji : j = i
    · subst hji; exact hy.qOp hi H
    · have h1 := (H.2 j (ready_mono hj hji)).2
      obtain ⟨hjun, oj, hoj, hall⟩ := mem_ready.1 hj
      have hnot : ∀ e ∈ oj.after, Region.binds md e = true → e.on ≠ i := fun e he hb heq => by
        have h1 := hall e he hb
        rw [heq, getD_both hun] at h1
        cases h1
      have h2 := qOp_put hoj (hfree j oj hoj hji hjun hnot) (fun cs b => hsel i oi cs b hi) (fun cs b => hsel j oj cs b hoj) hy h1
      have hfree' : ∀ k ok, ops[k]? = some ok → k ≠ i → (listed.setIfInBounds j true).getD k true = false →
          (∀ e ∈ ok.after, Region.binds md e = true → e.on ≠ i) → oi.apart ops ok = true := fun k ok hk hki hkun hno => by
        refine hfree k ok hk hki ?_ hno
        by_cases hjk : j = k
        · subst hjk; exact hjun
        · rw [getD_set_ne true hjk] at hkun; exact hkun
      refine qOp_mono (fun a' h3 => ih (listed.setIfInBounds j true) a' (inv.set hj hjm) hfree' (ready_mono hr (Ne.symm hji)) h3.1 ?_) h2
      rw [Array.setIfInBounds_comm _ _ hji]
      exact h3.2

theorem headQ_lex {m g : Nat} {Lq : Act → Prop} (hsel : Region.noSelect ops = true) (hs : Region.sinkB md ops m = true) (hc : Region.chainB md ops m = true) (hm : m < ops.size) :
    ∀ (l : List Oper) (k : Nat) (listed : Array Bool) (a : Act), (∀ j, j < l.length → l[j]? = ops[k + j]?) → k + l.length = m → HeadInv md ops m listed →
    Region.lexHead md ops g l.length k listed = true → wpQuiet P ops C Lq l a →
    headQ P md ops C m (fun listed' a' => Region.seqB md ops g m listed' = true ∧ Lq a') l.length listed a
  | [], k, listed, a, _, hk, _, hB, h => by
    have : k = m := by simpa using hk
    subst this
    exact ⟨by simpa [Region.lexHead] using hB, h⟩
  | o :: l, k, listed, a, hl, hk, inv, hB, h => by
    have h0 : ops[k]? = some o := by simpa using (hl 0 (by simp)).symm
    simp only [List.length_cons, Region.lexHead, Bool.and_eq_true] at hB
    obtain ⟨⟨hr, hf⟩, hB'⟩ := hB
    have hkm : k < m := by simp only [List.length_cons] at hk; omega
    have hr' : k ∈ Region.ready md ops listed := by simpa using hr
    have hst : qOp P ops C k (wpQuiet P ops C Lq l) a := by unfold qOp; simp only [h0]; exact h
    obtain ⟨v, hy, hK⟩ := yieldsIn_of_qOp h0 hst
    exact headQ_first h0 (Region.noSelect_spec hsel) hs hc hm hkm (fun listed' a' hL => seqB_ready hL.1) l.length listed a inv (Region.free_spec h0 hf) hr' hy
      (headQ_lex hsel hs hc hm l (k + 1) _ _ (fun j hj => by have := hl (j + 1) (by simp; omega); simpa [Nat.add_assoc, Nat.add_comm 1 j] using this) (by simp only [List.length_cons] at hk; omega) (inv.set hr' hkm) hB' hK)

/-- The first m operations quiet in the class C, the others one behind the other. -/
theorem region_quiet_tail {id : Nat} {Q : Exit → Act → World → Prop} {a : Act} {w : World} {l : List Oper} (m : Nat) (hmx : P.follows .mixedOrders = true) (hB : Region.lexTailB .any l.toArray m = true) (hC : C { w with drawn := w.drawn + 1 })
    (h : wpQuiet P l.toArray C (fun a' => ∀ w', C w' → wpList P l.toArray Q (l.drop m) a' w') (l.take m) a) : (Code.region id l.toArray true).wp P Q a w := by
  simp only [Region.lexTailB, Bool.and_eq_true, decide_eq_true_eq] at hB
  obtain ⟨⟨⟨⟨hsel, hn⟩, hs⟩, hc⟩, hlex⟩ := hB
  have hn' : m < l.length := by simpa using hn
  have htl : (l.take m).length = m := by simp; omega
  have hdl : (l.drop m).length = l.toArray.size - m := by simp
  have inv0 : HeadInv .any l.toArray m (Array.replicate l.toArray.size false) :=
    ⟨by simp, fun j oj _ hl => (by rw [getD_replicate_false] at hl; cases hl), fun t _ ht => getD_in (by simpa using ht) (getD_replicate_false _ _)⟩
  have H := headQ_lex (md := .any) (g := l.toArray.size - m) hsel hs hc hn (l.take m) 0 _ a (fun j hj => by
    have hj' : j < m := by rw [htl] at hj; exact hj
    simp [hj']) (by simpa using htl) inv0 (by rw [htl]; exact hlex) h
  refine wp_region_any hmx ?_
  have := any_of_headQ (Q' := Q) (g := l.toArray.size - m) (fun listed a' w' hw' hL => by
    have := wpAny_of_seq (md := .any) (Q' := Q) (l.drop m) m listed a' w' (fun j => by simp [List.getElem?_drop]) (by rw [hdl]; exact hL.1) (hL.2 w' hw')
    rwa [hdl] at this) _ _ _ _ hC H
  rw [htl, show m + (l.toArray.size - m) = l.toArray.size by omega] at this
  exact this

/-- The same at the class 'what was there lies as it lay, blocks may have been laid'. -/
theorem region_below_tail {id : Nat} {Q : Exit → Act → World → Prop} {a : Act} {w : World} {l : List Oper} (m : Nat) (hmx : P.follows .mixedOrders = true) (hB : Region.lexTailB .any l.toArray m = true)
    (h : wpQuiet P l.toArray (fun w' => ∃ p : Regrown, w' = grow (redrawn w p.d) p.os) (fun a' => ∀ w', (∃ p : Regrown, w' = grow (redrawn w p.d) p.os) → wpList P l.toArray Q (l.drop m) a' w') (l.take m) a) : (Code.region id l.toArray true).wp P Q a w :=
  region_quiet_tail (C := fun w' => ∃ p : Regrown, w' = grow (redrawn w p.d) p.os) m hmx hB ⟨⟨w.drawn + 1, #[]⟩, by rw [grow_empty]; rfl⟩ h

/-- .. at the class 'the same world, but for draws'. -/
theorem region_drawn_tail {id : Nat} {Q : Exit → Act → World → Prop} {a : Act} {w : World} {l : List Oper} (m : Nat) (hmx : P.follows .mixedOrders = true) (hB : Region.lexTailB .any l.toArray m = true)
    (h : wpQuiet P l.toArray (fun w' => ∃ n, w' = w.drewN n) (fun a' => ∀ w', (∃ n, w' = w.drewN n) → wpList P l.toArray Q (l.drop m) a' w') (l.take m) a) : (Code.region id l.toArray true).wp P Q a w :=
  region_quiet_tail (C := fun w' => ∃ n, w' = w.drewN n) m hmx hB ⟨1, rfl⟩ h
end plain

/-! ### in a fence, in a round -/
section fenced
variable {F : Fence} {n : Nat} {P : Program} {ops : Array Oper} {md : Region.Mode} {C : World → Prop}

def noDefer (ops : Array Oper) : Bool := ops.all fun o => match o.op with | .defer _ => false | _ => true
theorem noDefer_spec (h : noDefer ops = true) {i : Nat} {o : Oper} (hi : ops[i]? = some o) : ∀ c, o.op ≠ .defer c := by
  intro c hc
  have := Array.all_eq_true'.1 h o (Array.mem_of_getElem? hi)
  simp [hc] at this

theorem wpIn_of_quietR {o : Oper} {a : Act} {K : Act → Prop} {K' : Act → World → Prop} {Q' : Exit → Act → World → Prop} {w : World} (hnd : ∀ c, o.op ≠ .defer c) (hw : C w) (h : ∀ a w', C w' → K a → K' a w')
    (ha : o.askedIn F P a C) (hh : o.quietIn F n P a C K) : o.wpIn F n P a w K' Q' := by
  obtain ⟨v, h1, h2⟩ := hh
  have h3 := h1 w hw
  unfold Oper.quietAtIn at h3
  unfold Oper.wpIn
  refine ⟨ha w hw, ?_⟩
  rw [Oper.semAt_eq _ _ _ hnd]
  generalize (execOp a.eval o).run P w = r at *
  cases r with
  | ok x w' =>
    cases x <;> simp only [Oper.quietUponIn] at h3 <;> simp only [Oper.uponIn]
    case value u =>
      obtain ⟨e1, e2⟩ := h3
      rw [e1, e2]
      exact h _ _ hw h2
    case skip =>
      obtain ⟨e1, e2⟩ := h3
      rw [e1, ← e2]
      exact h _ _ hw h2
    case enter f args =>
      obtain ⟨e1, hd, hc⟩ := h3
      rw [e1]
      exact ⟨hd, hc.mono fun e w'' ⟨he, hw''⟩ => by subst he; exact h _ _ hw'' h2⟩
  | halt x w' => simp only [Oper.quietUponIn] at h3

theorem opIn_of_quietR {i : Nat} {a : Act} {K : Act → Prop} {K' : Act → World → Prop} {Q' : Exit → Act → World → Prop} {w : World} (hnd : noDefer ops = true) (hC : C w) (h : ∀ a w', C w' → K a → K' a w')
    (hh : qOpIn F n P ops C i K a) : wpOpIn F n P ops Q' i K' a w := by
  unfold qOpIn at hh
  unfold wpOpIn
  split
  · rename_i ho; simp only [ho] at hh; exact h _ _ hC hh
  · rename_i o ho
    simp only [ho] at hh
    obtain ⟨ha, hh⟩ := hh
    split
    · rename_i hw; simp only [hw, if_true] at hh; exact wpIn_of_quietR (noDefer_spec hnd ho) hC h ha hh
    · rename_i hw; simp only [hw] at hh; exact ⟨ha w hC, h _ _ hC hh⟩

def headQIn (F : Fence) (n : Nat) (P : Program) (md : Region.Mode) (ops : Array Oper) (C : World → Prop) (m : Nat) (L : Array Bool → Act → Prop) : Nat → Array Bool → Act → Prop
  | 0, listed, a => L listed a
  | f + 1, listed, a => Region.ready md ops listed ≠ [] ∧ ∀ i ∈ Region.ready md ops listed, i < m ∧ qOpIn F n P ops C i (headQIn F n P md ops C m L f (listed.setIfInBounds i true)) a

theorem any_of_headQIn {m g : Nat} {L : Array Bool → Act → Prop} {Q' : Exit → Act → World → Prop} (hnd : noDefer ops = true) (hL : ∀ listed a w, C w → L listed a → wpAnyIn F n P md ops Q' g listed a w) :
    ∀ (f : Nat) (listed : Array Bool) (a : Act) (w : World), C w → headQIn F n P md ops C m L f listed a → wpAnyIn F n P md ops Q' (f + g) listed a w
  | 0, listed, a, w, hw, h => by rw [Nat.zero_add]; exact hL _ _ _ hw h
  | f + 1, listed, a, w, hw, h => by
    rw [show f + 1 + g = (f + g) + 1 by omega]
    exact ⟨fun h0 => absurd h0 h.1, fun i hi => opIn_of_quietR hnd hw (fun a' w' hw' h' => any_of_headQIn hnd hL f _ a' w' hw' h') (h.2 i hi).2⟩

theorem headQIn_first {m i : Nat} {oi : Oper} {v : Value} {L : Array Bool → Act → Prop} (hi : ops[i]? = some oi) (hsel : ∀ (j : Nat) (o : Oper) cs b, ops[j]? = some o → o.op ≠ .select cs b)
    (hs : Region.sinkB md ops m = true) (hc : Region.chainB md ops m = true) (hm : m < ops.size) (him : i < m)
    (hdone : ∀ listed a, L listed a → ∀ j ∈ Region.ready md ops listed, m ≤ j) :
    ∀ (f : Nat) (listed : Array Bool) (a : Act), HeadInv md ops m listed →
      (∀ j oj, ops[j]? = some oj → j ≠ i → listed.getD j true = false → (∀ e ∈ oj.after, Region.binds md e = true → e.on ≠ i) → oi.apart ops oj = true) →
      i ∈ Region.ready md ops listed → YieldsQuiet F n P ops C oi v a →
      headQIn F n P md ops C m L f (listed.setIfInBounds i true) (a.put oi.dst v) → headQIn F n P md ops C m L (f + 1) listed a := by
  intro f
  induction f with
  | zero =>
    intro listed a inv _ hr hy H
    have hun := (mem_ready.1 hr).1
    refine ⟨fun h => (by rw [h] at hr; cases hr), fun j hj => ?_⟩
    have hjm : j < m := by
      rcases Nat.lt_or_ge j m with h | h
      · exact h
      · exact absurd hj (tail_waits hs hc hm inv _ i rfl him hun j h)
    refine ⟨hjm, ?_⟩
    by_cases hji : j = i
    · subst hji; exact hy.qOpIn hi H
    · have := hdone _ _ H j (ready_mono hj hji)
      omega
  | succ f ih =>
    intro listed a inv hfree hr hy H
    have hun := (mem_ready.1 hr).1
    refine ⟨fun h => (by rw [h] at hr; cases hr), fun j hj => ?_⟩
    have hjm : j < m := by
      rcases Nat.lt_or_ge j m with h | h
      · exact h
      · exact absurd hj (tail_waits hs hc hm inv _ i rfl him hun j h)
    refine ⟨hjm, ?_⟩
    by_cases hji : j = i
    · subst hji; exact hy.qOpIn hi H
    · have h1 := (H.2 j (ready_mono hj hji)).2
      obtain ⟨hjun, oj, hoj, hall⟩ := mem_ready.1 hj
      have hnot : ∀ e ∈ oj.after, Region.binds md e = true → e.on ≠ i := fun e he hb heq => by
        have h1 := hall e he hb
        rw [heq, getD_both hun] at h1
        cases h1
      have h2 := qOpIn_put hoj (hfree j oj hoj hji hjun hnot) (fun cs b => hsel i oi cs b hi) (fun cs b => hsel j oj cs b hoj) hy h1
      have hfree' : ∀ k ok, ops[k]? = some ok → k ≠ i → (listed.setIfInBounds j true).getD k true = false →
          (∀ e ∈ ok.after, Region.binds md e = true → e.on ≠ i) → oi.apart ops ok = true := fun k ok hk hki hkun hno => by
        refine hfree k ok hk hki ?_ hno
        by_cases hjk : j = k
        · subst hjk; exact hjun
        · rw [getD_set_ne true hjk] at hkun; exact hkun
      refine qOpIn_mono (fun a' h3 => ih (listed.setIfInBounds j true) a' (inv.set hj hjm) hfree' (ready_mono hr (Ne.symm hji)) h3.1 ?_) h2
      rw [Array.setIfInBounds_comm _ _ hji]
      exact h3.2

theorem headQIn_lex {m g : Nat} {Lq : Act → Prop} (hsel : Region.noSelect ops = true) (hs : Region.sinkB md ops m = true) (hc : Region.chainB md ops m = true) (hm : m < ops.size) :
    ∀ (l : List Oper) (k : Nat) (listed : Array Bool) (a : Act), (∀ j, j < l.length → l[j]? = ops[k + j]?) → k + l.length = m → HeadInv md ops m listed →
    Region.lexHead md ops g l.length k listed = true → wpQuietIn F n P ops C Lq l a →
    headQIn F n P md ops C m (fun listed' a' => Region.seqB md ops g m listed' = true ∧ Lq a') l.length listed a
  | [], k, listed, a, _, hk, _, hB, h => by
    have : k = m := by simpa using hk
    subst this
    exact ⟨by simpa [Region.lexHead] using hB, h⟩
  | o :: l, k, listed, a, hl, hk, inv, hB, h => by
    have h0 : ops[k]? = some o := by simpa using (hl 0 (by simp)).symm
    simp only [List.length_cons, Region.lexHead, Bool.and_eq_true] at hB
    obtain ⟨⟨hr, hf⟩, hB'⟩ := hB
    have hkm : k < m := by simp only [List.length_cons] at hk; omega
    have hr' : k ∈ Region.ready md ops listed := by simpa using hr
    have hst : qOpIn F n P ops C k (wpQuietIn F n P ops C Lq l) a := by unfold qOpIn; simp only [h0]; exact h
    obtain ⟨v, hy, hK⟩ := yieldsQuiet_of_qOpIn h0 hst
    exact headQIn_first h0 (Region.noSelect_spec hsel) hs hc hm hkm (fun listed' a' hL => seqB_ready hL.1) l.length listed a inv (Region.free_spec h0 hf) hr' hy
      (headQIn_lex hsel hs hc hm l (k + 1) _ _ (fun j hj => by have := hl (j + 1) (by simp; omega); simpa [Nat.add_assoc, Nat.add_comm 1 j] using this) (by simp only [List.length_cons] at hk; omega) (inv.set hr' hkm) hB' hK)

theorem anyIn_of_seq {Q' : Exit → Act → World → Prop} : ∀ (l : List Oper) (k : Nat) (listed : Array Bool) (a : Act) (w : World), (∀ j, l[j]? = ops[k + j]?) →
    Region.seqB md ops l.length k listed = true → wpListIn F n P ops Q' l a w → wpAnyIn F n P md ops Q' l.length listed a w
  | [], _, _, _, _, _, hB, h => ⟨by simpa [Region.seqB] using hB, h⟩
  | o :: l, k, listed, a, w, hl, hB, h => by
    have h0 : ops[k]? = some o := by simpa using (hl 0).symm
    simp only [List.length_cons, Region.seqB, Bool.and_eq_true, decide_eq_true_eq] at hB
    refine ⟨fun h1 => (by rw [hB.1] at h1; cases h1), fun i hi => ?_⟩
    rw [hB.1] at hi
    have hik : i = k := by simpa using hi
    subst hik
    have hw : wpOpIn F n P ops Q' i (wpListIn F n P ops Q' l) a w := by unfold wpOpIn; simp only [h0]; exact h
    exact wpOpIn_mono (fun a' w' h' => anyIn_of_seq l (i + 1) _ a' w' (fun j => by have := hl (j + 1); simpa [Nat.add_assoc, Nat.add_comm 1 j] using this) hB.2 h') hw

theorem regionIn_quiet_tail {id : Nat} {Q : Exit → Act → World → Prop} {a : Act} {w : World} {l : List Oper} (m : Nat) (hmx : P.follows .mixedOrders = true) (hB : Region.lexTailB .any l.toArray m = true) (hnd : noDefer l.toArray = true) (hC : C { w with drawn := w.drawn + 1 })
    (h : wpQuietIn F n P l.toArray C (fun a' => ∀ w', C w' → wpListIn F n P l.toArray Q (l.drop m) a' w') (l.take m) a) : (Code.region id l.toArray true).wpIn F n P Q a w := by
  simp only [Region.lexTailB, Bool.and_eq_true, decide_eq_true_eq] at hB
  obtain ⟨⟨⟨⟨hsel, hn⟩, hs⟩, hc⟩, hlex⟩ := hB
  have hn' : m < l.length := by simpa using hn
  have htl : (l.take m).length = m := by simp; omega
  have hdl : (l.drop m).length = l.toArray.size - m := by simp
  have inv0 : HeadInv .any l.toArray m (Array.replicate l.toArray.size false) :=
    ⟨by simp, fun j oj _ hl => (by rw [getD_replicate_false] at hl; cases hl), fun t _ ht => getD_in (by simpa using ht) (getD_replicate_false _ _)⟩
  have H := headQIn_lex (md := .any) (g := l.toArray.size - m) hsel hs hc hn (l.take m) 0 _ a (fun j hj => by
    have hj' : j < m := by rw [htl] at hj; exact hj
    simp [hj']) (by simpa using htl) inv0 (by rw [htl]; exact hlex) h
  refine wpIn_region_any hmx ?_
  have := any_of_headQIn (Q' := Q) (g := l.toArray.size - m) hnd (fun listed a' w' hw' hL => by
    have := anyIn_of_seq (md := .any) (Q' := Q) (l.drop m) m listed a' w' (fun j => by simp [List.getElem?_drop]) (by rw [hdl]; exact hL.1) (hL.2 w' hw')
    rwa [hdl] at this) _ _ _ _ hC H
  rw [htl, show m + (l.toArray.size - m) = l.toArray.size by omega] at this
  exact this

theorem anyIn_of_quietR {Q : Act → Prop} {Q' : Exit → Act → World → Prop} (hnd : noDefer ops = true) (hQ : ∀ a w, C w → Q a → Q' .normal a w) : ∀ (fuel : Nat) (listed : Array Bool) (a : Act) (w : World), C w →
    wpAnyQIn F n P md ops C Q fuel listed a → wpAnyIn F n P md ops Q' fuel listed a w
  | 0, _, _, _, hw, h => ⟨h.1, hQ _ _ hw h.2⟩
  | fuel + 1, _, _, _, hw, h => ⟨fun h0 => hQ _ _ hw (h.1 h0), fun i hi => opIn_of_quietR hnd hw (fun a' w' hw' => anyIn_of_quietR hnd hQ fuel _ a' w' hw') (h.2 i hi)⟩

/-- All operations quiet, in a round, too. -/
theorem regionIn_quiet {id : Nat} {Q : Exit → Act → World → Prop} {a : Act} {w : World} {l : List Oper} (hmx : P.follows .mixedOrders = true) (hB : Region.lexB .any l.toArray = true) (hnd : noDefer l.toArray = true) (hC : C { w with drawn := w.drawn + 1 })
    (h : wpQuietIn F n P l.toArray C (fun a' => ∀ w', C w' → Q .normal a' w') l a) : (Code.region id l.toArray true).wpIn F n P Q a w := by
  simp only [Region.lexB, Bool.and_eq_true] at hB
  refine wpIn_region_any hmx (anyIn_of_quietR (Q := fun a' => ∀ w', C w' → Q .normal a' w') hnd (fun _ w' hw' h => h w' hw') _ _ _ _ hC ?_)
  have := wpAnyQIn_lex (F := F) (n := n) (C := C) (md := .any) hB.1 l 0 (Array.replicate l.toArray.size false) a (by simp) (by simpa using hB.2) h
  simpa using this

theorem regionIn_below {id : Nat} {Q : Exit → Act → World → Prop} {a : Act} {w : World} {l : List Oper} (hmx : P.follows .mixedOrders = true) (hB : Region.lexB .any l.toArray = true) (hnd : noDefer l.toArray = true)
    (h : wpQuietIn F n P l.toArray (fun w' => ∃ p : Regrown, w' = grow (redrawn w p.d) p.os) (fun a' => ∀ w', (∃ p : Regrown, w' = grow (redrawn w p.d) p.os) → Q .normal a' w') l a) : (Code.region id l.toArray true).wpIn F n P Q a w :=
  regionIn_quiet (C := fun w' => ∃ p : Regrown, w' = grow (redrawn w p.d) p.os) hmx hB hnd ⟨⟨w.drawn + 1, #[]⟩, by rw [grow_empty]; rfl⟩ h

theorem regionIn_below_tail {id : Nat} {Q : Exit → Act → World → Prop} {a : Act} {w : World} {l : List Oper} (m : Nat) (hmx : P.follows .mixedOrders = true) (hB : Region.lexTailB .any l.toArray m = true) (hnd : noDefer l.toArray = true)
    (h : wpQuietIn F n P l.toArray (fun w' => ∃ p : Regrown, w' = grow (redrawn w p.d) p.os) (fun a' => ∀ w', (∃ p : Regrown, w' = grow (redrawn w p.d) p.os) → wpListIn F n P l.toArray Q (l.drop m) a' w') (l.take m) a) : (Code.region id l.toArray true).wpIn F n P Q a w :=
  regionIn_quiet_tail (C := fun w' => ∃ p : Regrown, w' = grow (redrawn w p.d) p.os) m hmx hB hnd ⟨⟨w.drawn + 1, #[]⟩, by rw [grow_empty]; rfl⟩ h

theorem regionIn_drawn_tail {id : Nat} {Q : Exit → Act → World → Prop} {a : Act} {w : World} {l : List Oper} (m : Nat) (hmx : P.follows .mixedOrders = true) (hB : Region.lexTailB .any l.toArray m = true) (hnd : noDefer l.toArray = true)
    (h : wpQuietIn F n P l.toArray (fun w' => ∃ n, w' = w.drewN n) (fun a' => ∀ w', (∃ n, w' = w.drewN n) → wpListIn F n P l.toArray Q (l.drop m) a' w') (l.take m) a) : (Code.region id l.toArray true).wpIn F n P Q a w :=
  regionIn_quiet_tail (C := fun w' => ∃ n, w' = w.drewN n) m hmx hB hnd ⟨1, rfl⟩ h

theorem regionIn_drawn {id : Nat} {Q : Exit → Act → World → Prop} {a : Act} {w : World} {l : List Oper} (hmx : P.follows .mixedOrders = true) (hB : Region.lexB .any l.toArray = true) (hnd : noDefer l.toArray = true)
    (h : wpQuietIn F n P l.toArray (fun w' => ∃ n, w' = w.drewN n) (fun a' => ∀ w', (∃ n, w' = w.drewN n) → Q .normal a' w') l a) : (Code.region id l.toArray true).wpIn F n P Q a w :=
  regionIn_quiet (C := fun w' => ∃ n, w' = w.drewN n) hmx hB hnd ⟨1, rfl⟩ h
end fenced

/-! ### the wide fence, in a round or not: the quiet part walked plainly -/
section wide
variable {F : Fence} {n : Nat} {P : Program} {ops : Array Oper} {C : World → Prop}

structure WideF (F : Fence) (n : Nat) (P : Program) : Prop where
  fn : ∀ f, F.fn f
  depth : F.depth = none
  calls : ∀ {f args w R}, Calls P f args w R → CallsIn F (n - 1) P f args w R

theorem wideF (n : Nat) (P : Program) : WideF Fence.wide n P := ⟨fun _ => trivial, rfl, fun h => callsIn_wide.2 h⟩
theorem wideR (n : Nat) (P : Program) (l : Nat) : WideF (Fence.wide.inRound l) n P := ⟨fun _ => trivial, rfl, fun h => (callsIn_wide (n := n - 1)).2 h⟩

theorem quietIn_of_quiet (hw : WideF F n P) {Q : Act → Prop} : ∀ (l : List Oper) (a : Act), wpQuiet P ops C Q l a → wpQuietIn F n P ops C Q l a
  | [], _, h => h
  | o :: l, a, h => by
    refine ⟨fun _ _ f _ => hw.fn f, ?_⟩
    unfold wpQuiet at h
    split
    · rename_i hg
      rw [if_pos hg] at h
      obtain ⟨v, h1, h2⟩ := h
      refine ⟨v, fun w hc => ?_, quietIn_of_quiet hw l _ h2⟩
      have := h1 w hc
      unfold Oper.quietAt at this
      unfold Oper.quietAtIn
      generalize (execOp a.eval o).run P w = r at *
      cases r with
      | ok x w' =>
        cases x <;> simp only [Oper.quietUpon] at this <;> simp only [Oper.quietUponIn]
        case value u => exact this
        case skip => exact this
        case enter f args =>
          refine ⟨this.1, ?_, hw.calls this.2⟩
          intro hd
          rw [hw.depth] at hd
          cases hd
      | halt x w' => simp only [Oper.quietUpon] at this
    · rename_i hg
      rw [if_neg hg] at h
      exact quietIn_of_quiet hw l _ h

theorem regionR_below (hw : WideF F n P) {id : Nat} {Q : Exit → Act → World → Prop} {a : Act} {w : World} {l : List Oper} (hmx : P.follows .mixedOrders = true) (hB : Region.lexB .any l.toArray = true) (hnd : noDefer l.toArray = true)
    (h : wpQuiet P l.toArray (fun w' => ∃ p : Regrown, w' = grow (redrawn w p.d) p.os) (fun a' => ∀ w', (∃ p : Regrown, w' = grow (redrawn w p.d) p.os) → Q .normal a' w') l a) : (Code.region id l.toArray true).wpIn F n P Q a w :=
  regionIn_below hmx hB hnd (quietIn_of_quiet hw _ _ h)

theorem regionR_below_tail (hw : WideF F n P) {id : Nat} {Q : Exit → Act → World → Prop} {a : Act} {w : World} {l : List Oper} (m : Nat) (hmx : P.follows .mixedOrders = true) (hB : Region.lexTailB .any l.toArray m = true) (hnd : noDefer l.toArray = true)
    (h : wpQuiet P l.toArray (fun w' => ∃ p : Regrown, w' = grow (redrawn w p.d) p.os) (fun a' => ∀ w', (∃ p : Regrown, w' = grow (redrawn w p.d) p.os) → wpListIn F n P l.toArray Q (l.drop m) a' w') (l.take m) a) : (Code.region id l.toArray true).wpIn F n P Q a w :=
  regionIn_below_tail m hmx hB hnd (quietIn_of_quiet hw _ _ h)

theorem regionR_drawn (hw : WideF F n P) {id : Nat} {Q : Exit → Act → World → Prop} {a : Act} {w : World} {l : List Oper} (hmx : P.follows .mixedOrders = true) (hB : Region.lexB .any l.toArray = true) (hnd : noDefer l.toArray = true)
    (h : wpQuiet P l.toArray (fun w' => ∃ n, w' = w.drewN n) (fun a' => ∀ w', (∃ n, w' = w.drewN n) → Q .normal a' w') l a) : (Code.region id l.toArray true).wpIn F n P Q a w :=
  regionIn_drawn hmx hB hnd (quietIn_of_quiet hw _ _ h)

theorem regionR_drawn_tail (hw : WideF F n P) {id : Nat} {Q : Exit → Act → World → Prop} {a : Act} {w : World} {l : List Oper} (m : Nat) (hmx : P.follows .mixedOrders = true) (hB : Region.lexTailB .any l.toArray m = true) (hnd : noDefer l.toArray = true)
    (h : wpQuiet P l.toArray (fun w' => ∃ n, w' = w.drewN n) (fun a' => ∀ w', (∃ n, w' = w.drewN n) → wpListIn F n P l.toArray Q (l.drop m) a' w') (l.take m) a) : (Code.region id l.toArray true).wpIn F n P Q a w :=
  regionIn_drawn_tail m hmx hB hnd (quietIn_of_quiet hw _ _ h)
end wide

/-! ### contracts, met within a quiet walk -/
section met
variable {P : Program} {f : FuncId} {args : Array Value} {w : World} {v : Value}
theorem flipC (h : Calls P f args w fun e w' => e = .returned v ∧ w = w') : Calls P f args w fun e w' => e = .returned v ∧ w' = w :=
  h.mono fun _ _ ⟨h1, h2⟩ => ⟨h1, h2.symm⟩
/-- a callee that leaves the world alone, at the class 'but for draws' -/
theorem drawn_same {n : Nat} (h : Calls P f args (w.drewN n) fun e w' => e = .returned v ∧ w.drewN n = w') : Calls P f args (w.drewN n) fun e w'' => e = .returned v ∧ ∃ m, w'' = w.drewN m :=
  h.mono fun _ _ ⟨h1, h2⟩ => ⟨h1, n, h2.symm⟩
/-- .. at the class 'blocks may have been laid' -/
theorem grown_same {d : Nat} {os : Array Obj} (h : Calls P f args (grow (redrawn w d) os) fun e w' => e = .returned v ∧ grow (redrawn w d) os = w') : Calls P f args (grow (redrawn w d) os) fun e w'' => e = .returned v ∧ ∃ p : Regrown, w'' = grow (redrawn w p.d) p.os :=
  h.mono fun _ _ ⟨h1, h2⟩ => ⟨h1, ⟨d, os⟩, h2.symm⟩
/-- a callee that lays blocks -/
theorem grown_below {d : Nat} {os : Array Obj} (h : Calls P f args (grow (redrawn w d) os) fun e w' => e = .returned v ∧ Below (grow (redrawn w d) os).heap.size (grow (redrawn w d) os) w') : Calls P f args (grow (redrawn w d) os) fun e w'' => e = .returned v ∧ ∃ p : Regrown, w'' = grow (redrawn w p.d) p.os :=
  Calls.regrown_of h
end met

end Go.Proofs.Ytmpmjkbjnklgfaa

/- Plain arithmetic of blocks and slices (layer 28). No program in sight. -/
namespace Go.Proofs.Ytmpmjkbjnklgfaa

def btw (n lo hi : Int) : Bool := decide (lo ≤ n) && decide (n ≤ hi)
def confB (wk bl rg qu ou sl fr : Int) : Bool := btw wk 1 8 && btw bl 1 256 && btw rg 1 16 && btw qu 1 16 && btw ou 1 16 && btw sl 1 256 && btw fr 0 4611686018427387904
theorem confB_iff {wk bl rg qu ou sl fr : Int} : confB wk bl rg qu ou sl fr = true ↔ (1 ≤ wk ∧ wk ≤ 8) ∧ (1 ≤ bl ∧ bl ≤ 256) ∧ (1 ≤ rg ∧ rg ≤ 16) ∧ (1 ≤ qu ∧ qu ≤ 16) ∧ (1 ≤ ou ∧ ou ≤ 16) ∧ (1 ≤ sl ∧ sl ≤ 256) ∧ (0 ≤ fr ∧ fr ≤ 4611686018427387904) := by
  simp [confB, btw]; omega
def rightB (wk bl rg qu ou sl fr L y : Int) : Bool := confB wk bl rg qu ou sl fr && btw L 1 32 && btw y 0 2147483647

def partsI (size bytes : Int) : Int := bytes / size + if 0 < bytes % size then 1 else 0
theorem partsI_bd {s b : Int} (hs : 1 ≤ s) (hb : 0 ≤ b) : 0 ≤ partsI s b ∧ partsI s b ≤ b := by
  unfold partsI
  have h1 := Int.mul_ediv_add_emod b s
  have h2 : 0 ≤ b / s := Int.ediv_nonneg hb (by omega)
  have h3 : 0 ≤ b % s := Int.emod_nonneg _ (by omega)
  have h4 : b / s * 1 ≤ s * (b / s) := by rw [Int.mul_comm s]; exact Int.mul_le_mul_of_nonneg_left hs h2
  split <;> omega
theorem partsI_one (b : Int) : partsI 1 b = b := by
  unfold partsI; simp

def wI (L B : Int) (k : Nat) : Int := min (L - 1) (k * B)
def sumN (L B S : Int) : Nat → Int
  | 0 => 0
  | k + 1 => sumN L B S k + partsI S (wI L B k + B)
def totalI (L B S y : Int) : Int := sumN L B S (y / B).toNat + if 0 < y % B then partsI S (wI L B (y / B).toNat + y % B) else 0

theorem wI_bd {L B : Int} (hL : 1 ≤ L) (hB : 1 ≤ B) (k : Nat) : 0 ≤ wI L B k ∧ wI L B k ≤ L - 1 := by
  have : 0 ≤ (k : Int) * B := Int.mul_nonneg (by omega) (by omega)
  unfold wI; omega
theorem wI_mono {L B : Int} (hB : 1 ≤ B) {i j : Nat} (h : i ≤ j) (hi : ¬ wI L B i < L - 1) : wI L B j = L - 1 := by
  have : (i : Int) * B ≤ (j : Int) * B := Int.mul_le_mul_of_nonneg_right (by omega) (by omega)
  unfold wI at *; omega

/-- What is yielded, in all: k0 blocks that are told one by one, the others at once, and the rest. -/
def tailL (L B y : Int) (k0 : Nat) : List (Int × Int) :=
  (if k0 < (y / B).toNat then [(L - 1 + B, (((y / B).toNat - k0 : Nat) : Int))] else []) ++ (if 0 < y % B then [(wI L B (y / B).toNat + y % B, 1)] else [])
def headL (L B : Int) (k0 : Nat) : List (Int × Int) := (List.range k0).map fun i => (wI L B i + B, 1)
def sumL (S : Int) (l : List (Int × Int)) : Int := l.foldl (fun s p => s + p.2 * partsI S p.1) 0
theorem sumL_snoc (S : Int) (l : List (Int × Int)) (p : Int × Int) : sumL S (l ++ [p]) = sumL S l + p.2 * partsI S p.1 := by simp [sumL]
theorem headL_succ (L B : Int) (k : Nat) : headL L B (k + 1) = headL L B k ++ [(wI L B k + B, 1)] := by simp [headL, List.range_succ]
theorem headL_length (L B : Int) (k : Nat) : (headL L B k).length = k := by simp [headL]
theorem sumL_head (L B S : Int) (k : Nat) : sumL S (headL L B k) = sumN L B S k := by
  induction k with
  | zero => rfl
  | succ k ih => rw [headL_succ, sumL_snoc, ih, sumN]; simp
theorem sumN_full {L B S : Int} (hB : 1 ≤ B) {k0 : Nat} (h : ¬ wI L B k0 < L - 1) : ∀ d, sumN L B S (k0 + d) = sumN L B S k0 + d * partsI S (L - 1 + B)
  | 0 => by simp
  | d + 1 => by
    have h1 := wI_mono (B := B) hB (show k0 ≤ k0 + d by omega) h
    rw [show k0 + (d + 1) = (k0 + d) + 1 from rfl, sumN, sumN_full hB h d, h1]
    have : ((d + 1 : Nat) : Int) = (d : Int) + 1 := by omega
    rw [this, Int.add_mul]; omega
theorem sumL_all {L B S y : Int} (hB : 1 ≤ B) {k0 : Nat} (hk : k0 ≤ (y / B).toNat) (h : k0 < (y / B).toNat → ¬ wI L B k0 < L - 1) : sumL S (headL L B k0 ++ tailL L B y k0) = totalI L B S y := by
  have key : sumL S (headL L B k0 ++ (if k0 < (y / B).toNat then [(L - 1 + B, (((y / B).toNat - k0 : Nat) : Int))] else [])) = sumN L B S (y / B).toNat := by
    split
    · rename_i hlt
      rw [sumL_snoc, sumL_head]
      have := sumN_full (S := S) hB (h hlt) ((y / B).toNat - k0)
      rw [show k0 + ((y / B).toNat - k0) = (y / B).toNat by omega] at this
      exact this.symm
    · rename_i hge
      rw [List.append_nil, sumL_head, show k0 = (y / B).toNat by omega]
  unfold tailL totalI
  rw [← List.append_assoc]
  by_cases hr : 0 < y % B
  · rw [if_pos hr, if_pos hr, sumL_snoc, key]; simp
  · rw [if_neg hr, if_neg hr, List.append_nil, key]; simp

/-- The document's sum: over the blocks' first places. -/
def overI (l s : Int) : Int := if l < 1 ∨ s < 1 then 0 else partsI s l
theorem overI_eq {l s : Int} (_hl : 0 ≤ l) (hs : 1 ≤ s) : overI l s = partsI s l := by
  unfold overI
  split
  · rename_i h
    have : l = 0 := by omega
    subst this; simp [partsI]
  · rfl
theorem over_code {l s : Int} (_hl : 1 ≤ l) (hs : 1 ≤ s) : (if l / s * s < l then l / s + 1 else l / s) = partsI s l := by
  have h := Int.mul_ediv_add_emod l s
  have h3 : 0 ≤ l % s := Int.emod_nonneg _ (by omega)
  rw [Int.mul_comm] at h
  unfold partsI
  split <;> split <;> omega

/-- What the document's loop has summed when it stands at place k * B: k whole blocks, or all. -/
theorem total_step {B y : Int} (hB : 1 ≤ B) (hy : 0 ≤ y) (k : Nat) (h : (k : Int) * B < y) :
    (k < (y / B).toNat ∧ min B (y - k * B) = B) ∨ (k = (y / B).toNat ∧ 0 < y % B ∧ min B (y - k * B) = y % B) := by
  have e := Int.mul_ediv_add_emod y B
  have m0 : 0 ≤ y % B := Int.emod_nonneg _ (by omega)
  have m1 : y % B < B := Int.emod_lt_of_pos _ (by omega)
  have q0 : 0 ≤ y / B := Int.ediv_nonneg hy (by omega)
  obtain ⟨q, hq⟩ : ∃ q : Nat, y / B = q := ⟨(y / B).toNat, by omega⟩
  rw [hq] at e ⊢
  simp only [Int.toNat_natCast]
  rcases Nat.lt_trichotomy k q with hk | hk | hk
  · left
    refine ⟨hk, ?_⟩
    have : ((k + 1 : Nat) : Int) * B ≤ (q : Int) * B := Int.mul_le_mul_of_nonneg_right (by omega) (by omega)
    have e2 : ((k + 1 : Nat) : Int) * B = (k : Int) * B + B := by rw [Int.natCast_add, Int.add_mul]; simp
    rw [Int.mul_comm] at e
    omega
  · right
    subst hk
    rw [Int.mul_comm] at e
    omega
  · exfalso
    have : ((q + 1 : Nat) : Int) * B ≤ (k : Int) * B := Int.mul_le_mul_of_nonneg_right (by omega) (by omega)
    have e2 : ((q + 1 : Nat) : Int) * B = (q : Int) * B + B := by rw [Int.natCast_add, Int.add_mul]; simp
    rw [Int.mul_comm] at e
    omega

theorem div_mul_le {B y : Int} (hB : 1 ≤ B) (hy : 0 ≤ y) : (((y / B).toNat : Nat) : Int) * B ≤ y ∧ ((y / B).toNat : Int) ≤ y := by
  have e := Int.mul_ediv_add_emod y B
  have m0 : 0 ≤ y % B := Int.emod_nonneg _ (by omega)
  have q0 : 0 ≤ y / B := Int.ediv_nonneg hy (by omega)
  obtain ⟨q, hq⟩ : ∃ q : Nat, y / B = q := ⟨(y / B).toNat, by omega⟩
  rw [hq] at e ⊢
  simp only [Int.toNat_natCast]
  have : (q : Int) * 1 ≤ (q : Int) * B := Int.mul_le_mul_of_nonneg_left hB (by omega)
  rw [Int.mul_comm] at e
  omega

end Go.Proofs.Ytmpmjkbjnklgfaa

/- Contracts of the small functions of layer 28 and of configurations. -/







namespace Go.Proofs.Ytmpmjkbjnklgfaa
open Go.RowKit Go.Sort
set_option linter.unusedVariables false

theorem mixed : Try.prog.follows .mixedOrders = true := by kernel_rfl
theorem bcell {W w1 : World} (hb : Below W.heap.size W w1) : (∀ b o, b < W.heap.size → w1.cell? ⟨b, o, none⟩ = W.cell? ⟨b, o, none⟩) ∧ (∀ b o, b < W.heap.size → w1.frozen? ⟨b, o, none⟩ = W.frozen? ⟨b, o, none⟩) :=
  ⟨fun b o h => hb.cell (p := ⟨b, o, none⟩) h, fun b o h => hb.frozen (p := ⟨b, o, none⟩) h⟩
theorem ret_int {k : IntKind} {a b : Int} (h : a = b) : Ending.returned (.int k a) = .returned (.int k b) := by rw [h]

theorem parts_any (size bytes : Int) (w : World) (h1 : 1 ≤ size) (h2 : 0 ≤ bytes) (h3 : size ≤ 9223372036854775807) (h4 : bytes ≤ 4611686018427387904) :
    Calls Try.prog 62 #[.int .i64 size, .int .i64 bytes] w fun e w' => e = .returned (.int .i64 (partsI size bytes)) ∧ w = w' := by
  have hne : (size == 0) = false := by simp; omega
  have hd : 0 ≤ bytes / size := Int.ediv_nonneg h2 (by omega)
  have hd2 : bytes / size ≤ bytes := Int.ediv_le_self _ h2
  by_cases hc : 0 < bytes % size
  all_goals
    go_enter Try.func62, Try.ntmps62
    go_wp2
    go_ret
    exact ⟨ret_int (by unfold partsI; first | rw [if_pos hc] | rw [if_neg (by omega), Int.add_zero]), rfl⟩

theorem long_any (n : Int) (w : World) :
    Calls Try.prog 67 #[.int .i64 n] w fun e w' => e = .returned (.bool (btw n 1 32)) ∧ w = w' := by
  by_cases h1 : 1 ≤ n
  · by_cases h2 : n ≤ 32
    all_goals
      go_enter Try.func67, Try.ntmps67
      go_wp2
      go_ret
      exact ⟨by simp [btw]; try omega, rfl⟩
  · go_enter Try.func67, Try.ntmps67
    go_wp2
    go_ret
    exact ⟨by simp [btw]; try omega, rfl⟩

theorem counted_any (n : Int) (w : World) :
    Calls Try.prog 65 #[.int .i64 n] w fun e w' => e = .returned (.bool (btw n 0 2147483647)) ∧ w = w' := by
  by_cases h1 : 0 ≤ n
  · by_cases h2 : n ≤ 2147483647
    all_goals
      go_enter Try.func65, Try.ntmps65
      go_wp2
      go_ret
      exact ⟨by simp [btw]; try omega, rfl⟩
  · go_enter Try.func65, Try.ntmps65
    go_wp2
    go_ret
    exact ⟨by simp [btw]; try omega, rfl⟩

theorem between_any (n lo hi : Int) (w : World) :
    Calls Try.prog 105 #[.int .i64 n, .int .i64 lo, .int .i64 hi] w fun e w' => e = .returned (.bool (btw n lo hi)) ∧ w = w' := by
  by_cases h1 : lo ≤ n
  · by_cases h2 : n ≤ hi
    all_goals
      go_enter Try.func105, Try.ntmps105
      go_wp2
      go_ret
      exact ⟨by simp [btw]; try omega, rfl⟩
  · go_enter Try.func105, Try.ntmps105
    go_wp2
    go_ret
    exact ⟨by simp [btw]; try omega, rfl⟩

abbrev confV (wk bl rg qu ou sl fr : Int) : Array Value := #[.int .i64 wk, .int .i64 bl, .int .i64 rg, .int .i64 qu, .int .i64 ou, .int .i64 sl, .int .i64 fr]
abbrev reckV (wk bl rg qu ou sl fr L y : Int) : Array Value := #[.int .i64 wk, .int .i64 bl, .int .i64 rg, .int .i64 qu, .int .i64 ou, .int .i64 sl, .int .i64 fr, .int .i64 L, .int .i64 y]

set_option maxHeartbeats 1000000 in
theorem right_any (wk bl rg qu ou sl fr : Int) (w : World) :
    Calls Try.prog 66 #[.agg (confV wk bl rg qu ou sl fr)] w fun e w' => e = .returned (.bool (confB wk bl rg qu ou sl fr)) ∧ Below w.heap.size w w' := by
  go_enter Try.func66, Try.ntmps66
  go_wp2_with (go_at_call 105; refine (between_any _ _ _ _).mono ?_; rintro e w' ⟨rfl, rfl⟩)
  all_goals
    go_ret
    exact ⟨by simp [confB, *], (Below.refl _ _).alloc (Nat.le_refl _) _⟩

set_option maxHeartbeats 1000000 in
theorem rightR_any (wk bl rg qu ou sl fr L y : Int) (w : World) :
    Calls Try.prog 60 #[.agg (reckV wk bl rg qu ou sl fr L y)] w fun e w' => e = .returned (.bool (rightB wk bl rg qu ou sl fr L y)) ∧ Below w.heap.size w w' := by
  go_enter Try.func60, Try.ntmps60
  go_wp2_with fail
  refine (right_any _ _ _ _ _ _ _ _).mono ?_
  rintro e w' ⟨rfl, hb⟩
  obtain ⟨hc, hf⟩ := bcell hb
  have hB := ((Below.refl w.heap.size w).alloc (Nat.le_refl _) (.cells (reckV wk bl rg qu ou sl fr L y) 83)).trans (hb.mono (by simp))
  go_wp2_with (first | (go_at_call 67; refine (long_any _ _).mono ?_; rintro e w' ⟨rfl, rfl⟩) | (go_at_call 65; refine (counted_any _ _).mono ?_; rintro e w' ⟨rfl, rfl⟩))
  all_goals
    go_ret
    exact ⟨by simp [rightB, *], hB⟩

theorem warm_any (wk bl rg qu ou sl fr L y : Int) (k : Nat) (w : World) (h1 : 1 ≤ L) (h2 : L ≤ 32) (h3 : 1 ≤ bl) (h4 : bl ≤ 256) (hk : k ≤ 2147483647) :
    Calls Try.prog 104 #[.agg (reckV wk bl rg qu ou sl fr L y), .int .i64 k] w fun e w' => e = .returned (.int .i64 (wI L bl k)) ∧ Below w.heap.size w w' := by
  have p0 : 0 ≤ (k : Int) * bl := Int.mul_nonneg (by omega) (by omega)
  have p1 : (k : Int) * bl ≤ (k : Int) * 256 := Int.mul_le_mul_of_nonneg_left h4 (by omega)
  go_enter Try.func104, Try.ntmps104
  go_wp2
  all_goals
    go_ret
    exact ⟨ret_int (by unfold wI; omega), (Below.refl _ _).alloc (Nat.le_refl _) _⟩

end Go.Proofs.Ytmpmjkbjnklgfaa

/- Ranging over a function, plainly: the law of the kit at the wide fence, and a function's end behind it. -/












namespace Go.Proofs.Ytmpmjkbjnklgfaa
open Go Go.RowKit Go.Sort
set_option linter.unusedVariables false

theorem wide_fn (k : FuncId) : Fence.wide.fn k = True := rfl
theorem wide_depth : Fence.wide.depth = none := rfl

def keepAt (b : Nat) (W W' : World) : Prop := W'.heap[b]? = W.heap[b]?
theorem keepAt_t {b : Nat} {A B C : World} (h : keepAt b A B) (k : keepAt b B C) : keepAt b A C := k.trans h
theorem keepAt_b {b : Nat} {w : World} (hb : b < w.heap.size) (W : World) (l : Nat) (o o' : Obj) (hl : w.heap.size ≤ l) (_ : W.heap[l]? = some o) (_ : o.isCells = false) (_ : o.isWalk = false) : keepAt b W (W.putObj l o') :=
  World.putObj_heap_other (by omega)
def keepOn (S : Nat → Prop) (W W' : World) : Prop := ∀ k, S k → W'.heap[k]? = W.heap[k]?
theorem keepOn_t {S : Nat → Prop} {A B C : World} (h : keepOn S A B) (k : keepOn S B C) : keepOn S A C := fun i hi => (k i hi).trans (h i hi)
theorem keepOn_b {S : Nat → Prop} {w : World} (hb : ∀ k, S k → k < w.heap.size) (W : World) (l : Nat) (o o' : Obj) (hl : w.heap.size ≤ l) (_ : W.heap[l]? = some o) (_ : o.isCells = false) (_ : o.isWalk = false) : keepOn S W (W.putObj l o') :=
  fun k hk => World.putObj_heap_other (by have := hb k hk; omega)

theorem grownBy_of_below {w w' : World} (h : Below w.heap.size w w') : w.grownBy w' none := ⟨h.os, h.tape, h.output, h.size, fun k hk _ => h.block k hk⟩
theorem abides_below {β : Type} {B : Nat} {J : β → World → Prop} (h : AbidesFrom B J) {s : β} {w w' : World} (hj : J s w) (hb : Below w.heap.size w w') : J s w' :=
  h s w w' none hj (grownBy_of_below hb) (fun r e => by cases e)
theorem own_below {β : Type} {B : Nat} {I : β → World → Prop} (h : OwnFrom B I) {s : β} {w w' : World} (hj : I s w) (hb : Below w.heap.size w w') : I s w' :=
  h s w w' none hj (grownBy_of_below hb) (fun r e => by cases e)
theorem keepsFrom_of_below {B : Nat} {w w' : World} (h : Below w.heap.size w w') : KeepsFrom B w w' :=
  ⟨h.size, fun k o _ hk _ => (h.block k (Array.getElem?_eq_some_iff.1 hk).1).trans hk⟩
theorem keepOn_of_below {S : Nat → Prop} {w w' : World} (h : Below w.heap.size w w') (hS : ∀ k, S k → k < w.heap.size) : keepOn S w w' := fun k hk => h.block k (hS k hk)
theorem keepAt_of_below {b : Nat} {w w' : World} (h : Below w.heap.size w w') (hb : b < w.heap.size) : keepAt b w w' := h.block b hb

theorem calls_of_wp_M {P : Program} {f : FuncId} {fn : Func} {c : Code} {args : Array Value} {w : World} {R : Ending → World → Prop}
    (hf : P.funcs[f]? = some fn) (hb : fn.body = some c)
    (h : c.wp P (bodyPostM Fence.wide 9 P fn R) { tmps := args ++ Array.replicate (fn.ntmps - args.size) undef, defers := [] } w) : Calls P f args w R :=
  (callsIn_wide (n := 9)).1 (callsIn_of_wp_marks hf hb trivial (wpIn_wide.2 h) rfl)

theorem endM {P : Program} {fn : Func} {R : Ending → World → Prop} {a : Act} {W : World} {D : Nat} {v : Value} (hd : a.defers = [{ target := .collected D, args := #[] }]) (hK : W.heap[D]? = some (.deferred (some [])))
    (hr : (results fn a.tmps).run P (W.putObj D (.deferred none)) = .ok v (W.putObj D (.deferred none))) (hR : R (.returned v) (W.putObj D (.deferred none))) : bodyPostM Fence.wide 9 P fn R .ret a W := by
  show LeavesInM Fence.wide 9 P fn a.tmps R a.defers .returning W
  rw [hd]
  refine ⟨by simp, .inl ⟨_, _, rfl, run_takeDeferred hK, ?_⟩⟩
  exact ⟨_, hr, hR⟩
theorem endM' {P : Program} {fn : Func} {R : Ending → World → Prop} {a : Act} {W : World} {D : Nat} {v : Value} (hd : a.defers = [{ target := .collected D, args := #[] }]) (hK : W.heap[D]? = some (.deferred (some [])))
    (hr : (results fn a.tmps).run P (W.putObj D (.deferred none)) = .ok v (W.putObj D (.deferred none))) (hR : R (.returned v) (W.putObj D (.deferred none))) : bodyPostM Fence.wide 9 P fn R .normal a W :=
  endM hd hK hr hR
/-- An end ahead of any loop. -/
theorem endN {P : Program} {fn : Func} {R : Ending → World → Prop} {a : Act} {W : World} {v : Value} (hd : a.defers = [])
    (hr : (results fn a.tmps).run P W = .ok v W) (hR : R (.returned v) W) : bodyPostM Fence.wide 9 P fn R .ret a W := by
  show LeavesInM Fence.wide 9 P fn a.tmps R a.defers .returning W
  rw [hd]
  exact ⟨_, hr, hR⟩

theorem put_below {n₀ D : Nat} {w W : World} (hB : Below n₀ w W) (hD : n₀ ≤ D) (hn : n₀ ≤ w.heap.size) (o' : Obj) : Below n₀ w (W.putObj D o') :=
  hB.grown (grownBy_putObj' W D o') (Nat.le_trans hn hB.size) (fun k e => by cases e; exact hD)

theorem rangeF {P : Program} {α : Type} {g : Operand} {ps : Array Tmp} {assign body : Code} {Q : Exit → Act → World → Prop} {a : Act} {w : World} {gf : Nat} {lb : Array Value}
    (hg : a.eval g = .func (.func gf) #[] lb) (eg : ∀ args w, (callFunc gf args).run P w = .ok (.enter gf args) w)
    {encs : α → Array Value} {Kp : World → World → Prop} {S Sp : List α → Prop} {N : Nat} (hseq : SeqStopsK Fence.wide 8 P gf lb encs Kp S Sp N w)
    (hKt : ∀ {A B C : World}, Kp A B → Kp B C → Kp A C) (hKb : ∀ (W : World) (l : Nat) (o o' : Obj), w.heap.size ≤ l → W.heap[l]? = some o → o.isCells = false → o.isWalk = false → Kp W (W.putObj l o')) (hps : ∀ x, (encs x).size = ps.size)
    (I : List α → World → Prop) (Ix : Code → List α → World → Prop) (hI : OwnFrom w.heap.size I) (hIx : ∀ c, OwnFrom w.heap.size (Ix c)) (h0 : I [] w) (a₁ : α → Act)
    (hassign : ∀ (l : Nat) (x : α) (W : World) (K : Act → World → Prop), K (a₁ x) W →
      assign.wpIn (Fence.wide.inRound l) 7 P (Exit.then K (fun _ _ _ => False)) { tmps := (ps.zip (encs x)).foldl (fun t (p, v) => t.setIfInBounds p v) a.tmps, defers := [] } W)
    (hbody : ∀ (l : Nat) (pre : List α) (x : α) (W : World), I pre W → pre.length < N → body.wpIn (Fence.wide.inRound l) 7 P (ownPostG w.heap.size Kp I Ix (pre ++ [x]) W) (a₁ x) W)
    (hdone : ∀ (D : Nat) (xs : List α) (W : World), w.heap.size ≤ D → S xs → I xs W → W.heap[D]? = some (.deferred (some [])) → Q .normal { a with defers := { target := .collected D, args := #[] } :: a.defers } W)
    (hstop : ∀ (D : Nat) (c : Code) (pre : List α) (W : World), w.heap.size ≤ D → Sp pre → Ix c pre W → W.heap[D]? = some (.deferred (some [])) → c.wp P Q { a with defers := { target := .collected D, args := #[] } :: a.defers } W) :
    (Code.rangeFunc g ps assign body).wp P Q a w :=
  (wpIn_wide (n := 9)).1 (wpIn_rangeFunc_ownG rfl (by decide) hg trivial eg hseq hKt hKb (Below.refl _ _) hps I Ix hI hIx h0 a₁ hassign hbody hdone
    (fun D c pre W h1 h2 h3 h4 => wpIn_wide.2 (hstop D c pre W h1 h2 h3 h4)))

end Go.Proofs.Ytmpmjkbjnklgfaa

/- The iterator over blocks (layer 28), and its caller Slices. -/


namespace Go.Proofs.Ytmpmjkbjnklgfaa
open Go.RowKit Go.Sort
set_option linter.unusedVariables false
attribute [local go_sem] Oper.semAt_some

attribute [local simp] wide_fn wide_depth
attribute [local go_sem] wide_fn wide_depth

abbrev Blk := { p : Int × Int // 0 ≤ p.1 ∧ p.1 ≤ 1000 ∧ 0 ≤ p.2 ∧ p.2 ≤ 2147483647 }
def blkEnc (p : Blk) : Array Value := #[.int .i64 p.1.1, .int .i64 p.1.2]

def isBlocks (L B y : Int) (xs : List Blk) : Prop := ∃ k0 : Nat, k0 ≤ (y / B).toNat ∧ (k0 < (y / B).toNat → ¬ wI L B k0 < L - 1) ∧ xs.map (·.1) = headL L B k0 ++ tailL L B y k0

set_option maxRecDepth 100000 in
set_option maxHeartbeats 4000000 in
theorem blocks_in (wk bl rg qu ou sl fr L y : Int) (n : Nat) (l Br : Nat) (h1 : 1 ≤ L) (h2 : L ≤ 32) (h3 : 1 ≤ bl) (h4 : bl ≤ 256) (h5 : 0 ≤ y) (h6 : y ≤ 2147483647) (J Jx : List Blk → World → Prop) (W : World)
    (hJ : AbidesFrom W.heap.size J) (hJx : AbidesFrom W.heap.size Jx)
    (hY : ∀ pre x W1, J pre W1 → pre.length < 34 → YieldAt Fence.wide (n - 1) Try.prog l (blkEnc x) W1 fun e W' =>
      (e = .returned (.bool true) ∧ J (pre ++ [x]) W' ∧ keepAt Br W1 W') ∨ (e = .returned (.bool false) ∧ Jx (pre ++ [x]) W'))
    (hBr : W.heap[Br]? = some (.cells (reckV wk bl rg qu ou sl fr L y) 83 (0, 0))) (h0 : J [] W) :
    CallsIn Fence.wide n Try.prog 103 #[.func (.yield l) #[] #[], .pointer (some ⟨Br, 0, none⟩)] W fun e W' => (∃ v, e = .returned v) ∧
      ((∃ xs, isBlocks L bl y xs ∧ J xs W') ∨ (∃ pre, True ∧ Jx pre W')) := by
  obtain ⟨K, hK⟩ : ∃ K : Nat, y / bl = K := ⟨(y / bl).toNat, by have := Int.ediv_nonneg h5 (show 0 ≤ bl by omega); omega⟩
  obtain ⟨R, hR⟩ : ∃ R : Int, y % bl = R := ⟨_, rfl⟩
  have hR0 : 0 ≤ R := by rw [← hR]; exact Int.emod_nonneg _ (by omega)
  have hR1 : R < bl := by rw [← hR]; exact Int.emod_lt_of_pos _ (by omega)
  have hKy : (K : Int) ≤ 2147483647 := by have := (div_mul_le (B := bl) h3 h5).2; rw [hK] at this; simp at this; omega
  have hne : (bl == 0) = false := by simp; omega
  have HS : Hid (∀ k0 : Nat, k0 ≤ K → (k0 < K → ¬ wI L bl k0 < L - 1) → ∀ xs : List Blk, xs.map (·.1) = headL L bl k0 ++ tailL L bl y k0 → isBlocks L bl y xs) := by
    intro k0 a b xs e
    exact ⟨k0, by rw [hK]; simpa using a, by rw [hK]; simpa using b, e⟩
  have HT : Hid (∀ k0, tailL L bl y k0 = (if k0 < K then [(L - 1 + bl, ((K - k0 : Nat) : Int))] else []) ++ (if 0 < R then [(wI L bl K + R, 1)] else [])) := by
    intro k0
    unfold tailL
    rw [hK, hR, Int.toNat_natCast]
  have cells : ∀ w : World, w.heap[Br]? = some (.cells (reckV wk bl rg qu ou sl fr L y) 83 (0, 0)) →
      w.cell? ⟨Br, 0, none⟩ = some (.int .i64 wk) ∧ w.cell? ⟨Br, 1, none⟩ = some (.int .i64 bl) ∧ w.cell? ⟨Br, 2, none⟩ = some (.int .i64 rg) ∧ w.cell? ⟨Br, 3, none⟩ = some (.int .i64 qu) ∧ w.cell? ⟨Br, 4, none⟩ = some (.int .i64 ou) ∧ w.cell? ⟨Br, 5, none⟩ = some (.int .i64 sl) ∧ w.cell? ⟨Br, 6, none⟩ = some (.int .i64 fr) ∧ w.cell? ⟨Br, 7, none⟩ = some (.int .i64 L) ∧ w.cell? ⟨Br, 8, none⟩ = some (.int .i64 y) := by
    intro w h
    simp [World.cell?, h]
  obtain ⟨c0, c1, c2, c3, c4, c5, c6, c7, c8⟩ := cells W hBr
  refine callsIn_of_wp Try.func103 rfl trivial ?_ rfl
  simp only [Try.ntmps103, List.size_toArray, List.length_cons, List.length_nil, Nat.reduceAdd, Nat.reduceSub, Array.replicate_succ, Array.replicate_zero, List.push_toArray, List.append_toArray, List.nil_append, List.cons_append]
  gi_wp2
  refine regionR_drawn (wideF _ _) mixed (by kernel_rfl) (by kernel_rfl) ?_
  repeat (go_big_quiet_step (fail))
  refine wpQuiet_nil ?_
  rintro _ ⟨nq, rfl⟩
  gi_wp2
  have hb0 : Below W.heap.size W (W.drewN nq) := ⟨rfl, rfl, rfl, Nat.le_refl _, fun _ _ => rfl⟩
  rw [hK, hR]
  gi_loopw [5] (fun i wr => ∃ (k : Nat) (pre : List Blk), k ≤ K ∧ (k : Int) ≤ L - 1 ∧ i = .int .i64 k ∧ pre.map (·.1) = headL L bl k ∧ J pre wr ∧ wr.heap[Br]? = some (.cells (reckV wk bl rg qu ou sl fr L y) 83 (0, 0)))
    (fun i _ => K - (intOf i).toNat)
  case atStart => exact ⟨0, [], Nat.zero_le _, by omega, rfl, rfl, abides_below hJ h0 hb0, hBr⟩
  case round =>
    obtain ⟨k, pre, hk, hkL, rfl, hpre, hj, hBr1⟩ := hrel
    clear c0 c1 c2 c3 c4 c5 c6 c7 c8 hBr
    obtain ⟨c0, c1, c2, c3, c4, c5, c6, c7, c8⟩ := cells wr hBr1
    have hw := wI_bd (L := L) (B := bl) h1 h3 k
    have HL : Hid (wI L bl k < L - 1 → ((k + 1 : Nat) : Int) ≤ L - 1) := by
      intro h
      have : (k : Int) * 1 ≤ (k : Int) * bl := Int.mul_le_mul_of_nonneg_left h3 (by omega)
      unfold wI at h
      omega
    have hlen : pre.length = k := by have := congrArg List.length hpre; simpa [headL_length] using this
    by_cases hlt : k < K
    · by_cases hwl : wI L bl k < L - 1
      · have k0 := cell_regrown c0; have k1 := cell_regrown c1; have k2 := cell_regrown c2; have k3 := cell_regrown c3; have k4 := cell_regrown c4
        have k5 := cell_regrown c5; have k6 := cell_regrown c6; have k7 := cell_regrown c7; have k8 := cell_regrown c8
        have cW : ∀ d os, Calls Try.prog 104 #[.agg (reckV wk bl rg qu ou sl fr L y), .int .i64 k] (grow (redrawn wr d) os) fun e w'' => e = .returned (.int .i64 (wI L bl k)) ∧ ∃ p : Regrown, w'' = grow (redrawn wr p.d) p.os :=
          fun d os => Calls.regrown_of (warm_any wk bl rg qu ou sl fr L y k _ h1 h2 h3 h4 (by omega))
        gi_wp2
        refine regionR_below (wideF _ _) mixed (by kernel_rfl) (by kernel_rfl) ?_
        repeat (go_big_quiet_step (exact cW _ _))
        refine wpQuiet_nil ?_
        rintro _ ⟨⟨dq, osq⟩, rfl⟩
        obtain ⟨W2, hW2⟩ : ∃ W2, grow (redrawn wr dq) osq = W2 := ⟨_, rfl⟩
        rw [hW2]
        have hb2 : Below wr.heap.size wr W2 := hW2 ▸ below_regrown wr dq osq
        clear hW2 k0 k1 k2 k3 k4 k5 k6 k7 k8 cW c0 c1 c2 c3 c4 c5 c6 c7 c8
        have hBr2 : W2.heap[Br]? = _ := (hb2.block Br (Array.getElem?_eq_some_iff.1 hBr1).1).trans hBr1
        obtain ⟨c0, c1, c2, c3, c4, c5, c6, c7, c8⟩ := cells W2 hBr2
        have k0 := cell_regrown c0; have k1 := cell_regrown c1; have k2 := cell_regrown c2; have k3 := cell_regrown c3; have k4 := cell_regrown c4
        have k5 := cell_regrown c5; have k6 := cell_regrown c6; have k7 := cell_regrown c7; have k8 := cell_regrown c8
        have cW : ∀ d os, Calls Try.prog 104 #[.agg (reckV wk bl rg qu ou sl fr L y), .int .i64 k] (grow (redrawn W2 d) os) fun e w'' => e = .returned (.int .i64 (wI L bl k)) ∧ ∃ p : Regrown, w'' = grow (redrawn W2 p.d) p.os :=
          fun d os => Calls.regrown_of (warm_any wk bl rg qu ou sl fr L y k _ h1 h2 h3 h4 (by omega))
        gi_wp2
        refine regionR_below_tail (wideF _ _) 8 mixed (by kernel_rfl) (by kernel_rfl) ?_
        dsimp only [List.take_succ_cons, List.take_zero, List.drop_succ_cons, List.drop_zero]
        repeat (go_big_quiet_step (exact cW _ _))
        refine wpQuiet_nil ?_
        rintro _ ⟨⟨dq3, osq3⟩, rfl⟩
        obtain ⟨W3, hW3⟩ : ∃ W3, grow (redrawn W2 dq3) osq3 = W3 := ⟨_, rfl⟩
        rw [hW3]
        have hb3 : Below W2.heap.size W2 W3 := hW3 ▸ below_regrown W2 dq3 osq3
        clear hW3 k0 k1 k2 k3 k4 k5 k6 k7 k8 cW c0 c1 c2 c3 c4 c5 c6 c7 c8
        have hBr3 : W3.heap[Br]? = _ := (hb3.block Br (Array.getElem?_eq_some_iff.1 hBr2).1).trans hBr2
        obtain ⟨fn, tmps, assign, body, hy, hRo⟩ := hY pre ⟨(wI L bl k + bl, 1), by simp; omega, by simp; omega, by simp, by simp⟩ W3 (abides_below hJ (abides_below hJ hj hb2) hb3) (by omega)
        dsimp only [blkEnc] at hy
        gi_wp2
        refine hRo.mono ?_
        rintro e W4 (⟨rfl, hJ4, hk4⟩ | ⟨rfl, hJx4⟩)
        · gi_wp2
          go_roundw
          case rel => exact ⟨k + 1, _, by omega, HL.out hwl, by go_num, by rw [headL_succ]; simp [hpre], hJ4, hk4.trans hBr3⟩
          case measure => simp [intOf]; omega
        · gi_wp2
          refine bodyPost_ret (results_none rfl _ _ _) rfl ?_
          exact ⟨⟨_, rfl⟩, .inr ⟨_, trivial, hJx4⟩⟩
      · have k0 := cell_regrown c0; have k1 := cell_regrown c1; have k2 := cell_regrown c2; have k3 := cell_regrown c3; have k4 := cell_regrown c4
        have k5 := cell_regrown c5; have k6 := cell_regrown c6; have k7 := cell_regrown c7; have k8 := cell_regrown c8
        have cW : ∀ d os, Calls Try.prog 104 #[.agg (reckV wk bl rg qu ou sl fr L y), .int .i64 k] (grow (redrawn wr d) os) fun e w'' => e = .returned (.int .i64 (wI L bl k)) ∧ ∃ p : Regrown, w'' = grow (redrawn wr p.d) p.os :=
          fun d os => Calls.regrown_of (warm_any wk bl rg qu ou sl fr L y k _ h1 h2 h3 h4 (by omega))
        gi_wp2
        refine regionR_below (wideF _ _) mixed (by kernel_rfl) (by kernel_rfl) ?_
        repeat (go_big_quiet_step (exact cW _ _))
        refine wpQuiet_nil ?_
        rintro _ ⟨⟨dq, osq⟩, rfl⟩
        obtain ⟨W2, hW2⟩ : ∃ W2, grow (redrawn wr dq) osq = W2 := ⟨_, rfl⟩
        rw [hW2]
        have hb2 : Below wr.heap.size wr W2 := hW2 ▸ below_regrown wr dq osq
        clear hW2 k0 k1 k2 k3 k4 k5 k6 k7 k8 cW c0 c1 c2 c3 c4 c5 c6 c7 c8
        have hBr2 : W2.heap[Br]? = _ := (hb2.block Br (Array.getElem?_eq_some_iff.1 hBr1).1).trans hBr1
        obtain ⟨c0, c1, c2, c3, c4, c5, c6, c7, c8⟩ := cells W2 hBr2
        obtain ⟨fn, tmps, assign, body, hy, hRo⟩ := hY pre ⟨(L - 1 + bl, (K : Int) - (k : Int)), by simp; omega, by simp; omega, by simp; omega, by simp; omega⟩ W2 (abides_below hJ hj hb2) (by omega)
        dsimp only [blkEnc] at hy
        gi_wp2
        refine hRo.mono ?_
        clear c0 c1 c2 c3 c4 c5 c6 c7 c8
        rintro e W4 (⟨rfl, hJ4, hk4⟩ | ⟨rfl, hJx4⟩)
        · have hBr4 : W4.heap[Br]? = _ := hk4.trans hBr2
          obtain ⟨c0, c1, c2, c3, c4, c5, c6, c7, c8⟩ := cells _ hBr4
          by_cases hRp : 0 < R
          · gi_wp2_with fail
            refine (callsIn_wide.2 (warm_any wk bl rg qu ou sl fr L y K _ h1 h2 h3 h4 (by omega))).mono ?_
            rintro e W6 ⟨rfl, hb6⟩
            have hwK := wI_bd (L := L) (B := bl) h1 h3 K
            obtain ⟨fn2, tmps2, assign2, body2, hy2, hRo2⟩ := hY (pre ++ [⟨(L - 1 + bl, (K : Int) - (k : Int)), _⟩]) ⟨(wI L bl K + R, 1), by simp; omega, by simp; omega, by simp, by simp⟩ W6 (abides_below hJ hJ4 hb6) (by simp; omega)
            dsimp only [blkEnc] at hy2
            gi_wp2
            refine hRo2.mono ?_
            rintro e W7 (⟨rfl, hJ7, hk7⟩ | ⟨rfl, hJx7⟩)
            · gi_wp2
              go_end0
              exact ⟨⟨_, rfl⟩, .inl ⟨_, HS.out k hk (fun _ => by omega) _ (by rw [HT.out k]; simp [hpre, hRp, hlt, Int.ofNat_sub hk]), hJ7⟩⟩
            · gi_wp2
              go_end0
              exact ⟨⟨_, rfl⟩, .inr ⟨_, trivial, hJx7⟩⟩
          · gi_wp2
            go_end0
            exact ⟨⟨_, rfl⟩, .inl ⟨_, HS.out k hk (fun _ => by omega) _ (by rw [HT.out k, if_neg (by omega : ¬ 0 < R)]; simp [hpre, hlt, Int.ofNat_sub hk]), hJ4⟩⟩
        · gi_wp2
          refine bodyPost_ret (results_none rfl _ _ _) rfl ?_
          exact ⟨⟨_, rfl⟩, .inr ⟨_, trivial, hJx4⟩⟩
    · obtain rfl : k = K := by omega
      gi_wp2
      refine regionR_below (wideF _ _) mixed (by kernel_rfl) (by kernel_rfl) ?_
      repeat (go_big_quiet_step (fail))
      refine wpQuiet_nil ?_
      rintro _ ⟨⟨dq, osq⟩, rfl⟩
      obtain ⟨W2, hW2⟩ : ∃ W2, grow (redrawn wr dq) osq = W2 := ⟨_, rfl⟩
      rw [hW2]
      have hb2 : Below wr.heap.size wr W2 := hW2 ▸ below_regrown wr dq osq
      clear hW2 c0 c1 c2 c3 c4 c5 c6 c7 c8
      have hBr2 : W2.heap[Br]? = _ := (hb2.block Br (Array.getElem?_eq_some_iff.1 hBr1).1).trans hBr1
      have hj2 := abides_below hJ hj hb2
      obtain ⟨c0, c1, c2, c3, c4, c5, c6, c7, c8⟩ := cells _ hBr2
      by_cases hRp : 0 < R
      · gi_wp2_with fail
        refine (callsIn_wide.2 (warm_any wk bl rg qu ou sl fr L y k _ h1 h2 h3 h4 (by omega))).mono ?_
        rintro e W6 ⟨rfl, hb6⟩
        have hwK := wI_bd (L := L) (B := bl) h1 h3 k
        obtain ⟨fn2, tmps2, assign2, body2, hy2, hRo2⟩ := hY (pre) ⟨(wI L bl k + R, 1), by simp; omega, by simp; omega, by simp, by simp⟩ W6 (abides_below hJ hj2 hb6) (by omega)
        dsimp only [blkEnc] at hy2
        gi_wp2
        refine hRo2.mono ?_
        rintro e W7 (⟨rfl, hJ7, hk7⟩ | ⟨rfl, hJx7⟩)
        · gi_wp2
          go_end0
          exact ⟨⟨_, rfl⟩, .inl ⟨_, HS.out k hk (fun h => by omega) _ (by rw [HT.out k]; simp [hpre, hRp]), hJ7⟩⟩
        · gi_wp2
          go_end0
          exact ⟨⟨_, rfl⟩, .inr ⟨_, trivial, hJx7⟩⟩
      · gi_wp2
        go_end0
        exact ⟨⟨_, rfl⟩, .inl ⟨_, HS.out k hk (fun h => by omega) _ (by rw [HT.out k, if_neg (by omega : ¬ 0 < R)]; simp [hpre]), hj2⟩⟩

end Go.Proofs.Ytmpmjkbjnklgfaa

/- Slices of layer 28: for every configuration and every numbers. -/

namespace Go.Proofs.Ytmpmjkbjnklgfaa
open Go.RowKit Go.Sort
set_option linter.unusedVariables false
attribute [local go_sem] Oper.semAt_some
attribute [local simp] wide_fn wide_depth
attribute [local go_sem] wide_fn wide_depth

theorem blocks_stops (wk bl rg qu ou sl fr L y : Int) (n Br : Nat) (h1 : 1 ≤ L) (h2 : L ≤ 32) (h3 : 1 ≤ bl) (h4 : bl ≤ 256) (h5 : 0 ≤ y) (h6 : y ≤ 2147483647) (w : World)
    (hBr : w.heap[Br]? = some (.cells (reckV wk bl rg qu ou sl fr L y) 83 (0, 0))) :
    SeqStopsK Fence.wide n Try.prog 103 #[.pointer (some ⟨Br, 0, none⟩)] blkEnc (keepAt Br) (isBlocks L bl y) (fun _ => True) 34 w :=
  fun l J Jx W hW hJ hJx hY h0 => blocks_in wk bl rg qu ou sl fr L y n l Br h1 h2 h3 h4 h5 h6 J Jx W hJ hJx hY ((hW.block Br (Array.getElem?_eq_some_iff.1 hBr).1).trans hBr) h0

theorem blocks_any (wk bl rg qu ou sl fr L y : Int) (w : World) :
    Calls Try.prog 61 #[.agg (reckV wk bl rg qu ou sl fr L y)] w fun e w' => e = .returned (.func (.func 103) #[] #[.pointer (some ⟨w.heap.size, 0, none⟩)]) ∧ w' = w.alloc (.cells (reckV wk bl rg qu ou sl fr L y) 83) := by
  go_enter Try.func61, Try.ntmps61
  go_wp2
  go_ret
  exact ⟨rfl, rfl⟩

set_option maxHeartbeats 1000000 in
theorem slices_no (wk bl rg qu ou sl fr L y : Int) (w : World) (hr : rightB wk bl rg qu ou sl fr L y = false) :
    Calls Try.prog 15 #[.agg (confV wk bl rg qu ou sl fr), .int .i64 L, .int .i64 y] w fun e w' => e = .returned (.tuple #[.int .i64 0, .int .i64 2]) ∧ Below w.heap.size w w' := by
  go_enter Try.func15, Try.ntmps15
  go_wp2_with fail
  refine (rightR_any _ _ _ _ _ _ _ _ _ _).mono ?_
  rintro e w' ⟨rfl, hb⟩
  rw [hr]
  go_wp2
  go_ret2
  exact ⟨rfl, (((Below.refl _ _).alloc (Nat.le_refl _) _).alloc (by simp) _).trans (hb.mono (by simp; omega))⟩

theorem sumL_bd {S : Int} (hS : 1 ≤ S) (xs : List Blk) : 0 ≤ sumL S (xs.map (·.1)) ∧ sumL S (xs.map (·.1)) ≤ xs.length * 2147483647000 := by
  obtain ⟨n, hn⟩ : ∃ n, xs.length = n := ⟨_, rfl⟩
  induction n generalizing xs with
  | zero => obtain rfl := List.eq_nil_of_length_eq_zero hn; simp [sumL]
  | succ n ih' =>
    obtain ⟨l, x, rfl⟩ : ∃ l x, xs = l ++ [x] := ⟨xs.dropLast, xs.getLast (by intro h; simp [h] at hn), (List.dropLast_concat_getLast _).symm⟩
    have ih := ih' l (by simpa using hn)
    obtain ⟨⟨d, b⟩, hd0, hd1, hb0, hb1⟩ := x
    have hp := partsI_bd hS hd0
    dsimp only at *
    have m0 : 0 ≤ b * partsI S d := Int.mul_nonneg hb0 hp.1
    have m1 : b * partsI S d ≤ 2147483647 * 1000 := Int.mul_le_mul hb1 (by omega) hp.1 (by omega)
    rw [List.map_append, List.map_cons, List.map_nil, sumL_snoc]
    simp only [List.length_append, List.length_cons, List.length_nil]
    omega

set_option maxRecDepth 100000 in
set_option maxHeartbeats 4000000 in
theorem slices_yes (wk bl rg qu ou sl fr L y : Int) (w : World) (hr : rightB wk bl rg qu ou sl fr L y = true) :
    Calls Try.prog 15 #[.agg (confV wk bl rg qu ou sl fr), .int .i64 L, .int .i64 y] w fun e w' => e = .returned (.tuple #[.int .i64 (totalI L bl sl y), .int .i64 0]) ∧ Below w.heap.size w w' := by
  have hr0 := hr
  simp only [rightB, Bool.and_eq_true, confB_iff, btw, decide_eq_true_eq] at hr0
  obtain ⟨⟨⟨_, ⟨b1, b2⟩, _, _, _, ⟨s1, s2⟩, _⟩, l1, l2⟩, y1, y2⟩ := hr0
  refine calls_of_wp_M Try.func15 rfl ?_
  simp only [Try.ntmps15, List.size_toArray, List.length_cons, List.length_nil, Nat.reduceAdd, Nat.reduceSub, Array.replicate_succ, Array.replicate_zero, List.push_toArray, List.append_toArray, List.nil_append, List.cons_append]
  go_wp2_with fail
  refine (rightR_any _ _ _ _ _ _ _ _ _ _).mono ?_
  rintro e w1 ⟨rfl, hb⟩
  rw [hr]
  obtain ⟨hc, hf⟩ := bcell hb
  have hB1 : Below w.heap.size w w1 := (((Below.refl _ _).alloc (Nat.le_refl _) _).alloc (by simp) _).trans (hb.mono (by simp; omega))
  have hsz : w.heap.size + 1 < w1.heap.size := by have := hb.size; simp at this; omega
  have hR1 : w1.heap[w.heap.size + 1]? = some (.cells (reckV wk bl rg qu ou sl fr L y) 83 (0, 0)) := by
    refine (hb.block _ (by simp)).trans ?_
    have := World.alloc_heap_new (w.alloc (.cells (confV wk bl rg qu ou sl fr) 23)) (.cells (reckV wk bl rg qu ou sl fr L y) 83)
    rwa [World.size_alloc] at this
  go_wp2_with (go_at_call 61; refine (blocks_any _ _ _ _ _ _ _ _ _ _).mono ?_; rintro e w' ⟨rfl, rfl⟩)
  have hBr2 : ((w1.alloc (.cells #[.int .i64 0] 3)).alloc (.cells (reckV wk bl rg qu ou sl fr L y) 83)).heap[w1.heap.size + 1]? = some (.cells (reckV wk bl rg qu ou sl fr L y) 83 (0, 0)) := by
    have := World.alloc_heap_new (w1.alloc (.cells #[.int .i64 0] 3)) (.cells (reckV wk bl rg qu ou sl fr L y) 83)
    rwa [World.size_alloc] at this
  have bM := (Boxed.new w1 3 (.int .i64 0)).alloc (.cells (reckV wk bl rg qu ou sl fr L y) 83)
  have hB2 : Below w.heap.size w ((w1.alloc (.cells #[.int .i64 0] 3)).alloc (.cells (reckV wk bl rg qu ou sl fr L y) 83)) := (hB1.alloc (by omega) _).alloc (by simp; omega) _
  have hR2 : ((w1.alloc (.cells #[.int .i64 0] 3)).alloc (.cells (reckV wk bl rg qu ou sl fr L y) 83)).heap[w.heap.size + 1]? = some (.cells (reckV wk bl rg qu ou sl fr L y) 83 (0, 0)) := by
    rw [Below.heap_alloc _ _ _ (by simp; omega), Below.heap_alloc _ _ _ (by omega)]
    exact hR1
  apply rangeF rfl (enters_of Try.func103 (by kernel_rfl) rfl) (blocks_stops wk bl rg qu ou sl fr L y 8 (w1.heap.size + 1) l1 l2 b1 b2 y1 y2 _ hBr2) keepAt_t (keepAt_b (by simp)) (fun _ => rfl)
    (fun pre W => Boxed W w1.heap.size 3 (.int .i64 (sumL sl (pre.map (·.1)))) ∧ Below w.heap.size w W ∧ W.heap[w.heap.size + 1]? = some (.cells (reckV wk bl rg qu ou sl fr L y) 83 (0, 0)))
    (fun _ _ _ => False)
  case hI =>
    refine OwnFrom.and (Own.from (boxed_own _ _ _) _) (OwnFrom.and (ownFrom_below (Nat.le_refl _) (by simp; omega)) ?_)
    exact fun s A B row hs hg hrow => (hg.block _ (Array.getElem?_eq_some_iff.1 hs).1 (fun e => by have := (hrow _ e.symm).1; simp at this; omega)).trans hs
  case hIx => exact fun _ _ _ _ _ hs _ _ => hs
  case h0 => exact ⟨bM, hB2, hR2⟩
  case hassign =>
    intro l x W K hK
    unfold blkEnc
    gi_wp2
    exact hK
  case hbody =>
    rintro l pre ⟨⟨d, b⟩, hd0, hd1, hb0, hb1⟩ W ⟨hM, hB, hR⟩ hlen
    dsimp only at hd0 hd1 hb0 hb1 ⊢
    have hp := partsI_bd s1 hd0
    have hs := sumL_bd s1 pre
    have m0 : 0 ≤ b * partsI sl d := Int.mul_nonneg hb0 hp.1
    have m1 : b * partsI sl d ≤ 2147483647 * 1000 := Int.mul_le_mul hb1 (by omega) hp.1 (by omega)
    have hc := hM.cell
    have hf := hM.frozen
    have hcS : W.cell? ⟨w.heap.size + 1, 5, none⟩ = some (.int .i64 sl) := by simp [World.cell?, hR]
    gi_wp2
    refine regionR_drawn_tail (wideR _ _ _) 9 mixed (by kernel_rfl) (by kernel_rfl) ?_
    dsimp only [List.take_succ_cons, List.take_zero, List.drop_succ_cons, List.drop_zero]
    repeat (go_big_quiet_step (exact drawn_same (parts_any sl d _ s1 hd0 (by omega) (by omega))))
    refine wpQuiet_nil ?_
    rintro _ ⟨nq, rfl⟩
    gi_wp2
    have kO := (KeepsOthers.setCell W ⟨w1.heap.size, 0, none⟩ (.int .i64 (sumL sl (pre.map (·.1)) + b * partsI sl d))).from ((w1.alloc (.cells #[.int .i64 0] 3)).alloc (.cells (reckV wk bl rg qu ou sl fr L y) 83)).heap.size
    have kB := hB.setCell (p := ⟨w1.heap.size, 0, none⟩) (by show w.heap.size ≤ w1.heap.size; omega) (.int .i64 (sumL sl (pre.map (·.1)) + b * partsI sl d))
    refine ⟨⟨kO.size, kO.same⟩, ?_, ?_, ⟨kB.os, kB.tape, kB.output, kB.size, kB.block⟩, ?_⟩
    · exact Below.heap_setCell W ⟨w1.heap.size, 0, none⟩ _ _ (by simp)
    · rw [List.map_append, List.map_cons, List.map_nil, sumL_snoc]
      exact hM.set _
    · exact (Below.heap_setCell W ⟨w1.heap.size, 0, none⟩ _ _ (by simp; omega)).trans hR
  case hdone =>
    rintro D xs W hD hS ⟨hM, hB, hR⟩ hK
    have hc := hM.cell
    have hT : Hid (sumL sl (xs.map (·.1)) = totalI L bl sl y) := by
      obtain ⟨k0, hk, hcond, hx⟩ := hS
      rw [hx]
      exact sumL_all b1 hk hcond
    go_wp2
    refine endM rfl hK (results_tmp2 rfl _ _ _) ⟨?_, put_below hB (by simp at hD; omega) (Nat.le_refl _) _⟩
    rw [← hT.out]
    rfl
  case hstop => exact fun _ _ _ _ _ _ h _ => h.elim

end Go.Proofs.Ytmpmjkbjnklgfaa
