/- Parts of the proof, one behind the other: Reg, Bm, B1, Rf, B2, B3, Bn, B4, Fr, Lp, L1, B5, B6, B7, L2. No condition but what each theorem states. -/
import Derived.Lib.QuietBelowIn
import Derived.StillTail
import Derived.TacticsIn
import Derived.WalkKit
import Derived.Test.YtjfhefffbkpgkaaGreatProg
import Derived.WalkLawsBesides
import Derived.Deep.QuietTactic
import Derived.BigQuiet
import Derived.RangeFuncNested
import Derived.RangeFuncBound
import Derived.RangeFuncCalls
import Derived.RangeFuncLeaves
import Derived.RangeFuncBox
import Derived.Shelf.Abstract
import Derived.Shelf.RegionOpen
import Derived.OwnWalkIn
import Derived.TacticsInMore
import Derived.LoopNIn
import Derived.LoopIn
import Derived.StillTailTactics
import Derived.Lib.Hide
import Derived.Test.YtjfhefffbkpgkaaGreatRows
import Derived.ProofKit
import Derived.OpenShut
import Derived.ShutString
import Derived.ChangeOld
import Derived.Lib.SmallJoins
import Derived.Lib.QuietBelow
import Derived.Stop.Walk2
import Derived.Deep.RegionHeld3
import Derived.Lib.MinMax

/- A region that draws its order, whose first m operations are quiet in a class of worlds and whose last ones come one behind the other: plain, and in a fence (in a round, too). Conditions: as each theorem states. -/




namespace Go.Proofs.YtjfhefffbkpgkaaGreat
open Go Go.RowKit Go.Sort

/-! ### plain -/
section plain
variable {P : Program} {ops : Array Oper} {md : Region.Mode} {C : World → Prop}

def headQ (P : Program) (md : Region.Mode) (ops : Array Oper) (C : World → Prop) (m : Nat) (L : Array Bool → Act → Prop) : Nat → Array Bool → Act → Prop
  | 0, listed, a => L listed a
  | f + 1, listed, a => Region.ready md ops listed ≠ [] ∧ ∀ i ∈ Region.ready md ops listed, i < m ∧ qOp P ops C i (headQ P md ops C m L f (listed.setIfInBounds i true)) a

theorem any_of_headQ {m g : Nat} {L : Array Bool → Act → Prop} {Q' : Exit → Act → World → Prop} (hL : ∀ listed a w, C w → L listed a → wpAny P md ops Q' g listed a w) :
    ∀ (f : Nat) (listed : Array Bool) (a : Act) (w : World), C w → headQ P md ops C m L f listed a → wpAny P md ops Q' (f + g) listed a w
  | 0, listed, a, w, hw, h => by rw [Nat.zero_add]; exact hL _ _ _ hw h
  | f + 1, listed, a, w, hw, h => by
    rw [show f + 1 + g = (f + g) + 1 by omega]
    exact ⟨fun h0 => absurd h0 h.1, fun i hi => wpOp_of_qOp hw (fun a' w' hw' h' => any_of_headQ hL f _ a' w' hw' h') (h.2 i hi).2⟩

theorem headQ_first {m i : Nat} {oi : Oper} {v : Value} {L : Array Bool → Act → Prop} (hi : ops[i]? = some oi) (hsel : ∀ (j : Nat) (o : Oper) cs b, ops[j]? = some o → o.op ≠ .select cs b)
    (hs : Region.sinkB md ops m = true) (hc : Region.chainB md ops m = true) (hm : m < ops.size) (him : i < m)
    (hdone : ∀ listed a, L listed a → ∀ j ∈ Region.ready md ops listed, m ≤ j) :
    ∀ (f : Nat) (listed : Array Bool) (a : Act), HeadInv md ops m listed →
      (∀ j oj, ops[j]? = some oj → j ≠ i → listed.getD j true = false → (∀ e ∈ oj.after, Region.binds md e = true → e.on ≠ i) → oi.apart ops oj = true) →
      i ∈ Region.ready md ops listed → YieldsIn P ops C oi v a →
      headQ P md ops C m L f (listed.setIfInBounds i true) (a.put oi.dst v) → headQ P md ops C m L (f + 1) listed a := by
  intro f
  induction f with
  | zero =>
    intro listed a inv _ hr hy H
    have hun := (mem_ready.1 hr).1
    refine ⟨fun h => (by rw [h] at hr; cases hr), fun j hj => ?_⟩
    have hjm : j < m := by
      rcases Nat.lt_or_ge j m with h | h
      · exact h
      · exact absurd hj (tail_waits hs hc hm inv _ i rfl him hun j h)
    refine ⟨hjm, ?_⟩
    by_cases hji : j = i
    · subst hji; exact hy.qOp hi H
    · have := hdone _ _ H j (ready_mono hj hji)
      omega
  | succ f ih =>
    intro listed a inv hfree hr hy H
    have hun := (mem_ready.1 hr).1
    refine ⟨fun h => (by rw [h] at hr; cases hr), fun j hj => ?_⟩
    have hjm : j < m := by
      rcases Nat.lt_or_ge j m with h | h
      · exact h
      · exact absurd hj (tail_waits hs hc hm inv _ i rfl him hun j h)
    refine ⟨hjm, ?_⟩
    by_cases hji : j = i
    · subst hji; exact hy.qOp hi H
    · have h1 := (H.2 j (ready_mono hj hji)).2
      obtain ⟨hjun, oj, hoj, hall⟩ := mem_ready.1 hj
      have hnot : ∀ e ∈ oj.after, Region.binds md e = true → e.on ≠ i := fun e he hb heq => by
        have h1 := hall e he hb
        rw [heq, getD_both hun] at h1
        cases h1
      have h2 := qOp_put hoj (hfree j oj hoj hji hjun hnot) (fun cs b => hsel i oi cs b hi) (fun cs b => hsel j oj cs b hoj) hy h1
      have hfree' : ∀ k ok, ops[k]? = some ok → k ≠ i → (listed.setIfInBounds j true).getD k true = false →
          (∀ e ∈ ok.after, Region.binds md e = true → e.on ≠ i) → oi.apart ops ok = true := fun k ok hk hki hkun hno => by
        refine hfree k ok hk hki ?_ hno
        by_cases hjk : j = k
        · subst hjk; exact hjun
        · rw [getD_set_ne true hjk] at hkun; exact hkun
      refine qOp_mono (fun a' h3 => ih (listed.setIfInBounds j true) a' (inv.set hj hjm) hfree' (ready_mono hr (Ne.symm hji)) h3.1 ?_) h2
      rw [Array.setIfInBounds_comm _ _ hji]
      exact h3.2

theorem headQ_lex {m g : Nat} {Lq : Act → Prop} (hsel : Region.noSelect ops = true) (hs : Region.sinkB md ops m = true) (hc : Region.chainB md ops m = true) (hm : m < ops.size) :
    ∀ (l : List Oper) (k : Nat) (listed : Array Bool) (a : Act), (∀ j, j < l.length → l[j]? = ops[k + j]?) → k + l.length = m → HeadInv md ops m listed →
    Region.lexHead md ops g l.length k listed = true → wpQuiet P ops C Lq l a →
    headQ P md ops C m (fun listed' a' => Region.seqB md ops g m listed' = true ∧ Lq a') l.length listed a
  | [], k, listed, a, _, hk, _, hB, h => by
    have : k = m := by simpa using hk
    subst this
    exact ⟨by simpa [Region.lexHead] using hB, h⟩
  | o :: l, k, listed, a, hl, hk, inv, hB, h => by
    have h0 : ops[k]? = some o := by simpa using (hl 0 (by simp)).symm
    simp only [List.length_cons, Region.lexHead, Bool.and_eq_true] at hB
    obtain ⟨⟨hr, hf⟩, hB'⟩ := hB
    have hkm : k < m := by simp only [List.length_cons] at hk; omega
    have hr' : k ∈ Region.ready md ops listed := by simpa using hr
    have hst : qOp P ops C k (wpQuiet P ops C Lq l) a := by unfold qOp; simp only [h0]; exact h
    obtain ⟨v, hy, hK⟩ := yieldsIn_of_qOp h0 hst
    exact headQ_first h0 (Region.noSelect_spec hsel) hs hc hm hkm (fun listed' a' hL => seqB_ready hL.1) l.length listed a inv (Region.free_spec h0 hf) hr' hy
      (headQ_lex hsel hs hc hm l (k + 1) _ _ (fun j hj => by have := hl (j + 1) (by simp; omega); simpa [Nat.add_assoc, Nat.add_comm 1 j] using this) (by simp only [List.length_cons] at hk; omega) (inv.set hr' hkm) hB' hK)

/-- The first m operations quiet in the class C, the others one behind the other. -/
theorem region_quiet_tail {id : Nat} {Q : Exit → Act → World → Prop} {a : Act} {w : World} {l : List Oper} (m : Nat) (hmx : P.follows .mixedOrders = true) (hB : Region.lexTailB .any l.toArray m = true) (hC : C { w with drawn := w.drawn + 1 })
    (h : wpQuiet P l.toArray C (fun a' => ∀ w', C w' → wpList P l.toArray Q (l.drop m) a' w') (l.take m) a) : (Code.region id l.toArray true).wp P Q a w := by
  simp only [Region.lexTailB, Bool.and_eq_true, decide_eq_true_eq] at hB
  obtain ⟨⟨⟨⟨hsel, hn⟩, hs⟩, hc⟩, hlex⟩ := hB
  have hn' : m < l.length := by simpa using hn
  have htl : (l.take m).length = m := by simp; omega
  have hdl : (l.drop m).length = l.toArray.size - m := by simp
  have inv0 : HeadInv .any l.toArray m (Array.replicate l.toArray.size false) :=
    ⟨by simp, fun j oj _ hl => (by rw [getD_replicate_false] at hl; cases hl), fun t _ ht => getD_in (by simpa using ht) (getD_replicate_false _ _)⟩
  have H := headQ_lex (md := .any) (g := l.toArray.size - m) hsel hs hc hn (l.take m) 0 _ a (fun j hj => by
    have hj' : j < m := by rw [htl] at hj; exact hj
    simp [hj']) (by simpa using htl) inv0 (by rw [htl]; exact hlex) h
  refine wp_region_any hmx ?_
  have := any_of_headQ (Q' := Q) (g := l.toArray.size - m) (fun listed a' w' hw' hL => by
    have := wpAny_of_seq (md := .any) (Q' := Q) (l.drop m) m listed a' w' (fun j => by simp [List.getElem?_drop]) (by rw [hdl]; exact hL.1) (hL.2 w' hw')
    rwa [hdl] at this) _ _ _ _ hC H
  rw [htl, show m + (l.toArray.size - m) = l.toArray.size by omega] at this
  exact this

/-- The same at the class 'what was there lies as it lay, blocks may have been laid'. -/
theorem region_below_tail {id : Nat} {Q : Exit → Act → World → Prop} {a : Act} {w : World} {l : List Oper} (m : Nat) (hmx : P.follows .mixedOrders = true) (hB : Region.lexTailB .any l.toArray m = true)
    (h : wpQuiet P l.toArray (fun w' => ∃ p : Regrown, w' = grow (redrawn w p.d) p.os) (fun a' => ∀ w', (∃ p : Regrown, w' = grow (redrawn w p.d) p.os) → wpList P l.toArray Q (l.drop m) a' w') (l.take m) a) : (Code.region id l.toArray true).wp P Q a w :=
  region_quiet_tail (C := fun w' => ∃ p : Regrown, w' = grow (redrawn w p.d) p.os) m hmx hB ⟨⟨w.drawn + 1, #[]⟩, by rw [grow_empty]; rfl⟩ h

/-- .. at the class 'the same world, but for draws'. -/
theorem region_drawn_tail {id : Nat} {Q : Exit → Act → World → Prop} {a : Act} {w : World} {l : List Oper} (m : Nat) (hmx : P.follows .mixedOrders = true) (hB : Region.lexTailB .any l.toArray m = true)
    (h : wpQuiet P l.toArray (fun w' => ∃ n, w' = w.drewN n) (fun a' => ∀ w', (∃ n, w' = w.drewN n) → wpList P l.toArray Q (l.drop m) a' w') (l.take m) a) : (Code.region id l.toArray true).wp P Q a w :=
  region_quiet_tail (C := fun w' => ∃ n, w' = w.drewN n) m hmx hB ⟨1, rfl⟩ h
end plain

/-! ### in a fence, in a round -/
section fenced
variable {F : Fence} {n : Nat} {P : Program} {ops : Array Oper} {md : Region.Mode} {C : World → Prop}

def noDefer (ops : Array Oper) : Bool := ops.all fun o => match o.op with | .defer _ => false | _ => true
theorem noDefer_spec (h : noDefer ops = true) {i : Nat} {o : Oper} (hi : ops[i]? = some o) : ∀ c, o.op ≠ .defer c := by
  intro c hc
  have := Array.all_eq_true'.1 h o (Array.mem_of_getElem? hi)
  simp [hc] at this

theorem wpIn_of_quietR {o : Oper} {a : Act} {K : Act → Prop} {K' : Act → World → Prop} {Q' : Exit → Act → World → Prop} {w : World} (hnd : ∀ c, o.op ≠ .defer c) (hw : C w) (h : ∀ a w', C w' → K a → K' a w')
    (ha : o.askedIn F P a C) (hh : o.quietIn F n P a C K) : o.wpIn F n P a w K' Q' := by
  obtain ⟨v, h1, h2⟩ := hh
  have h3 := h1 w hw
  unfold Oper.quietAtIn at h3
  unfold Oper.wpIn
  refine ⟨ha w hw, ?_⟩
  rw [Oper.semAt_eq _ _ _ hnd]
  generalize (execOp a.eval o).run P w = r at *
  cases r with
  | ok x w' =>
    cases x <;> simp only [Oper.quietUponIn] at h3 <;> simp only [Oper.uponIn]
    case value u =>
      obtain ⟨e1, e2⟩ := h3
      rw [e1, e2]
      exact h _ _ hw h2
    case skip =>
      obtain ⟨e1, e2⟩ := h3
      rw [e1, ← e2]
      exact h _ _ hw h2
    case enter f args =>
      obtain ⟨e1, hd, hc⟩ := h3
      rw [e1]
      exact ⟨hd, hc.mono fun e w'' ⟨he, hw''⟩ => by subst he; exact h _ _ hw'' h2⟩
  | halt x w' => simp only [Oper.quietUponIn] at h3

theorem opIn_of_quietR {i : Nat} {a : Act} {K : Act → Prop} {K' : Act → World → Prop} {Q' : Exit → Act → World → Prop} {w : World} (hnd : noDefer ops = true) (hC : C w) (h : ∀ a w', C w' → K a → K' a w')
    (hh : qOpIn F n P ops C i K a) : wpOpIn F n P ops Q' i K' a w := by
  unfold qOpIn at hh
  unfold wpOpIn
  split
  · rename_i ho; simp only [ho] at hh; exact h _ _ hC hh
  · rename_i o ho
    simp only [ho] at hh
    obtain ⟨ha, hh⟩ := hh
    split
    · rename_i hw; simp only [hw, if_true] at hh; exact wpIn_of_quietR (noDefer_spec hnd ho) hC h ha hh
    · rename_i hw; simp only [hw] at hh; exact ⟨ha w hC, h _ _ hC hh⟩

def headQIn (F : Fence) (n : Nat) (P : Program) (md : Region.Mode) (ops : Array Oper) (C : World → Prop) (m : Nat) (L : Array Bool → Act → Prop) : Nat → Array Bool → Act → Prop
  | 0, listed, a => L listed a
  | f + 1, listed, a => Region.ready md ops listed ≠ [] ∧ ∀ i ∈ Region.ready md ops listed, i < m ∧ qOpIn F n P ops C i (headQIn F n P md ops C m L f (listed.setIfInBounds i true)) a

theorem any_of_headQIn {m g : Nat} {L : Array Bool → Act → Prop} {Q' : Exit → Act → World → Prop} (hnd : noDefer ops = true) (hL : ∀ listed a w, C w → L listed a → wpAnyIn F n P md ops Q' g listed a w) :
    ∀ (f : Nat) (listed : Array Bool) (a : Act) (w : World), C w → headQIn F n P md ops C m L f listed a → wpAnyIn F n P md ops Q' (f + g) listed a w
  | 0, listed, a, w, hw, h => by rw [Nat.zero_add]; exact hL _ _ _ hw h
  | f + 1, listed, a, w, hw, h => by
    rw [show f + 1 + g = (f + g) + 1 by omega]
    exact ⟨fun h0 => absurd h0 h.1, fun i hi => opIn_of_quietR hnd hw (fun a' w' hw' h' => any_of_headQIn hnd hL f _ a' w' hw' h') (h.2 i hi).2⟩

theorem headQIn_first {m i : Nat} {oi : Oper} {v : Value} {L : Array Bool → Act → Prop} (hi : ops[i]? = some oi) (hsel : ∀ (j : Nat) (o : Oper) cs b, ops[j]? = some o → o.op ≠ .select cs b)
    (hs : Region.sinkB md ops m = true) (hc : Region.chainB md ops m = true) (hm : m < ops.size) (him : i < m)
    (hdone : ∀ listed a, L listed a → ∀ j ∈ Region.ready md ops listed, m ≤ j) :
    ∀ (f : Nat) (listed : Array Bool) (a : Act), HeadInv md ops m listed →
      (∀ j oj, ops[j]? = some oj → j ≠ i → listed.getD j true = false → (∀ e ∈ oj.after, Region.binds md e = true → e.on ≠ i) → oi.apart ops oj = true) →
      i ∈ Region.ready md ops listed → YieldsQuiet F n P ops C oi v a →
      headQIn F n P md ops C m L f (listed.setIfInBounds i true) (a.put oi.dst v) → headQIn F n P md ops C m L (f + 1) listed a := by
  intro f
  induction f with
  | zero =>
    intro listed a inv _ hr hy H
    have hun := (mem_ready.1 hr).1
    refine ⟨fun h => (by rw [h] at hr; cases hr), fun j hj => ?_⟩
    have hjm : j < m := by
      rcases Nat.lt_or_ge j m with h | h
      · exact h
      · exact absurd hj (tail_waits hs hc hm inv _ i rfl him hun j h)
    refine ⟨hjm, ?_⟩
    by_cases hji : j = i
    · subst hji; exact hy.qOpIn hi H
    · have := hdone _ _ H j (ready_mono hj hji)
      omega
  | succ f ih =>
    intro listed a inv hfree hr hy H
    have hun := (mem_ready.1 hr).1
    refine ⟨fun h => (by rw [h] at hr; cases hr), fun j hj => ?_⟩
    have hjm : j < m := by
      rcases Nat.lt_or_ge j m with h | h
      · exact h
      · exact absurd hj (tail_waits hs hc hm inv _ i rfl him hun j h)
    refine ⟨hjm, ?_⟩
    by_cases hji : j = i
    · subst hji; exact hy.qOpIn hi H
    · have h1 := (H.2 j (ready_mono hj hji)).2
      obtain ⟨hjun, oj, hoj, hall⟩ := mem_ready.1 hj
      have hnot : ∀ e ∈ oj.after, Region.binds md e = true → e.on ≠ i := fun e he hb heq => by
        have h1 := hall e he hb
        rw [heq, getD_both hun] at h1
        cases h1
      have h2 := qOpIn_put hoj (hfree j oj hoj hji hjun hnot) (fun cs b => hsel i oi cs b hi) (fun cs b => hsel j oj cs b hoj) hy h1
      have hfree' : ∀ k ok, ops[k]? = some ok → k ≠ i → (listed.setIfInBounds j true).getD k true = false →
          (∀ e ∈ ok.after, Region.binds md e = true → e.on ≠ i) → oi.apart ops ok = true := fun k ok hk hki hkun hno => by
        refine hfree k ok hk hki ?_ hno
        by_cases hjk : j = k
        · subst hjk; exact hjun
        · rw [getD_set_ne true hjk] at hkun; exact hkun
      refine qOpIn_mono (fun a' h3 => ih (listed.setIfInBounds j true) a' (inv.set hj hjm) hfree' (ready_mono hr (Ne.symm hji)) h3.1 ?_) h2
      rw [Array.setIfInBounds_comm _ _ hji]
      exact h3.2

theorem headQIn_lex {m g : Nat} {Lq : Act → Prop} (hsel : Region.noSelect ops = true) (hs : Region.sinkB md ops m = true) (hc : Region.chainB md ops m = true) (hm : m < ops.size) :
    ∀ (l : List Oper) (k : Nat) (listed : Array Bool) (a : Act), (∀ j, j < l.length → l[j]? = ops[k + j]?) → k + l.length = m → HeadInv md ops m listed →
    Region.lexHead md ops g l.length k listed = true → wpQuietIn F n P ops C Lq l a →
    headQIn F n P md ops C m (fun listed' a' => Region.seqB md ops g m listed' = true ∧ Lq a') l.length listed a
  | [], k, listed, a, _, hk, _, hB, h => by
    have : k = m := by simpa using hk
    subst this
    exact ⟨by simpa [Region.lexHead] using hB, h⟩
  | o :: l, k, listed, a, hl, hk, inv, hB, h => by
    have h0 : ops[k]? = some o := by simpa using (hl 0 (by simp)).symm
    simp only [List.length_cons, Region.lexHead, Bool.and_eq_true] at hB
    obtain ⟨⟨hr, hf⟩, hB'⟩ := hB
    have hkm : k < m := by simp only [List.length_cons] at hk; omega
    have hr' : k ∈ Region.ready md ops listed := by simpa using hr
    have hst : qOpIn F n P ops C k (wpQuietIn F n P ops C Lq l) a := by unfold qOpIn; simp only [h0]; exact h
    obtain ⟨v, hy, hK⟩ := yieldsQuiet_of_qOpIn h0 hst
    exact headQIn_first h0 (Region.noSelect_spec hsel) hs hc hm hkm (fun listed' a' hL => seqB_ready hL.1) l.length listed a inv (Region.free_spec h0 hf) hr' hy
      (headQIn_lex hsel hs hc hm l (k + 1) _ _ (fun j hj => by have := hl (j + 1) (by simp; omega); simpa [Nat.add_assoc, Nat.add_comm 1 j] using this) (by simp only [List.length_cons] at hk; omega) (inv.set hr' hkm) hB' hK)

theorem anyIn_of_seq {Q' : Exit → Act → World → Prop} : ∀ (l : List Oper) (k : Nat) (listed : Array Bool) (a : Act) (w : World), (∀ j, l[j]? = ops[k + j]?) →
    Region.seqB md ops l.length k listed = true → wpListIn F n P ops Q' l a w → wpAnyIn F n P md ops Q' l.length listed a w
  | [], _, _, _, _, _, hB, h => ⟨by simpa [Region.seqB] using hB, h⟩
  | o :: l, k, listed, a, w, hl, hB, h => by
    have h0 : ops[k]? = some o := by simpa using (hl 0).symm
    simp only [List.length_cons, Region.seqB, Bool.and_eq_true, decide_eq_true_eq] at hB
    refine ⟨fun h1 => (by rw [hB.1] at h1; cases h1), fun i hi => ?_⟩
    rw [hB.1] at hi
    have hik : i = k := by simpa using hi
    subst hik
    have hw : wpOpIn F n P ops Q' i (wpListIn F n P ops Q' l) a w := by unfold wpOpIn; simp only [h0]; exact h
    exact wpOpIn_mono (fun a' w' h' => anyIn_of_seq l (i + 1) _ a' w' (fun j => by have := hl (j + 1); simpa [Nat.add_assoc, Nat.add_comm 1 j] using this) hB.2 h') hw

theorem regionIn_quiet_tail {id : Nat} {Q : Exit → Act → World → Prop} {a : Act} {w : World} {l : List Oper} (m : Nat) (hmx : P.follows .mixedOrders = true) (hB : Region.lexTailB .any l.toArray m = true) (hnd : noDefer l.toArray = true) (hC : C { w with drawn := w.drawn + 1 })
    (h : wpQuietIn F n P l.toArray C (fun a' => ∀ w', C w' → wpListIn F n P l.toArray Q (l.drop m) a' w') (l.take m) a) : (Code.region id l.toArray true).wpIn F n P Q a w := by
  simp only [Region.lexTailB, Bool.and_eq_true, decide_eq_true_eq] at hB
  obtain ⟨⟨⟨⟨hsel, hn⟩, hs⟩, hc⟩, hlex⟩ := hB
  have hn' : m < l.length := by simpa using hn
  have htl : (l.take m).length = m := by simp; omega
  have hdl : (l.drop m).length = l.toArray.size - m := by simp
  have inv0 : HeadInv .any l.toArray m (Array.replicate l.toArray.size false) :=
    ⟨by simp, fun j oj _ hl => (by rw [getD_replicate_false] at hl; cases hl), fun t _ ht => getD_in (by simpa using ht) (getD_replicate_false _ _)⟩
  have H := headQIn_lex (md := .any) (g := l.toArray.size - m) hsel hs hc hn (l.take m) 0 _ a (fun j hj => by
    have hj' : j < m := by rw [htl] at hj; exact hj
    simp [hj']) (by simpa using htl) inv0 (by rw [htl]; exact hlex) h
  refine wpIn_region_any hmx ?_
  have := any_of_headQIn (Q' := Q) (g := l.toArray.size - m) hnd (fun listed a' w' hw' hL => by
    have := anyIn_of_seq (md := .any) (Q' := Q) (l.drop m) m listed a' w' (fun j => by simp [List.getElem?_drop]) (by rw [hdl]; exact hL.1) (hL.2 w' hw')
    rwa [hdl] at this) _ _ _ _ hC H
  rw [htl, show m + (l.toArray.size - m) = l.toArray.size by omega] at this
  exact this

theorem anyIn_of_quietR {Q : Act → Prop} {Q' : Exit → Act → World → Prop} (hnd : noDefer ops = true) (hQ : ∀ a w, C w → Q a → Q' .normal a w) : ∀ (fuel : Nat) (listed : Array Bool) (a : Act) (w : World), C w →
    wpAnyQIn F n P md ops C Q fuel listed a → wpAnyIn F n P md ops Q' fuel listed a w
  | 0, _, _, _, hw, h => ⟨h.1, hQ _ _ hw h.2⟩
  | fuel + 1, _, _, _, hw, h => ⟨fun h0 => hQ _ _ hw (h.1 h0), fun i hi => opIn_of_quietR hnd hw (fun a' w' hw' => anyIn_of_quietR hnd hQ fuel _ a' w' hw') (h.2 i hi)⟩

/-- All operations quiet, in a round, too. -/
theorem regionIn_quiet {id : Nat} {Q : Exit → Act → World → Prop} {a : Act} {w : World} {l : List Oper} (hmx : P.follows .mixedOrders = true) (hB : Region.lexB .any l.toArray = true) (hnd : noDefer l.toArray = true) (hC : C { w with drawn := w.drawn + 1 })
    (h : wpQuietIn F n P l.toArray C (fun a' => ∀ w', C w' → Q .normal a' w') l a) : (Code.region id l.toArray true).wpIn F n P Q a w := by
  simp only [Region.lexB, Bool.and_eq_true] at hB
  refine wpIn_region_any hmx (anyIn_of_quietR (Q := fun a' => ∀ w', C w' → Q .normal a' w') hnd (fun _ w' hw' h => h w' hw') _ _ _ _ hC ?_)
  have := wpAnyQIn_lex (F := F) (n := n) (C := C) (md := .any) hB.1 l 0 (Array.replicate l.toArray.size false) a (by simp) (by simpa using hB.2) h
  simpa using this

theorem regionIn_below {id : Nat} {Q : Exit → Act → World → Prop} {a : Act} {w : World} {l : List Oper} (hmx : P.follows .mixedOrders = true) (hB : Region.lexB .any l.toArray = true) (hnd : noDefer l.toArray = true)
    (h : wpQuietIn F n P l.toArray (fun w' => ∃ p : Regrown, w' = grow (redrawn w p.d) p.os) (fun a' => ∀ w', (∃ p : Regrown, w' = grow (redrawn w p.d) p.os) → Q .normal a' w') l a) : (Code.region id l.toArray true).wpIn F n P Q a w :=
  regionIn_quiet (C := fun w' => ∃ p : Regrown, w' = grow (redrawn w p.d) p.os) hmx hB hnd ⟨⟨w.drawn + 1, #[]⟩, by rw [grow_empty]; rfl⟩ h

theorem regionIn_below_tail {id : Nat} {Q : Exit → Act → World → Prop} {a : Act} {w : World} {l : List Oper} (m : Nat) (hmx : P.follows .mixedOrders = true) (hB : Region.lexTailB .any l.toArray m = true) (hnd : noDefer l.toArray = true)
    (h : wpQuietIn F n P l.toArray (fun w' => ∃ p : Regrown, w' = grow (redrawn w p.d) p.os) (fun a' => ∀ w', (∃ p : Regrown, w' = grow (redrawn w p.d) p.os) → wpListIn F n P l.toArray Q (l.drop m) a' w') (l.take m) a) : (Code.region id l.toArray true).wpIn F n P Q a w :=
  regionIn_quiet_tail (C := fun w' => ∃ p : Regrown, w' = grow (redrawn w p.d) p.os) m hmx hB hnd ⟨⟨w.drawn + 1, #[]⟩, by rw [grow_empty]; rfl⟩ h

theorem regionIn_drawn_tail {id : Nat} {Q : Exit → Act → World → Prop} {a : Act} {w : World} {l : List Oper} (m : Nat) (hmx : P.follows .mixedOrders = true) (hB : Region.lexTailB .any l.toArray m = true) (hnd : noDefer l.toArray = true)
    (h : wpQuietIn F n P l.toArray (fun w' => ∃ n, w' = w.drewN n) (fun a' => ∀ w', (∃ n, w' = w.drewN n) → wpListIn F n P l.toArray Q (l.drop m) a' w') (l.take m) a) : (Code.region id l.toArray true).wpIn F n P Q a w :=
  regionIn_quiet_tail (C := fun w' => ∃ n, w' = w.drewN n) m hmx hB hnd ⟨1, rfl⟩ h

theorem regionIn_drawn {id : Nat} {Q : Exit → Act → World → Prop} {a : Act} {w : World} {l : List Oper} (hmx : P.follows .mixedOrders = true) (hB : Region.lexB .any l.toArray = true) (hnd : noDefer l.toArray = true)
    (h : wpQuietIn F n P l.toArray (fun w' => ∃ n, w' = w.drewN n) (fun a' => ∀ w', (∃ n, w' = w.drewN n) → Q .normal a' w') l a) : (Code.region id l.toArray true).wpIn F n P Q a w :=
  regionIn_quiet (C := fun w' => ∃ n, w' = w.drewN n) hmx hB hnd ⟨1, rfl⟩ h
end fenced

/-! ### the wide fence, in a round or not: the quiet part walked plainly -/
section wide
variable {F : Fence} {n : Nat} {P : Program} {ops : Array Oper} {C : World → Prop}

structure WideF (F : Fence) (n : Nat) (P : Program) : Prop where
  fn : ∀ f, F.fn f
  depth : F.depth = none
  calls : ∀ {f args w R}, Calls P f args w R → CallsIn F (n - 1) P f args w R

theorem wideF (n : Nat) (P : Program) : WideF Fence.wide n P := ⟨fun _ => trivial, rfl, fun h => callsIn_wide.2 h⟩
theorem wideR (n : Nat) (P : Program) (l : Nat) : WideF (Fence.wide.inRound l) n P := ⟨fun _ => trivial, rfl, fun h => (callsIn_wide (n := n - 1)).2 h⟩

theorem quietIn_of_quiet (hw : WideF F n P) {Q : Act → Prop} : ∀ (l : List Oper) (a : Act), wpQuiet P ops C Q l a → wpQuietIn F n P ops C Q l a
  | [], _, h => h
  | o :: l, a, h => by
    refine ⟨fun _ _ f _ => hw.fn f, ?_⟩
    unfold wpQuiet at h
    split
    · rename_i hg
      rw [if_pos hg] at h
      obtain ⟨v, h1, h2⟩ := h
      refine ⟨v, fun w hc => ?_, quietIn_of_quiet hw l _ h2⟩
      have := h1 w hc
      unfold Oper.quietAt at this
      unfold Oper.quietAtIn
      generalize (execOp a.eval o).run P w = r at *
      cases r with
      | ok x w' =>
        cases x <;> simp only [Oper.quietUpon] at this <;> simp only [Oper.quietUponIn]
        case value u => exact this
        case skip => exact this
        case enter f args =>
          refine ⟨this.1, ?_, hw.calls this.2⟩
          intro hd
          rw [hw.depth] at hd
          cases hd
      | halt x w' => simp only [Oper.quietUpon] at this
    · rename_i hg
      rw [if_neg hg] at h
      exact quietIn_of_quiet hw l _ h

theorem regionR_below (hw : WideF F n P) {id : Nat} {Q : Exit → Act → World → Prop} {a : Act} {w : World} {l : List Oper} (hmx : P.follows .mixedOrders = true) (hB : Region.lexB .any l.toArray = true) (hnd : noDefer l.toArray = true)
    (h : wpQuiet P l.toArray (fun w' => ∃ p : Regrown, w' = grow (redrawn w p.d) p.os) (fun a' => ∀ w', (∃ p : Regrown, w' = grow (redrawn w p.d) p.os) → Q .normal a' w') l a) : (Code.region id l.toArray true).wpIn F n P Q a w :=
  regionIn_below hmx hB hnd (quietIn_of_quiet hw _ _ h)

theorem regionR_below_tail (hw : WideF F n P) {id : Nat} {Q : Exit → Act → World → Prop} {a : Act} {w : World} {l : List Oper} (m : Nat) (hmx : P.follows .mixedOrders = true) (hB : Region.lexTailB .any l.toArray m = true) (hnd : noDefer l.toArray = true)
    (h : wpQuiet P l.toArray (fun w' => ∃ p : Regrown, w' = grow (redrawn w p.d) p.os) (fun a' => ∀ w', (∃ p : Regrown, w' = grow (redrawn w p.d) p.os) → wpListIn F n P l.toArray Q (l.drop m) a' w') (l.take m) a) : (Code.region id l.toArray true).wpIn F n P Q a w :=
  regionIn_below_tail m hmx hB hnd (quietIn_of_quiet hw _ _ h)

theorem regionR_drawn (hw : WideF F n P) {id : Nat} {Q : Exit → Act → World → Prop} {a : Act} {w : World} {l : List Oper} (hmx : P.follows .mixedOrders = true) (hB : Region.lexB .any l.toArray = true) (hnd : noDefer l.toArray = true)
    (h : wpQuiet P l.toArray (fun w' => ∃ n, w' = w.drewN n) (fun a' => ∀ w', (∃ n, w' = w.drewN n) → Q .normal a' w') l a) : (Code.region id l.toArray true).wpIn F n P Q a w :=
  regionIn_drawn hmx hB hnd (quietIn_of_quiet hw _ _ h)

theorem regionR_drawn_tail (hw : WideF F n P) {id : Nat} {Q : Exit → Act → World → Prop} {a : Act} {w : World} {l : List Oper} (m : Nat) (hmx : P.follows .mixedOrders = true) (hB : Region.lexTailB .any l.toArray m = true) (hnd : noDefer l.toArray = true)
    (h : wpQuiet P l.toArray (fun w' => ∃ n, w' = w.drewN n) (fun a' => ∀ w', (∃ n, w' = w.drewN n) → wpListIn F n P l.toArray Q (l.drop m) a' w') (l.take m) a) : (Code.region id l.toArray true).wpIn F n P Q a w :=
  regionIn_drawn_tail m hmx hB hnd (quietIn_of_quiet hw _ _ h)
end wide

/-! ### contracts, met within a quiet walk -/
section met
variable {P : Program} {f : FuncId} {args : Array Value} {w : World} {v : Value}
theorem flipC (h : Calls P f args w fun e w' => e = .returned v ∧ w = w') : Calls P f args w fun e w' => e = .returned v ∧ w' = w :=
  h.mono fun _ _ ⟨h1, h2⟩ => ⟨h1, h2.symm⟩
/-- a callee that leaves the world alone, at the class 'but for draws' -/
theorem drawn_same {n : Nat} (h : Calls P f args (w.drewN n) fun e w' => e = .returned v ∧ w.drewN n = w') : Calls P f args (w.drewN n) fun e w'' => e = .returned v ∧ ∃ m, w'' = w.drewN m :=
  h.mono fun _ _ ⟨h1, h2⟩ => ⟨h1, n, h2.symm⟩
/-- .. at the class 'blocks may have been laid' -/
theorem grown_same {d : Nat} {os : Array Obj} (h : Calls P f args (grow (redrawn w d) os) fun e w' => e = .returned v ∧ grow (redrawn w d) os = w') : Calls P f args (grow (redrawn w d) os) fun e w'' => e = .returned v ∧ ∃ p : Regrown, w'' = grow (redrawn w p.d) p.os :=
  h.mono fun _ _ ⟨h1, h2⟩ => ⟨h1, ⟨d, os⟩, h2.symm⟩
/-- a callee that lays blocks -/
theorem grown_below {d : Nat} {os : Array Obj} (h : Calls P f args (grow (redrawn w d) os) fun e w' => e = .returned v ∧ Below (grow (redrawn w d) os).heap.size (grow (redrawn w d) os) w') : Calls P f args (grow (redrawn w d) os) fun e w'' => e = .returned v ∧ ∃ p : Regrown, w'' = grow (redrawn w p.d) p.os :=
  Calls.regrown_of h
end met

end Go.Proofs.YtjfhefffbkpgkaaGreat

/- Plain arithmetic of blocks and slices (layer 28). No program in sight. -/
namespace Go.Proofs.YtjfhefffbkpgkaaGreat

def btw (n lo hi : Int) : Bool := decide (lo ≤ n) && decide (n ≤ hi)
def confB (wk bl rg qu ou sl fr : Int) : Bool := btw wk 1 8 && btw bl 1 256 && btw rg 1 16 && btw qu 1 16 && btw ou 1 16 && btw sl 1 256 && btw fr 0 4611686018427387904
theorem confB_iff {wk bl rg qu ou sl fr : Int} : confB wk bl rg qu ou sl fr = true ↔ (1 ≤ wk ∧ wk ≤ 8) ∧ (1 ≤ bl ∧ bl ≤ 256) ∧ (1 ≤ rg ∧ rg ≤ 16) ∧ (1 ≤ qu ∧ qu ≤ 16) ∧ (1 ≤ ou ∧ ou ≤ 16) ∧ (1 ≤ sl ∧ sl ≤ 256) ∧ (0 ≤ fr ∧ fr ≤ 4611686018427387904) := by
  simp [confB, btw]; omega
def rightB (wk bl rg qu ou sl fr L y : Int) : Bool := confB wk bl rg qu ou sl fr && btw L 1 32 && btw y 0 2147483647

def partsI (size bytes : Int) : Int := bytes / size + if 0 < bytes % size then 1 else 0
theorem partsI_bd {s b : Int} (hs : 1 ≤ s) (hb : 0 ≤ b) : 0 ≤ partsI s b ∧ partsI s b ≤ b := by
  unfold partsI
  have h1 := Int.mul_ediv_add_emod b s
  have h2 : 0 ≤ b / s := Int.ediv_nonneg hb (by omega)
  have h3 : 0 ≤ b % s := Int.emod_nonneg _ (by omega)
  have h4 : b / s * 1 ≤ s * (b / s) := by rw [Int.mul_comm s]; exact Int.mul_le_mul_of_nonneg_left hs h2
  split <;> omega
theorem partsI_one (b : Int) : partsI 1 b = b := by
  unfold partsI; simp

def wI (L B : Int) (k : Nat) : Int := min (L - 1) (k * B)
def sumN (L B S : Int) : Nat → Int
  | 0 => 0
  | k + 1 => sumN L B S k + partsI S (wI L B k + B)
def totalI (L B S y : Int) : Int := sumN L B S (y / B).toNat + if 0 < y % B then partsI S (wI L B (y / B).toNat + y % B) else 0

theorem wI_bd {L B : Int} (hL : 1 ≤ L) (hB : 1 ≤ B) (k : Nat) : 0 ≤ wI L B k ∧ wI L B k ≤ L - 1 := by
  have : 0 ≤ (k : Int) * B := Int.mul_nonneg (by omega) (by omega)
  unfold wI; omega
theorem wI_mono {L B : Int} (hB : 1 ≤ B) {i j : Nat} (h : i ≤ j) (hi : ¬ wI L B i < L - 1) : wI L B j = L - 1 := by
  have : (i : Int) * B ≤ (j : Int) * B := Int.mul_le_mul_of_nonneg_right (by omega) (by omega)
  unfold wI at *; omega

/-- What is yielded, in all: k0 blocks that are told one by one, the others at once, and the rest. -/
def tailL (L B y : Int) (k0 : Nat) : List (Int × Int) :=
  (if k0 < (y / B).toNat then [(L - 1 + B, (((y / B).toNat - k0 : Nat) : Int))] else []) ++ (if 0 < y % B then [(wI L B (y / B).toNat + y % B, 1)] else [])
def headL (L B : Int) (k0 : Nat) : List (Int × Int) := (List.range k0).map fun i => (wI L B i + B, 1)
def sumL (S : Int) (l : List (Int × Int)) : Int := l.foldl (fun s p => s + p.2 * partsI S p.1) 0
theorem sumL_snoc (S : Int) (l : List (Int × Int)) (p : Int × Int) : sumL S (l ++ [p]) = sumL S l + p.2 * partsI S p.1 := by simp [sumL]
theorem headL_succ (L B : Int) (k : Nat) : headL L B (k + 1) = headL L B k ++ [(wI L B k + B, 1)] := by simp [headL, List.range_succ]
theorem headL_length (L B : Int) (k : Nat) : (headL L B k).length = k := by simp [headL]
theorem sumL_head (L B S : Int) (k : Nat) : sumL S (headL L B k) = sumN L B S k := by
  induction k with
  | zero => rfl
  | succ k ih => rw [headL_succ, sumL_snoc, ih, sumN]; simp
theorem sumN_full {L B S : Int} (hB : 1 ≤ B) {k0 : Nat} (h : ¬ wI L B k0 < L - 1) : ∀ d, sumN L B S (k0 + d) = sumN L B S k0 + d * partsI S (L - 1 + B)
  | 0 => by simp
  | d + 1 => by
    have h1 := wI_mono (B := B) hB (show k0 ≤ k0 + d by omega) h
    rw [show k0 + (d + 1) = (k0 + d) + 1 from rfl, sumN, sumN_full hB h d, h1]
    have : ((d + 1 : Nat) : Int) = (d : Int) + 1 := by omega
    rw [this, Int.add_mul]; omega
theorem sumL_all {L B S y : Int} (hB : 1 ≤ B) {k0 : Nat} (hk : k0 ≤ (y / B).toNat) (h : k0 < (y / B).toNat → ¬ wI L B k0 < L - 1) : sumL S (headL L B k0 ++ tailL L B y k0) = totalI L B S y := by
  have key : sumL S (headL L B k0 ++ (if k0 < (y / B).toNat then [(L - 1 + B, (((y / B).toNat - k0 : Nat) : Int))] else [])) = sumN L B S (y / B).toNat := by
    split
    · rename_i hlt
      rw [sumL_snoc, sumL_head]
      have := sumN_full (S := S) hB (h hlt) ((y / B).toNat - k0)
      rw [show k0 + ((y / B).toNat - k0) = (y / B).toNat by omega] at this
      exact this.symm
    · rename_i hge
      rw [List.append_nil, sumL_head, show k0 = (y / B).toNat by omega]
  unfold tailL totalI
  rw [← List.append_assoc]
  by_cases hr : 0 < y % B
  · rw [if_pos hr, if_pos hr, sumL_snoc, key]; simp
  · rw [if_neg hr, if_neg hr, List.append_nil, key]; simp

/-- The document's sum: over the blocks' first places. -/
def overI (l s : Int) : Int := if l < 1 ∨ s < 1 then 0 else partsI s l
theorem overI_eq {l s : Int} (_hl : 0 ≤ l) (hs : 1 ≤ s) : overI l s = partsI s l := by
  unfold overI
  split
  · rename_i h
    have : l = 0 := by omega
    subst this; simp [partsI]
  · rfl
theorem over_code {l s : Int} (_hl : 1 ≤ l) (hs : 1 ≤ s) : (if l / s * s < l then l / s + 1 else l / s) = partsI s l := by
  have h := Int.mul_ediv_add_emod l s
  have h3 : 0 ≤ l % s := Int.emod_nonneg _ (by omega)
  rw [Int.mul_comm] at h
  unfold partsI
  split <;> split <;> omega

/-- What the document's loop has summed when it stands at place k * B: k whole blocks, or all. -/
theorem total_step {B y : Int} (hB : 1 ≤ B) (hy : 0 ≤ y) (k : Nat) (h : (k : Int) * B < y) :
    (k < (y / B).toNat ∧ min B (y - k * B) = B) ∨ (k = (y / B).toNat ∧ 0 < y % B ∧ min B (y - k * B) = y % B) := by
  have e := Int.mul_ediv_add_emod y B
  have m0 : 0 ≤ y % B := Int.emod_nonneg _ (by omega)
  have m1 : y % B < B := Int.emod_lt_of_pos _ (by omega)
  have q0 : 0 ≤ y / B := Int.ediv_nonneg hy (by omega)
  obtain ⟨q, hq⟩ : ∃ q : Nat, y / B = q := ⟨(y / B).toNat, by omega⟩
  rw [hq] at e ⊢
  simp only [Int.toNat_natCast]
  rcases Nat.lt_trichotomy k q with hk | hk | hk
  · left
    refine ⟨hk, ?_⟩
    have : ((k + 1 : Nat) : Int) * B ≤ (q : Int) * B := Int.mul_le_mul_of_nonneg_right (by omega) (by omega)
    have e2 : ((k + 1 : Nat) : Int) * B = (k : Int) * B + B := by rw [Int.natCast_add, Int.add_mul]; simp
    rw [Int.mul_comm] at e
    omega
  · right
    subst hk
    rw [Int.mul_comm] at e
    omega
  · exfalso
    have : ((q + 1 : Nat) : Int) * B ≤ (k : Int) * B := Int.mul_le_mul_of_nonneg_right (by omega) (by omega)
    have e2 : ((q + 1 : Nat) : Int) * B = (q : Int) * B + B := by rw [Int.natCast_add, Int.add_mul]; simp
    rw [Int.mul_comm] at e
    omega

theorem div_mul_le {B y : Int} (hB : 1 ≤ B) (hy : 0 ≤ y) : (((y / B).toNat : Nat) : Int) * B ≤ y ∧ ((y / B).toNat : Int) ≤ y := by
  have e := Int.mul_ediv_add_emod y B
  have m0 : 0 ≤ y % B := Int.emod_nonneg _ (by omega)
  have q0 : 0 ≤ y / B := Int.ediv_nonneg hy (by omega)
  obtain ⟨q, hq⟩ : ∃ q : Nat, y / B = q := ⟨(y / B).toNat, by omega⟩
  rw [hq] at e ⊢
  simp only [Int.toNat_natCast]
  have : (q : Int) * 1 ≤ (q : Int) * B := Int.mul_le_mul_of_nonneg_left hB (by omega)
  rw [Int.mul_comm] at e
  omega

end Go.Proofs.YtjfhefffbkpgkaaGreat

/- Contracts of the small functions of layer 28 and of configurations. -/







namespace Go.Proofs.YtjfhefffbkpgkaaGreat
open Go.RowKit Go.Sort
set_option linter.unusedVariables false

theorem mixed : Tryz.prog.follows .mixedOrders = true := by kernel_rfl
theorem bcell {W w1 : World} (hb : Below W.heap.size W w1) : (∀ b o, b < W.heap.size → w1.cell? ⟨b, o, none⟩ = W.cell? ⟨b, o, none⟩) ∧ (∀ b o, b < W.heap.size → w1.frozen? ⟨b, o, none⟩ = W.frozen? ⟨b, o, none⟩) :=
  ⟨fun b o h => hb.cell (p := ⟨b, o, none⟩) h, fun b o h => hb.frozen (p := ⟨b, o, none⟩) h⟩
theorem ret_int {k : IntKind} {a b : Int} (h : a = b) : Ending.returned (.int k a) = .returned (.int k b) := by rw [h]

abbrev confV (wk bl rg qu ou sl fr : Int) : Array Value := #[.int .i64 wk, .int .i64 bl, .int .i64 rg, .int .i64 qu, .int .i64 ou, .int .i64 sl, .int .i64 fr]
abbrev reckV (wk bl rg qu ou sl fr L y : Int) : Array Value := #[.int .i64 wk, .int .i64 bl, .int .i64 rg, .int .i64 qu, .int .i64 ou, .int .i64 sl, .int .i64 fr, .int .i64 L, .int .i64 y]

end Go.Proofs.YtjfhefffbkpgkaaGreat

/- Ranging over a function, plainly: the law of the kit at the wide fence, and a function's end behind it. -/












namespace Go.Proofs.YtjfhefffbkpgkaaGreat
open Go Go.RowKit Go.Sort
set_option linter.unusedVariables false

theorem wide_fn (k : FuncId) : Fence.wide.fn k = True := rfl
theorem wide_depth : Fence.wide.depth = none := rfl

def keepAt (b : Nat) (W W' : World) : Prop := W'.heap[b]? = W.heap[b]?
theorem keepAt_t {b : Nat} {A B C : World} (h : keepAt b A B) (k : keepAt b B C) : keepAt b A C := k.trans h
theorem keepAt_b {b : Nat} {w : World} (hb : b < w.heap.size) (W : World) (l : Nat) (o o' : Obj) (hl : w.heap.size ≤ l) (_ : W.heap[l]? = some o) (_ : o.isCells = false) (_ : o.isWalk = false) : keepAt b W (W.putObj l o') :=
  World.putObj_heap_other (by omega)
def keepOn (S : Nat → Prop) (W W' : World) : Prop := ∀ k, S k → W'.heap[k]? = W.heap[k]?
theorem keepOn_t {S : Nat → Prop} {A B C : World} (h : keepOn S A B) (k : keepOn S B C) : keepOn S A C := fun i hi => (k i hi).trans (h i hi)
theorem keepOn_b {S : Nat → Prop} {w : World} (hb : ∀ k, S k → k < w.heap.size) (W : World) (l : Nat) (o o' : Obj) (hl : w.heap.size ≤ l) (_ : W.heap[l]? = some o) (_ : o.isCells = false) (_ : o.isWalk = false) : keepOn S W (W.putObj l o') :=
  fun k hk => World.putObj_heap_other (by have := hb k hk; omega)

theorem grownBy_of_below {w w' : World} (h : Below w.heap.size w w') : w.grownBy w' none := ⟨h.os, h.tape, h.output, h.size, fun k hk _ => h.block k hk⟩
theorem abides_below {β : Type} {B : Nat} {J : β → World → Prop} (h : AbidesFrom B J) {s : β} {w w' : World} (hj : J s w) (hb : Below w.heap.size w w') : J s w' :=
  h s w w' none hj (grownBy_of_below hb) (fun r e => by cases e)
theorem own_below {β : Type} {B : Nat} {I : β → World → Prop} (h : OwnFrom B I) {s : β} {w w' : World} (hj : I s w) (hb : Below w.heap.size w w') : I s w' :=
  h s w w' none hj (grownBy_of_below hb) (fun r e => by cases e)
theorem keepsFrom_of_below {B : Nat} {w w' : World} (h : Below w.heap.size w w') : KeepsFrom B w w' :=
  ⟨h.size, fun k o _ hk _ => (h.block k (Array.getElem?_eq_some_iff.1 hk).1).trans hk⟩
theorem keepOn_of_below {S : Nat → Prop} {w w' : World} (h : Below w.heap.size w w') (hS : ∀ k, S k → k < w.heap.size) : keepOn S w w' := fun k hk => h.block k (hS k hk)
theorem keepAt_of_below {b : Nat} {w w' : World} (h : Below w.heap.size w w') (hb : b < w.heap.size) : keepAt b w w' := h.block b hb

theorem calls_of_wp_M {P : Program} {f : FuncId} {fn : Func} {c : Code} {args : Array Value} {w : World} {R : Ending → World → Prop}
    (hf : P.funcs[f]? = some fn) (hb : fn.body = some c)
    (h : c.wp P (bodyPostM Fence.wide 9 P fn R) { tmps := args ++ Array.replicate (fn.ntmps - args.size) undef, defers := [] } w) : Calls P f args w R :=
  (callsIn_wide (n := 9)).1 (callsIn_of_wp_marks hf hb trivial (wpIn_wide.2 h) rfl)

theorem endM {P : Program} {fn : Func} {R : Ending → World → Prop} {a : Act} {W : World} {D : Nat} {v : Value} (hd : a.defers = [{ target := .collected D, args := #[] }]) (hK : W.heap[D]? = some (.deferred (some [])))
    (hr : (results fn a.tmps).run P (W.putObj D (.deferred none)) = .ok v (W.putObj D (.deferred none))) (hR : R (.returned v) (W.putObj D (.deferred none))) : bodyPostM Fence.wide 9 P fn R .ret a W := by
  show LeavesInM Fence.wide 9 P fn a.tmps R a.defers .returning W
  rw [hd]
  refine ⟨by simp, .inl ⟨_, _, rfl, run_takeDeferred hK, ?_⟩⟩
  exact ⟨_, hr, hR⟩
theorem endM' {P : Program} {fn : Func} {R : Ending → World → Prop} {a : Act} {W : World} {D : Nat} {v : Value} (hd : a.defers = [{ target := .collected D, args := #[] }]) (hK : W.heap[D]? = some (.deferred (some [])))
    (hr : (results fn a.tmps).run P (W.putObj D (.deferred none)) = .ok v (W.putObj D (.deferred none))) (hR : R (.returned v) (W.putObj D (.deferred none))) : bodyPostM Fence.wide 9 P fn R .normal a W :=
  endM hd hK hr hR
/-- An end ahead of any loop. -/
theorem endN {P : Program} {fn : Func} {R : Ending → World → Prop} {a : Act} {W : World} {v : Value} (hd : a.defers = [])
    (hr : (results fn a.tmps).run P W = .ok v W) (hR : R (.returned v) W) : bodyPostM Fence.wide 9 P fn R .ret a W := by
  show LeavesInM Fence.wide 9 P fn a.tmps R a.defers .returning W
  rw [hd]
  exact ⟨_, hr, hR⟩

theorem put_below {n₀ D : Nat} {w W : World} (hB : Below n₀ w W) (hD : n₀ ≤ D) (hn : n₀ ≤ w.heap.size) (o' : Obj) : Below n₀ w (W.putObj D o') :=
  hB.grown (grownBy_putObj' W D o') (Nat.le_trans hn hB.size) (fun k e => by cases e; exact hD)

theorem rangeF {P : Program} {α : Type} {g : Operand} {ps : Array Tmp} {assign body : Code} {Q : Exit → Act → World → Prop} {a : Act} {w : World} {gf : Nat} {lb : Array Value}
    (hg : a.eval g = .func (.func gf) #[] lb) (eg : ∀ args w, (callFunc gf args).run P w = .ok (.enter gf args) w)
    {encs : α → Array Value} {Kp : World → World → Prop} {S Sp : List α → Prop} {N : Nat} (hseq : SeqStopsK Fence.wide 8 P gf lb encs Kp S Sp N w)
    (hKt : ∀ {A B C : World}, Kp A B → Kp B C → Kp A C) (hKb : ∀ (W : World) (l : Nat) (o o' : Obj), w.heap.size ≤ l → W.heap[l]? = some o → o.isCells = false → o.isWalk = false → Kp W (W.putObj l o')) (hps : ∀ x, (encs x).size = ps.size)
    (I : List α → World → Prop) (Ix : Code → List α → World → Prop) (hI : OwnFrom w.heap.size I) (hIx : ∀ c, OwnFrom w.heap.size (Ix c)) (h0 : I [] w) (a₁ : α → Act)
    (hassign : ∀ (l : Nat) (x : α) (W : World) (K : Act → World → Prop), K (a₁ x) W →
      assign.wpIn (Fence.wide.inRound l) 7 P (Exit.then K (fun _ _ _ => False)) { tmps := (ps.zip (encs x)).foldl (fun t (p, v) => t.setIfInBounds p v) a.tmps, defers := [] } W)
    (hbody : ∀ (l : Nat) (pre : List α) (x : α) (W : World), I pre W → pre.length < N → body.wpIn (Fence.wide.inRound l) 7 P (ownPostG w.heap.size Kp I Ix (pre ++ [x]) W) (a₁ x) W)
    (hdone : ∀ (D : Nat) (xs : List α) (W : World), w.heap.size ≤ D → S xs → I xs W → W.heap[D]? = some (.deferred (some [])) → Q .normal { a with defers := { target := .collected D, args := #[] } :: a.defers } W)
    (hstop : ∀ (D : Nat) (c : Code) (pre : List α) (W : World), w.heap.size ≤ D → Sp pre → Ix c pre W → W.heap[D]? = some (.deferred (some [])) → c.wp P Q { a with defers := { target := .collected D, args := #[] } :: a.defers } W) :
    (Code.rangeFunc g ps assign body).wp P Q a w :=
  (wpIn_wide (n := 9)).1 (wpIn_rangeFunc_ownG rfl (by decide) hg trivial eg hseq hKt hKb (Below.refl _ _) hps I Ix hI hIx h0 a₁ hassign hbody hdone
    (fun D c pre W h1 h2 h3 h4 => wpIn_wide.2 (hstop D c pre W h1 h2 h3 h4)))

end Go.Proofs.YtjfhefffbkpgkaaGreat

/- The iterator over blocks (layer 28), and its caller Slices. -/


namespace Go.Proofs.YtjfhefffbkpgkaaGreat
open Go.RowKit Go.Sort
set_option linter.unusedVariables false
attribute [local go_sem] Oper.semAt_some

attribute [local simp] wide_fn wide_depth
attribute [local go_sem] wide_fn wide_depth

abbrev Blk := { p : Int × Int // 0 ≤ p.1 ∧ p.1 ≤ 1000 ∧ 0 ≤ p.2 ∧ p.2 ≤ 2147483647 }
def blkEnc (p : Blk) : Array Value := #[.int .i64 p.1.1, .int .i64 p.1.2]

def isBlocks (L B y : Int) (xs : List Blk) : Prop := ∃ k0 : Nat, k0 ≤ (y / B).toNat ∧ (k0 < (y / B).toNat → ¬ wI L B k0 < L - 1) ∧ xs.map (·.1) = headL L B k0 ++ tailL L B y k0

end Go.Proofs.YtjfhefffbkpgkaaGreat

/- Slices of layer 28: for every configuration and every numbers. -/

namespace Go.Proofs.YtjfhefffbkpgkaaGreat
open Go.RowKit Go.Sort
set_option linter.unusedVariables false
attribute [local go_sem] Oper.semAt_some
attribute [local simp] wide_fn wide_depth
attribute [local go_sem] wide_fn wide_depth

theorem sumL_bd {S : Int} (hS : 1 ≤ S) (xs : List Blk) : 0 ≤ sumL S (xs.map (·.1)) ∧ sumL S (xs.map (·.1)) ≤ xs.length * 2147483647000 := by
  obtain ⟨n, hn⟩ : ∃ n, xs.length = n := ⟨_, rfl⟩
  induction n generalizing xs with
  | zero => obtain rfl := List.eq_nil_of_length_eq_zero hn; simp [sumL]
  | succ n ih' =>
    obtain ⟨l, x, rfl⟩ : ∃ l x, xs = l ++ [x] := ⟨xs.dropLast, xs.getLast (by intro h; simp [h] at hn), (List.dropLast_concat_getLast _).symm⟩
    have ih := ih' l (by simpa using hn)
    obtain ⟨⟨d, b⟩, hd0, hd1, hb0, hb1⟩ := x
    have hp := partsI_bd hS hd0
    dsimp only at *
    have m0 : 0 ≤ b * partsI S d := Int.mul_nonneg hb0 hp.1
    have m1 : b * partsI S d ≤ 2147483647 * 1000 := Int.mul_le_mul hb1 (by omega) hp.1 (by omega)
    rw [List.map_append, List.map_cons, List.map_nil, sumL_snoc]
    simp only [List.length_append, List.length_cons, List.length_nil]
    omega

end Go.Proofs.YtjfhefffbkpgkaaGreat

/- Plain arithmetic of layer 28: the functions' answers, and sizes. -/

namespace Go.Proofs.YtjfhefffbkpgkaaGreat

theorem take_succ_of {α : Type} {l : List α} {k : Nat} {x : α} (h : l[k]? = some x) : l.take (k + 1) = l.take k ++ [x] := by
  rw [List.take_add_one, h]; rfl

/-! ### the functions' answers -/
section answers
variable (wk bl rg qu ou sl fr : Int)
def sliN (L y : Int) : Int := if rightB wk bl rg qu ou sl fr L y then totalI L bl sl y else 0
def sliE (L y : Int) : Int := if rightB wk bl rg qu ou sl fr L y then 0 else 2
def steB (L y r h : Int) : Bool := rightB wk bl rg qu ou sl fr L y && btw r 0 2147483647 && btw h 0 2147483647
def steN (L y r h : Int) : Int := if steB wk bl rg qu ou sl fr L y r h then 6 * overI y bl + r + wk + totalI L bl sl y + 2 * h + 5 else 0
def steE (L y r h : Int) : Int := if steB wk bl rg qu ou sl fr L y r h then 0 else 2
def aftN : Int := if confB wk bl rg qu ou sl fr then 2 * wk + qu + 4 else 0
def aftE : Int := if confB wk bl rg qu ou sl fr then 0 else 2
def rooB (L : Int) : Bool := confB wk bl rg qu ou sl fr && btw L 1 32
def rooN (L : Int) : Int := if rooB wk bl rg qu ou sl fr L then rg * (bl + L - 1) else 0
def rooE (L : Int) : Int := if rooB wk bl rg qu ou sl fr L then 0 else 2
end answers
def blkS (size : Int) (l : List Int) : Int := l.foldl (fun s n => s + overI n size) 0
theorem blkS_snoc (size : Int) (l : List Int) (n : Int) : blkS size (l ++ [n]) = blkS size l + overI n size := by simp [blkS]
theorem blkS_small {size : Int} (h : size < 1) (l : List Int) : blkS size l = 0 := by
  have : ∀ (l : List Int) (a : Int), l.foldl (fun s n => s + overI n size) a = a := by
    intro l
    induction l with
    | nil => intro a; rfl
    | cons n l ih => intro a; rw [List.foldl_cons, ih]; simp [overI, h]
  exact this l 0
theorem overI_bd {n size : Int} : 0 ≤ overI n size ∧ (overI n size ≤ n ∨ overI n size = 0) := by
  unfold overI
  split
  · exact ⟨by omega, .inr rfl⟩
  · rename_i h
    have := partsI_bd (s := size) (b := n) (by omega) (by omega)
    omega
theorem blkS_bd (size : Int) {M : Int} (hM : 0 ≤ M) : ∀ (l : List Int), (∀ n ∈ l, n ≤ M) → 0 ≤ blkS size l ∧ blkS size l ≤ l.length * M := by
  intro l
  obtain ⟨n, hn⟩ : ∃ n, l.length = n := ⟨_, rfl⟩
  induction n generalizing l with
  | zero => obtain rfl := List.eq_nil_of_length_eq_zero hn; simp [blkS]
  | succ n ih' =>
    obtain ⟨l', x, rfl⟩ : ∃ l' x, l = l' ++ [x] := ⟨l.dropLast, l.getLast (by intro h; simp [h] at hn), (List.dropLast_concat_getLast _).symm⟩
    intro h
    have ih := ih' l' (by simpa using hn) (fun n hn => h n (by simp [hn]))
    have hx := h x (by simp)
    have ho := overI_bd (n := x) (size := size)
    rw [blkS_snoc]
    have e : ((l' ++ [x]).length : Int) * M = l'.length * M + M := by simp [Int.add_mul]
    rw [e]
    omega

/-! ### sizes -/
theorem sumN_bd {L B S : Int} (hL : 1 ≤ L) (hB : 1 ≤ B) (hS : 1 ≤ S) : ∀ k, 0 ≤ sumN L B S k ∧ sumN L B S k ≤ k * (L - 1 + B)
  | 0 => by simp [sumN]
  | k + 1 => by
    have ih := sumN_bd hL hB hS k
    have hw := wI_bd (L := L) (B := B) hL hB k
    have hp := partsI_bd (s := S) (b := wI L B k + B) hS (by omega)
    have e : ((k + 1 : Nat) : Int) * (L - 1 + B) = k * (L - 1 + B) + (L - 1 + B) := by rw [Int.natCast_add, Int.add_mul]; simp
    rw [sumN, e]
    omega
theorem totalI_bd {L B S y : Int} (hL : 1 ≤ L) (hL2 : L ≤ 32) (hB : 1 ≤ B) (hB2 : B ≤ 256) (hS : 1 ≤ S) (hy : 0 ≤ y) : 0 ≤ totalI L B S y ∧ totalI L B S y ≤ y * 287 + 287 := by
  have h1 := sumN_bd (S := S) hL hB hS (y / B).toNat
  have h2 := (div_mul_le hB hy).2
  have h3 : (((y / B).toNat : Nat) : Int) * (L - 1 + B) ≤ y * 287 := Int.mul_le_mul h2 (by omega) (by omega) hy
  have hw := wI_bd (L := L) (B := B) hL hB (y / B).toNat
  have m0 : 0 ≤ y % B := Int.emod_nonneg _ (by omega)
  have m1 : y % B < B := Int.emod_lt_of_pos _ (by omega)
  have hp := partsI_bd (s := S) (b := wI L B (y / B).toNat + y % B) hS (by omega)
  unfold totalI
  split <;> omega

/-! ### the document's loop -/
def refV (L B S y : Int) (k : Nat) : Int := if k ≤ (y / B).toNat then sumN L B S k else totalI L B S y
theorem refV_step {L B S y : Int} (hL : 1 ≤ L) (hB : 1 ≤ B) (hS : 1 ≤ S) (hy : 0 ≤ y) {k : Nat} (h : (k : Int) * B < y) :
    refV L B S y (k + 1) = refV L B S y k + overI (min (L - 1) (k * B) + min B (y - k * B)) S := by
  have hw := wI_bd (L := L) (B := B) hL hB k
  rcases total_step hB hy k h with ⟨h1, h2⟩ | ⟨h1, h2, h3⟩
  · unfold refV
    rw [if_pos (by omega), if_pos (by omega), h2, sumN]
    rw [overI_eq (by unfold wI at hw; omega) hS]
    rfl
  · subst h1
    unfold refV
    rw [if_neg (by omega), if_pos (by omega), h3, totalI, if_pos h2]
    rw [overI_eq (by unfold wI at hw; omega) hS]
    rfl
theorem refV_end {L B S y : Int} (hB : 1 ≤ B) (hy : 0 ≤ y) {k : Nat} (h : ¬ (k : Int) * B < y) : refV L B S y k = totalI L B S y := by
  unfold refV
  split
  · rename_i hk
    have e := Int.mul_ediv_add_emod y B
    have m0 : 0 ≤ y % B := Int.emod_nonneg _ (by omega)
    have q0 : 0 ≤ y / B := Int.ediv_nonneg hy (by omega)
    have hkq : (k : Int) ≤ y / B := by omega
    have : (k : Int) * B ≤ y / B * B := Int.mul_le_mul_of_nonneg_right hkq (by omega)
    rw [Int.mul_comm] at e
    have hz : ¬ 0 < y % B := by omega
    have hkK : k = (y / B).toNat := by
      by_cases hlt : k < (y / B).toNat
      · have : ((k : Int) + 1) * B ≤ y / B * B := Int.mul_le_mul_of_nonneg_right (by omega) (by omega)
        rw [Int.add_mul] at this
        omega
      · omega
    rw [totalI, if_neg hz, ← hkK]; omega
  · rfl
theorem refV_bd {L B S y : Int} (hL : 1 ≤ L) (hL2 : L ≤ 32) (hB : 1 ≤ B) (hB2 : B ≤ 256) (hS : 1 ≤ S) (hy : 0 ≤ y) (k : Nat) : 0 ≤ refV L B S y k ∧ refV L B S y k ≤ y * 287 + 287 := by
  unfold refV
  split
  · rename_i hk
    have h1 := sumN_bd (S := S) hL hB hS k
    have h2 := (div_mul_le hB hy).2
    have h3 : (k : Int) * (L - 1 + B) ≤ y * 287 := Int.mul_le_mul (by omega) (by omega) (by omega) hy
    omega
  · exact totalI_bd hL hL2 hB hB2 hS hy

end Go.Proofs.YtjfhefffbkpgkaaGreat

/- Steps, After, Room, Blocks of layer 28. -/




namespace Go.Proofs.YtjfhefffbkpgkaaGreat
open Go.RowKit Go.Sort
set_option linter.unusedVariables false

/-- A slice whose elements fill a cell each. -/
def Sl1 {α : Type} (enc : α → Value) (w : World) (a : Option Addr) (len : Nat) (xs : List α) : Prop :=
  xs.length = len ∧ (len = 0 ∨ ∃ b off, a = some ⟨b, off, none⟩ ∧ b < w.heap.size ∧ ∀ i x, xs[i]? = some x → w.cell? ⟨b, off + i, none⟩ = some (enc x))
theorem Sl1.below {α : Type} {enc : α → Value} {w w' : World} {a : Option Addr} {len : Nat} {xs : List α} (h : Sl1 enc w a len xs) (hb : Below w.heap.size w w') : Sl1 enc w' a len xs := by
  obtain ⟨h1, h2 | ⟨b, off, e, hlt, hc⟩⟩ := h
  · exact ⟨h1, .inl h2⟩
  · exact ⟨h1, .inr ⟨b, off, e, Nat.lt_of_lt_of_le hlt hb.size, fun i x hx => (hb.cell (p := ⟨b, off + i, none⟩) hlt).trans (hc i x hx)⟩⟩

end Go.Proofs.YtjfhefffbkpgkaaGreat

/- Opening the arguments of laws: integers, configurations, slices of integers. -/







namespace Go.Proofs.YtjfhefffbkpgkaaGreat
open Go.ChangeShapes Go.WideShapes Go.ChangeAt Go.RowKit Go.Joins
open Go.ChangeMaps (open_string shut_string)
set_option linter.unusedVariables false
set_option linter.unusedSimpArgs false

theorem own : ownKnob Tryz.prog.godebug = none := by kernel_rfl
theorem laidOut : laidOutB Tryz.prog = true := by kernel_rfl
theorem cells_int : Tryz.prog.cellsOf 3 = 1 := by kernel_rfl

section
variable {H : Type} {enc : TypeId × Value → H} {W : World} {r : Reach} {base : Nat} {d : DataW H} {p : List MemPlace} {v : Value}

theorem array7 {α : Type} {cs : Array α} (h : cs.size = 7) : ∃ c0 c1 c2 c3 c4 c5 c6, cs = #[c0, c1, c2, c3, c4, c5, c6] := by
  obtain ⟨l⟩ := cs
  match l, h with
  | [c0, c1, c2, c3, c4, c5, c6], _ => exact ⟨c0, c1, c2, c3, c4, c5, c6, rfl⟩

set_option maxRecDepth 100000 in
theorem open_i64 (hv : Value.okWide Tryz.prog W r base 3 v) (h : DataW.Trod enc Tryz.prog W 0 (fun _ => true) true 3 v d p) :
    ∃ n : Int, v = .int .i64 n ∧ -9223372036854775808 ≤ n ∧ n ≤ 9223372036854775807 := by
  obtain ⟨n, rfl, _, _, hw⟩ := open_int Tryz.underlying3 hv h
  refine ⟨n, rfl, ?_⟩
  simp [Lit.wf, IntKind.min, IntKind.max, IntKind.signed, IntKind.bits] at hw
  omega

set_option maxRecDepth 100000 in
theorem open_sl_i64 (hv : Value.okWide Tryz.prog W r base 26 v) (h : DataW.Trod enc Tryz.prog W 0 (fun _ => true) true 26 v d p) :
    ∃ (a : Option Addr) (len cap : Nat) (zs : List Int), v = .slice a len cap ∧ Sl1 (Value.int .i64) W a len zs := by
  obtain ⟨a, len, cap, rfl⟩ := okWide_slice Tryz.underlying26 hv
  refine ⟨a, len, cap, ?_⟩
  obtain ⟨fuel, hf⟩ := h
  rcases open_ints Tryz.underlying26 Tryz.underlying3 (by kernel_rfl) hf with ⟨hcs, _⟩ | ⟨x, l, c, zs, hcs, _, hl, hm, hz, _, hcell, hwz⟩
  · simp [Value.cells] at hcs
    obtain ⟨rfl, rfl, rfl⟩ := hcs
    exact ⟨[], rfl, rfl, .inl rfl⟩
  · simp [Value.cells] at hcs
    obtain ⟨rfl, rfl, rfl⟩ := hcs
    have hz' : zs.length = cap := by simpa using hz
    refine ⟨zs.take len, rfl, by simp; omega, ?_⟩
    by_cases h0 : len = 0
    · exact .inl h0
    · right
      obtain ⟨b, off, spot⟩ := x
      have hc := hcell 0 (by omega)
      have hspot : spot = none := by simpa [Addr.add] using World.cell?_spot hc
      subst hspot
      refine ⟨b, off, rfl, ?_, ?_⟩
      · have := World.block_lt_of_cell? W _ hc
        simpa [Addr.add] using this
      · intro i x hx
        have hi : i < len := by have := (List.getElem?_eq_some_iff.1 hx).1; simp at this; omega
        have h1 := hcell i (by omega)
        rw [Addr.add_lit] at h1
        rw [h1]
        rw [List.getElem?_take, if_pos hi] at hx
        simp [hx]
end

end Go.Proofs.YtjfhefffbkpgkaaGreat

/- Plain words of layer 3: bytes folded, texts that are the same, where they stand, which of them. -/
namespace Go.Proofs.YtjfhefffbkpgkaaGreat
set_option linter.unusedVariables false

def foldI (x : Int) : Int := if 65 ≤ x ∧ x ≤ 90 then x + 32 else x
def foldL (fold : Bool) (xs : List Int) : List Int := if fold then xs.map foldI else xs
def sameL (fold : Bool) (xs ys : List Int) : Bool := decide (foldL fold xs = foldL fold ys)
def atL (fold : Bool) (text : List Int) (place : Int) (word : List Int) : Bool :=
  decide ((word.length : Int) ≤ place ∧ place ≤ (text.length : Int)) && sameL fold ((text.drop (place.toNat - word.length)).take word.length) word
def whichO (fold : Bool) (text : List Int) (wss : List (List Int)) : Option Nat := wss.findIdx? (fun w => sameL fold text w)
def whichL (fold : Bool) (text : List Int) (wss : List (List Int)) : Int := match whichO fold text wss with | none => -1 | some k => k

theorem foldI_bd {x : Int} (h : 0 ≤ x ∧ x ≤ 255) : 0 ≤ foldI x ∧ foldI x ≤ 255 := by unfold foldI; split <;> omega
theorem foldI_foldI (x : Int) : foldI (foldI x) = foldI x := by unfold foldI; by_cases h : 65 ≤ x ∧ x ≤ 90 <;> simp [h] <;> omega
theorem foldL_length (fold : Bool) (xs : List Int) : (foldL fold xs).length = xs.length := by cases fold <;> simp [foldL]
theorem foldL_foldL (fold : Bool) (xs : List Int) : foldL fold (foldL fold xs) = foldL fold xs := by
  cases fold
  · rfl
  · simp only [foldL, if_true, List.map_map]
    exact List.map_congr_left fun x _ => foldI_foldI x
theorem foldL_bd {fold : Bool} {xs : List Int} (h : ∀ x ∈ xs, 0 ≤ x ∧ x ≤ 255) : ∀ x ∈ foldL fold xs, 0 ≤ x ∧ x ≤ 255 := by
  cases fold
  · exact h
  · intro x hx
    simp only [foldL, if_true, List.mem_map] at hx
    obtain ⟨y, hy, rfl⟩ := hx
    exact foldI_bd (h y hy)
theorem sameL_comm (fold : Bool) (xs ys : List Int) : sameL fold xs ys = sameL fold ys xs := by
  unfold sameL
  by_cases h : foldL fold xs = foldL fold ys
  · simp [h]
  · simp [h]; exact fun e => h e.symm
theorem sameL_length {fold : Bool} {xs ys : List Int} (h : sameL fold xs ys = true) : xs.length = ys.length := by
  have := of_decide_eq_true h
  have h2 := congrArg List.length this
  rwa [foldL_length, foldL_length] at h2
theorem sameL_ne {fold : Bool} {xs ys : List Int} (h : xs.length ≠ ys.length) : sameL fold xs ys = false := by
  cases e : sameL fold xs ys with
  | false => rfl
  | true => exact absurd (sameL_length e) h

/-- One byte against another. -/
def sameI (fold : Bool) (x y : Int) : Bool := if fold then decide (foldI x = foldI y) else decide (x = y)
theorem foldL_map (fold : Bool) (xs : List Int) : foldL fold xs = xs.map (fun x => if fold then foldI x else x) := by cases fold <;> simp [foldL]
theorem sameL_zip {fold : Bool} : ∀ {xs ys : List Int}, xs.length = ys.length → (sameL fold xs ys = true ↔ ∀ p ∈ xs.zip ys, sameI fold p.1 p.2 = true)
  | [], [], _ => by simp [sameL]
  | x :: xs, y :: ys, h => by
    have ih := sameL_zip (fold := fold) (xs := xs) (ys := ys) (by simpa using h)
    unfold sameL at ih ⊢
    rw [foldL_map, foldL_map] at ih ⊢
    simp only [decide_eq_true_eq] at ih ⊢
    simp only [List.map_cons, List.cons.injEq, List.zip_cons_cons, List.mem_cons, forall_eq_or_imp, ih]
    cases fold <;> simp [sameI]
  | [], _ :: _, h => by simp at h
  | _ :: _, [], h => by simp at h

theorem whichL_nil (fold : Bool) (text : List Int) : whichL fold text [] = -1 := rfl
theorem whichL_snoc_no {fold : Bool} {text : List Int} {wss : List (List Int)} {y : List Int} (h : whichL fold text wss = -1) (hy : sameL fold text y = false) : whichL fold text (wss ++ [y]) = -1 := by
  unfold whichL whichO at h ⊢
  rw [List.findIdx?_append]
  cases e : wss.findIdx? (fun w => sameL fold text w) with
  | none => simp [hy]
  | some k => rw [e] at h; simp at h
theorem whichL_hit {fold : Bool} {text : List Int} {wss rest : List (List Int)} {y : List Int} (h : whichL fold text wss = -1) (hy : sameL fold text y = true) : whichL fold text (wss ++ y :: rest) = wss.length := by
  unfold whichL whichO at h ⊢
  rw [List.findIdx?_append]
  cases e : wss.findIdx? (fun w => sameL fold text w) with
  | none => simp [hy, List.findIdx?_cons]
  | some k => rw [e] at h; simp at h
theorem whichL_bd (fold : Bool) (text : List Int) (wss : List (List Int)) : -1 ≤ whichL fold text wss ∧ whichL fold text wss < wss.length := by
  unfold whichL whichO
  cases e : wss.findIdx? (fun w => sameL fold text w) with
  | none => simp; omega
  | some k =>
    have := (List.findIdx?_eq_some_iff_getElem.1 e).1
    simp; omega

theorem take_step {α : Type} {xs : List α} {k : Nat} {z : α} (h : xs[k]? = some z) : xs.take (k + 1) = xs.take k ++ [z] := by
  rw [List.take_add_one, h]; rfl
theorem split_at {α : Type} {xs : List α} {k : Nat} {z : α} (h : xs[k]? = some z) : xs = xs.take k ++ z :: xs.drop (k + 1) := by
  have hk := (List.getElem?_eq_some_iff.1 h)
  obtain ⟨hlt, rfl⟩ := hk
  rw [← List.drop_eq_getElem_cons hlt, List.take_append_drop]

def longL (wss : List (List Int)) : Int := wss.foldl (fun n w => max n (w.length : Int)) 0
theorem longL_snoc (l : List (List Int)) (x : List Int) : longL (l ++ [x]) = max (longL l) (x.length : Int) := by simp [longL, List.foldl_append]

end Go.Proofs.YtjfhefffbkpgkaaGreat

/- Small functions of layer 3, walked: bytes folded, compared. -/












namespace Go.Proofs.YtjfhefffbkpgkaaGreat
open Go.RowKit Go.Sort
set_option linter.unusedVariables false

theorem cells0 : Tryz.prog.cellsOf 184 = 0 := by kernel_rfl
theorem run_partAt_zero (w : World) (b : Nat) (cs : Array Value) (t : TypeId) (fr : Nat × Nat) (h : w.heap[b]? = some (.cells cs t fr)) (ht : Tryz.prog.cellsOf t = 0) :
    Sem.run Tryz.prog (partAt ⟨b, 0, none⟩ 0 0) w = .ok ⟨b, 0, none⟩ w := by
  simp [partAt, byteOf, noView, viewAt, World.shape?, h, ht, go_sem]
theorem partAt_new (w : World) (t : TypeId) (ht : Tryz.prog.cellsOf t = 0) :
    Sem.run Tryz.prog (partAt ⟨w.heap.size, 0, none⟩ 0 0) (w.alloc (.cells #[] t)) = .ok ⟨w.heap.size, 0, none⟩ (w.alloc (.cells #[] t)) :=
  run_partAt_zero _ _ _ _ _ (World.alloc_heap_new _ _) ht
theorem partAt_grown {w : World} {b : Nat} {cs : Array Value} {t : TypeId} {fr : Nat × Nat} (h : w.heap[b]? = some (.cells cs t fr)) (ht : Tryz.prog.cellsOf t = 0) (d : Nat) (os : Array Obj) :
    Sem.run Tryz.prog (partAt ⟨b, 0, none⟩ 0 0) (grow (redrawn w d) os) = .ok ⟨b, 0, none⟩ (grow (redrawn w d) os) :=
  run_partAt_zero _ _ _ _ _ (((below_regrown w d os).block b (Array.getElem?_eq_some_iff.1 h).1).trans h) ht

theorem fold_any (x : Int) (w : World) (h0 : 0 ≤ x) (h1 : x ≤ 255) :
    Calls Tryz.prog 107 #[.int .u8 x] w fun e w' => e = .returned (.int .u8 (foldI x)) ∧ w = w' := by
  by_cases h2 : 65 ≤ x
  · by_cases h3 : x ≤ 90
    all_goals
      go_enter Tryz.func107, Tryz.ntmps107
      go_wp2
      go_ret
      exact ⟨ret_int (by unfold foldI; first | rw [if_pos (by omega)] | rw [if_neg (by omega)]), rfl⟩
  · go_enter Tryz.func107, Tryz.ntmps107
    go_wp2
    go_ret
    exact ⟨ret_int (by unfold foldI; rw [if_neg (by omega)]), rfl⟩

theorem rfold_any (x : Int) (w : World) (h0 : 0 ≤ x) (h1 : x ≤ 255) :
    Calls Tryz.prog 69 #[.int .u8 x] w fun e w' => e = .returned (.int .u8 (foldI x)) ∧ w = w' := by
  by_cases h2 : 65 ≤ x
  · by_cases h3 : x ≤ 90
    all_goals
      go_enter Tryz.func69, Tryz.ntmps69
      go_wp2
      go_ret
      exact ⟨ret_int (by unfold foldI; first | rw [if_pos (by omega)] | rw [if_neg (by omega)]), rfl⟩
  · go_enter Tryz.func69, Tryz.ntmps69
    go_wp2
    go_ret
    exact ⟨ret_int (by unfold foldI; rw [if_neg (by omega)]), rfl⟩

theorem exact_any (x y : Int) (w : World) :
    Calls Tryz.prog 120 #[.agg #[], .int .u8 x, .int .u8 y] w fun e w' => e = .returned (.bool (decide (x = y))) ∧ Below w.heap.size w w' := by
  by_cases h : x = y
  all_goals
    go_enter Tryz.func120, Tryz.ntmps120
    go_wp2
    go_ret
    exact ⟨by simp [h], (Below.refl _ _).alloc (Nat.le_refl _) _⟩

theorem folded_any (x y : Int) (w : World) (hx0 : 0 ≤ x) (hx1 : x ≤ 255) (hy0 : 0 ≤ y) (hy1 : y ≤ 255) :
    Calls Tryz.prog 119 #[.agg #[], .int .u8 x, .int .u8 y] w fun e w' => e = .returned (.bool (decide (foldI x = foldI y))) ∧ Below w.heap.size w w' := by
  have hX := foldI_bd ⟨hx0, hx1⟩
  have hY := foldI_bd ⟨hy0, hy1⟩
  go_enter Tryz.func119, Tryz.ntmps119
  have hp := partAt_grown (World.alloc_heap_new w (.cells #[] 184)) cells0
  go_wp2
  refine wp_region_quiet_below mixed (by kernel_rfl) ?_
  repeat (go_big_quiet_step (first | exact grown_same (fold_any _ _ (by omega) (by omega)) | exact grown_below (exact_any _ _ _)))
  refine wpQuiet_nil ?_
  rintro _ ⟨⟨dq, osq⟩, rfl⟩
  go_wp2
  go_ret
  exact ⟨rfl, ((Below.refl _ _).alloc (Nat.le_refl _) _).trans ((below_regrown _ dq osq).mono (by simp))⟩

theorem run_store_fn (P : Program) (w : World) (a : Addr) (f : Fn) (vs us : Array Value) (m : Mode) : (store a (.func f vs us) m).run P w = stored P w a (.func f vs us) m := run_store P w a _ m rfl

/-- Which function compares. -/
def cmpFn (fold : Bool) : FuncId := if fold then 119 else 120

theorem by_any (fold : Bool) (w : World) :
    Calls Tryz.prog 115 #[.bool fold] w fun e w' => e = .returned (.func (.func (cmpFn fold)) #[.agg #[]] #[]) ∧ Below w.heap.size w w' := by
  cases fold
  all_goals
    go_enter Tryz.func115, Tryz.ntmps115
    have hp := partAt_new w 184 cells0
    go_wp2
    go_ret
    exact ⟨by simp [cmpFn], (Below.refl _ _).alloc (Nat.le_refl _) _⟩

end Go.Proofs.YtjfhefffbkpgkaaGreat

/- Steps of layer 28, and the document's functions. -/


namespace Go.Proofs.YtjfhefffbkpgkaaGreat
open Go.RowKit Go.Sort
set_option linter.unusedVariables false

theorem Sl1.one {W : World} {n : Int} {b : Nat} (hc : W.cell? ⟨b, 0, none⟩ = some (.int .i64 n)) (hb : b < W.heap.size) : Sl1 (Value.int .i64) W (some ⟨b, 0, none⟩) 1 [n] := by
  refine ⟨rfl, .inr ⟨b, 0, rfl, hb, fun i x hx => ?_⟩⟩
  cases i with
  | zero => simp at hx; subst hx; exact hc
  | succ i => simp at hx

end Go.Proofs.YtjfhefffbkpgkaaGreat

/- The document's functions of layer 28 (and of configurations). -/


namespace Go.Proofs.YtjfhefffbkpgkaaGreat
open Go.RowKit Go.Sort
set_option linter.unusedVariables false

def min6 (a b c d e f : Int) : Int := min (min (min (min (min a b) c) d) e) f
theorem run_min6 {P : Program} (w : World) (ts : Array TypeId) (t : TypeId) (a b c d e f : Int) :
    (Builtin.min_ ts t #[.int .i64 a, .int .i64 b, .int .i64 c, .int .i64 d, .int .i64 e, .int .i64 f]).run P w = .ok (.int .i64 (min6 a b c d e f)) w := by
  have m : ∀ x y : Int, (if y < x then y else x) = min x y := by intro x y; rw [Int.min_def]; split <;> split <;> omega
  simp only [← m, min6]
  simp [Builtin.min_, Builtin.min2]
theorem min6_iff {a b c d e f : Int} : 1 ≤ min6 a b c d e f ↔ 1 ≤ a ∧ 1 ≤ b ∧ 1 ≤ c ∧ 1 ≤ d ∧ 1 ≤ e ∧ 1 ≤ f := by unfold min6; omega
attribute [local go_sem high] run_min6

end Go.Proofs.YtjfhefffbkpgkaaGreat

/- The document's functions of layer 28, the loops. -/

namespace Go.Proofs.YtjfhefffbkpgkaaGreat
open Go.RowKit Go.Sort
set_option linter.unusedVariables false

theorem ret_bool {a b : Bool} (h : a = b) : Ending.returned (.bool a) = .returned (.bool b) := by rw [h]

end Go.Proofs.YtjfhefffbkpgkaaGreat

/- Texts that are the same (layer 3): the iterator over two texts, and its caller. -/



namespace Go.Proofs.YtjfhefffbkpgkaaGreat
open Go.RowKit Go.Sort
set_option linter.unusedVariables false
attribute [local go_sem] Oper.semAt_some
attribute [local simp] wide_fn wide_depth
attribute [local go_sem] wide_fn wide_depth

/-- A slice of bytes: what it reads. -/
def Bys (w : World) (a : Option Addr) (len : Nat) (xs : List Int) : Prop := Sl1 (Value.int .u8) w a len xs ∧ ∀ x ∈ xs, 0 ≤ x ∧ x ≤ 255
theorem Bys.below {w w' : World} {a : Option Addr} {len : Nat} {xs : List Int} (h : Bys w a len xs) (hb : Below w.heap.size w w') : Bys w' a len xs := ⟨h.1.below hb, h.2⟩
theorem Bys.len {w : World} {a : Option Addr} {len : Nat} {xs : List Int} (h : Bys w a len xs) : xs.length = len := h.1.1
theorem Bys.nil (w : World) (a : Option Addr) : Bys w a 0 [] := ⟨⟨rfl, .inl rfl⟩, by simp⟩
/-- what was there lies as it lay -/
abbrev kept (w W : World) : Prop := keepOn (fun k => k < w.heap.size) w W
theorem kept_cell {w W : World} (h : kept w W) {p : Addr} (hp : p.block < w.heap.size) : W.cell? p = w.cell? p := World.cell?_of_block (h _ hp)
theorem kept_below {w W : World} (h : Below w.heap.size w W) : kept w W := keepOn_of_below h fun _ h => h
theorem Sl1.kept {α : Type} {enc : α → Value} {w w' : World} {a : Option Addr} {len : Nat} {xs : List α} (h : Sl1 enc w a len xs) (hk : kept w w') (hs : w.heap.size ≤ w'.heap.size) : Sl1 enc w' a len xs := by
  obtain ⟨h1, h2 | ⟨b, off, e, hlt, hc⟩⟩ := h
  · exact ⟨h1, .inl h2⟩
  · exact ⟨h1, .inr ⟨b, off, e, Nat.lt_of_lt_of_le hlt hs, fun i x hx => (kept_cell hk (p := ⟨b, off + i, none⟩) hlt).trans (hc i x hx)⟩⟩

theorem pairs_any (a b : Option Addr) (la ca lb cb : Nat) (w : World) :
    Calls Tryz.prog 116 #[.slice a la ca, .slice b lb cb] w fun e w' => e = .returned (.func (.func 121) #[] #[.pointer (some ⟨w.heap.size, 0, none⟩), .pointer (some ⟨w.heap.size + 1, 0, none⟩)]) ∧
      w' = (w.alloc (.cells #[.slice a la ca] 29)).alloc (.cells #[.slice b lb cb] 29) := by
  go_enter Tryz.func116, Tryz.ntmps116
  go_wp2
  go_ret
  exact ⟨rfl, rfl⟩

abbrev By2 := { p : Int × Int // (0 ≤ p.1 ∧ p.1 ≤ 255) ∧ 0 ≤ p.2 ∧ p.2 ≤ 255 }
def by2Enc (p : By2) : Array Value := #[.int .u8 p.1.1, .int .u8 p.1.2]

set_option maxHeartbeats 1000000 in
theorem pairs_stops (a b : Option Addr) (la ca lb cb p1 p2 : Nat) (xs ys : List Int) (n : Nat) (w : World) (hA : Bys w a la xs) (hB : Bys w b lb ys) (hl : la = lb) (hla : la ≤ 1000000)
    (h1 : w.heap[p1]? = some (.cells #[.slice a la ca] 29 (0, 0))) (h2 : w.heap[p2]? = some (.cells #[.slice b lb cb] 29 (0, 0))) :
    SeqStopsK Fence.wide n Tryz.prog 121 #[.pointer (some ⟨p1, 0, none⟩), .pointer (some ⟨p2, 0, none⟩)] by2Enc (keepOn (fun k => k < w.heap.size)) (fun zs => zs.map Subtype.val = xs.zip ys) (fun pre => ∃ k, pre.map Subtype.val = (xs.zip ys).take k) 1000001 w := by
  intro l J Jx W hW hJ hJx hY h0
  have hkW : kept w W := kept_below hW
  have hp1 : p1 < w.heap.size := (Array.getElem?_eq_some_iff.1 h1).1
  have hp2 : p2 < w.heap.size := (Array.getElem?_eq_some_iff.1 h2).1
  have cells : ∀ v : World, kept w v → v.cell? ⟨p1, 0, none⟩ = some (.slice a la ca) ∧ v.cell? ⟨p2, 0, none⟩ = some (.slice b lb cb) := by
    intro v hv
    rw [kept_cell hv hp1, kept_cell hv hp2]
    simp [World.cell?, h1, h2]
  obtain ⟨hxl, hxm⟩ := hA.1
  obtain ⟨hyl, hym⟩ := hB.1
  have HX := Lib.hid hA.2
  have HY := Lib.hid hB.2
  have HL := Lib.hid hl
  have HXL := Lib.hid hxl
  have HYL := Lib.hid hyl
  clear hA hB hl hxl hyl
  obtain ⟨c1, c2⟩ := cells W hkW
  refine callsIn_of_wp Tryz.func121 rfl trivial ?_ rfl
  simp only [Tryz.ntmps121, List.size_toArray, List.length_cons, List.length_nil, Nat.reduceAdd, Nat.reduceSub, Array.replicate_succ, Array.replicate_zero, List.push_toArray, List.append_toArray, List.nil_append, List.cons_append]
  gi_wp2
  clear c1 c2
  gi_loopw [8] (fun i wr => ∃ (k : Nat) (pre : List By2), k ≤ la ∧ i = .int .i64 k ∧ pre.map Subtype.val = (xs.zip ys).take k ∧ J pre wr ∧ kept w wr) (fun i _ => la - (intOf i).toNat)
  case atStart => exact ⟨0, [], Nat.zero_le _, rfl, by simp, h0, hkW⟩
  case round =>
    obtain ⟨k, pre, hk, rfl, hpre, hj, hkr⟩ := hrel
    have HP := Lib.hid hpre
    clear hpre
    by_cases hlt : k < la
    · obtain ⟨x, hx⟩ : ∃ x, xs[k]? = some x := ⟨xs[k]'(by rw [HXL.out]; exact hlt), by simp⟩
      obtain ⟨y, hy⟩ : ∃ y, ys[k]? = some y := ⟨ys[k]'(by rw [HYL.out, ← HL.out]; exact hlt), by simp⟩
      obtain ⟨ba, oa, rfl, hba, hxc⟩ := hxm.resolve_left (by omega)
      obtain ⟨bb, ob, rfl, hbb, hyc⟩ := hym.resolve_left (by have := HL.out; omega)
      obtain ⟨c1, c2⟩ := cells wr hkr
      have cx : wr.cell? ⟨ba, oa + k, none⟩ = some (.int .u8 x) := (kept_cell hkr (p := ⟨ba, oa + k, none⟩) hba).trans (hxc k x hx)
      have cy : wr.cell? ⟨bb, ob + k, none⟩ = some (.int .u8 y) := (kept_cell hkr (p := ⟨bb, ob + k, none⟩) hbb).trans (hyc k y hy)
      have hbx := HX.out x (List.mem_of_getElem? hx)
      have hby := HY.out y (List.mem_of_getElem? hy)
      have hlen : pre.length ≤ k := by have := congrArg List.length HP.out; simp at this; omega
      have hltb : (k : Int) < lb := by have := HL.out; omega
      obtain ⟨fn, tmps, assign, body, hyl, hRo⟩ := hY pre ⟨(x, y), hbx, hby⟩ wr hj (by omega)
      have HS : Hid ((pre ++ [(⟨(x, y), hbx, hby⟩ : By2)]).map Subtype.val = (xs.zip ys).take (k + 1)) := by
        have hz : (xs.zip ys)[k]? = some (x, y) := by rw [List.getElem?_zip_eq_some]; exact ⟨hx, hy⟩
        rw [take_step hz, ← HP.out]
        simp [Hid]
      dsimp only [by2Enc] at hyl
      clear hx hy hxc hyc hxm hym
      gi_wp2
      refine hRo.mono ?_
      rintro e W4 (⟨rfl, hJ4, hk4⟩ | ⟨rfl, hJx4⟩)
      · gi_wp2
        go_roundw
        case rel => exact ⟨k + 1, _, by omega, by go_num, HS.out, hJ4, keepOn_t hkr hk4⟩
        case measure => simp [intOf]; omega
      · gi_wp2
        refine bodyPost_ret (results_none rfl _ _ _) rfl ?_
        exact ⟨⟨_, rfl⟩, .inr ⟨_, ⟨k + 1, HS.out⟩, hJx4⟩⟩
    · obtain rfl : k = la := by omega
      gi_wp2
      go_end0
      refine ⟨⟨_, rfl⟩, .inl ⟨pre, ?_, hj⟩⟩
      show pre.map Subtype.val = xs.zip ys
      rw [HP.out, List.take_of_length_le (by simp; have := HXL.out; omega)]

end Go.Proofs.YtjfhefffbkpgkaaGreat
