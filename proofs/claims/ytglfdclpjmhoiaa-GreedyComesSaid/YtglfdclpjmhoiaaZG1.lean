/- Parts of the proof, one behind the other: Reg, Rf, Lp, B1, L1, B4, B5, L2, L3, L4, L5, L6, Sp, S1. No condition but what each theorem states. -/
import Derived.Lib.QuietBelowIn
import Derived.StillTail
import Derived.TacticsIn
import Derived.WalkKit
import Derived.RangeFuncNested
import Derived.RangeFuncBound
import Derived.RangeFuncCalls
import Derived.RangeFuncLeaves
import Derived.RangeFuncBox
import Derived.Shelf.Abstract
import Derived.Shelf.RegionOpen
import Derived.OwnWalkIn
import Derived.TacticsInMore
import Derived.LoopNIn
import Derived.LoopIn
import Derived.Test.YtglfdclpjmhoiaaProg
import Derived.WalkLawsBesides
import Derived.Deep.QuietTactic
import Derived.BigQuiet
import Derived.Lib.Hide
import Derived.Lib.QuietBelow
import Derived.Stop.Walk2
import Derived.StillTailTactics
import Derived.Deep.RegionHeld3
import Derived.Lib.MinMax
import Derived.Maps.AppendAt
import Derived.OwnWalk
import Derived.Laws.OwnMore
import Derived.Deep.AppendLies
import Derived.Laws.BytesArg
import Derived.Deep.RegionWith
set_option linter.unusedVariables false

/- A region that draws its order, whose first m operations are quiet in a class of worlds and whose last ones come one behind the other: plain, and in a fence (in a round, too). Conditions: as each theorem states. -/

namespace Go.Proofs.Ytglfdclpjmhoiaa
open Go Go.RowKit Go.Sort

/-! ### plain -/
section plain
variable {P : Program} {ops : Array Oper} {md : Region.Mode} {C : World → Prop}

def headQ (P : Program) (md : Region.Mode) (ops : Array Oper) (C : World → Prop) (m : Nat) (L : Array Bool → Act → Prop) : Nat → Array Bool → Act → Prop
 | 0, listed, a => L listed a
 | f + 1, listed, a => Region.ready md ops listed ≠ [] ∧ ∀ i ∈ Region.ready md ops listed, i < m ∧ qOp P ops C i (headQ P md ops C m L f (listed.setIfInBounds i true)) a

theorem any_of_headQ {m g : Nat} {L : Array Bool → Act → Prop} {Q' : Exit → Act → World → Prop} (hL : ∀ listed a w, C w → L listed a → wpAny P md ops Q' g listed a w) :
  ∀ (f : Nat) (listed : Array Bool) (a : Act) (w : World), C w → headQ P md ops C m L f listed a → wpAny P md ops Q' (f + g) listed a w
 | 0, listed, a, w, hw, h => by rw [Nat.zero_add]; exact hL _ _ _ hw h
 | f + 1, listed, a, w, hw, h => by
  rw [show f + 1 + g = (f + g) + 1 by omega]
  exact ⟨fun h0 => absurd h0 h.1, fun i hi => wpOp_of_qOp hw (fun a' w' hw' h' => any_of_headQ hL f _ a' w' hw' h') (h.2 i hi).2⟩

theorem headQ_first {m i : Nat} {oi : Oper} {v : Value} {L : Array Bool → Act → Prop} (hi : ops[i]? = some oi) (hsel : ∀ (j : Nat) (o : Oper) cs b, ops[j]? = some o → o.op ≠ .select cs b)
  (hs : Region.sinkB md ops m = true) (hc : Region.chainB md ops m = true) (hm : m < ops.size) (him : i < m)
  (hdone : ∀ listed a, L listed a → ∀ j ∈ Region.ready md ops listed, m ≤ j) :
  ∀ (f : Nat) (listed : Array Bool) (a : Act), HeadInv md ops m listed →
   (∀ j oj, ops[j]? = some oj → j ≠ i → listed.getD j true = false → (∀ e ∈ oj.after, Region.binds md e = true → e.on ≠ i) → oi.apart ops oj = true) →
   i ∈ Region.ready md ops listed → YieldsIn P ops C oi v a →
   headQ P md ops C m L f (listed.setIfInBounds i true) (a.put oi.dst v) → headQ P md ops C m L (f + 1) listed a := by
 intro f
 induction f with
 | zero =>
  intro listed a inv _ hr hy H
  have hun := (mem_ready.1 hr).1
  refine ⟨fun h => (by rw [h] at hr; cases hr), fun j hj => ?_⟩
  have hjm : j < m := by
   rcases Nat.lt_or_ge j m with h | h
   · exact h
   · exact absurd hj (tail_waits hs hc hm inv _ i rfl him hun j h)
  refine ⟨hjm, ?_⟩
  by_cases hji : j = i
  · subst hji; exact hy.qOp hi H
  ·
   have := hdone _ _ H j (ready_mono hj hji)
   omega
 | succ f ih =>
  intro listed a inv hfree hr hy H
  have hun := (mem_ready.1 hr).1
  refine ⟨fun h => (by rw [h] at hr; cases hr), fun j hj => ?_⟩
  have hjm : j < m := by
   rcases Nat.lt_or_ge j m with h | h
   · exact h
   · exact absurd hj (tail_waits hs hc hm inv _ i rfl him hun j h)
  refine ⟨hjm, ?_⟩
  by_cases hji : j = i
  · subst hji; exact hy.qOp hi H
  ·
   have h1 := (H.2 j (ready_mono hj hji)).2
   obtain ⟨hjun, oj, hoj, hall⟩ := mem_ready.1 hj
   have hnot : ∀ e ∈ oj.after, Region.binds md e = true → e.on ≠ i := fun e he hb heq => by
    have h1 := hall e he hb
    rw [heq, getD_both hun] at h1
    cases h1
   have h2 := qOp_put hoj (hfree j oj hoj hji hjun hnot) (fun cs b => hsel i oi cs b hi) (fun cs b => hsel j oj cs b hoj) hy h1
   have hfree' : ∀ k ok, ops[k]? = some ok → k ≠ i → (listed.setIfInBounds j true).getD k true = false →
     (∀ e ∈ ok.after, Region.binds md e = true → e.on ≠ i) → oi.apart ops ok = true := fun k ok hk hki hkun hno => by
    refine hfree k ok hk hki ?_ hno
    by_cases hjk : j = k
    · subst hjk; exact hjun
    · rw [getD_set_ne true hjk] at hkun; exact hkun
   refine qOp_mono (fun a' h3 => ih (listed.setIfInBounds j true) a' (inv.set hj hjm) hfree' (ready_mono hr (Ne.symm hji)) h3.1 ?_) h2
   rw [Array.setIfInBounds_comm _ _ hji]
   exact h3.2

theorem headQ_lex {m g : Nat} {Lq : Act → Prop} (hsel : Region.noSelect ops = true) (hs : Region.sinkB md ops m = true) (hc : Region.chainB md ops m = true) (hm : m < ops.size) :
  ∀ (l : List Oper) (k : Nat) (listed : Array Bool) (a : Act), (∀ j, j < l.length → l[j]? = ops[k + j]?) → k + l.length = m → HeadInv md ops m listed →
  Region.lexHead md ops g l.length k listed = true → wpQuiet P ops C Lq l a →
  headQ P md ops C m (fun listed' a' => Region.seqB md ops g m listed' = true ∧ Lq a') l.length listed a
 | [], k, listed, a, _, hk, _, hB, h => by
  have : k = m := by simpa using hk
  subst this
  exact ⟨by simpa [Region.lexHead] using hB, h⟩
 | o :: l, k, listed, a, hl, hk, inv, hB, h => by
  have h0 : ops[k]? = some o := by simpa using (hl 0 (by simp)).symm
  simp only [List.length_cons, Region.lexHead, Bool.and_eq_true] at hB
  obtain ⟨⟨hr, hf⟩, hB'⟩ := hB
  have hkm : k < m := by simp only [List.length_cons] at hk; omega
  have hr' : k ∈ Region.ready md ops listed := by simpa using hr
  have hst : qOp P ops C k (wpQuiet P ops C Lq l) a := by unfold qOp; simp only [h0]; exact h
  obtain ⟨v, hy, hK⟩ := yieldsIn_of_qOp h0 hst
  exact headQ_first h0 (Region.noSelect_spec hsel) hs hc hm hkm (fun listed' a' hL => seqB_ready hL.1) l.length listed a inv (Region.free_spec h0 hf) hr' hy
   (headQ_lex hsel hs hc hm l (k + 1) _ _ (fun j hj => by have := hl (j + 1) (by simp; omega); simpa [Nat.add_assoc, Nat.add_comm 1 j] using this) (by simp only [List.length_cons] at hk; omega) (inv.set hr' hkm) hB' hK)

/-- The first m operations quiet in the class C, the others one behind the other. -/
theorem region_quiet_tail {id : Nat} {Q : Exit → Act → World → Prop} {a : Act} {w : World} {l : List Oper} (m : Nat) (hmx : P.follows .mixedOrders = true) (hB : Region.lexTailB .any l.toArray m = true) (hC : C { w with drawn := w.drawn + 1 })
  (h : wpQuiet P l.toArray C (fun a' => ∀ w', C w' → wpList P l.toArray Q (l.drop m) a' w') (l.take m) a) : (Code.region id l.toArray true).wp P Q a w := by
 simp only [Region.lexTailB, Bool.and_eq_true, decide_eq_true_eq] at hB
 obtain ⟨⟨⟨⟨hsel, hn⟩, hs⟩, hc⟩, hlex⟩ := hB
 have hn' : m < l.length := by simpa using hn
 have htl : (l.take m).length = m := by simp; omega
 have hdl : (l.drop m).length = l.toArray.size - m := by simp
 have inv0 : HeadInv .any l.toArray m (Array.replicate l.toArray.size false) :=
  ⟨by simp, fun j oj _ hl => (by rw [getD_replicate_false] at hl; cases hl), fun t _ ht => getD_in (by simpa using ht) (getD_replicate_false _ _)⟩
 have H := headQ_lex (md := .any) (g := l.toArray.size - m) hsel hs hc hn (l.take m) 0 _ a (fun j hj => by
  have hj' : j < m := by rw [htl] at hj; exact hj
  simp [hj']) (by simpa using htl) inv0 (by rw [htl]; exact hlex) h
 refine wp_region_any hmx ?_
 have := any_of_headQ (Q' := Q) (g := l.toArray.size - m) (fun listed a' w' hw' hL => by
  have := wpAny_of_seq (md := .any) (Q' := Q) (l.drop m) m listed a' w' (fun j => by simp [List.getElem?_drop]) (by rw [hdl]; exact hL.1) (hL.2 w' hw')
  rwa [hdl] at this) _ _ _ _ hC H
 rw [htl, show m + (l.toArray.size - m) = l.toArray.size by omega] at this
 exact this

/-- The same at the class 'what was there lies as it lay, blocks may have been laid'. -/
theorem region_below_tail {id : Nat} {Q : Exit → Act → World → Prop} {a : Act} {w : World} {l : List Oper} (m : Nat) (hmx : P.follows .mixedOrders = true) (hB : Region.lexTailB .any l.toArray m = true)
  (h : wpQuiet P l.toArray (fun w' => ∃ p : Regrown, w' = grow (redrawn w p.d) p.os) (fun a' => ∀ w', (∃ p : Regrown, w' = grow (redrawn w p.d) p.os) → wpList P l.toArray Q (l.drop m) a' w') (l.take m) a) : (Code.region id l.toArray true).wp P Q a w :=
 region_quiet_tail (C := fun w' => ∃ p : Regrown, w' = grow (redrawn w p.d) p.os) m hmx hB ⟨⟨w.drawn + 1, #[]⟩, by rw [grow_empty]; rfl⟩ h

end plain

/-! ### in a fence, in a round -/
section fenced
variable {F : Fence} {n : Nat} {P : Program} {ops : Array Oper} {md : Region.Mode} {C : World → Prop}

def noDefer (ops : Array Oper) : Bool := ops.all fun o => match o.op with | .defer _ => false | _ => true
theorem noDefer_spec (h : noDefer ops = true) {i : Nat} {o : Oper} (hi : ops[i]? = some o) : ∀ c, o.op ≠ .defer c := by
 intro c hc
 have := Array.all_eq_true'.1 h o (Array.mem_of_getElem? hi)
 simp [hc] at this

theorem wpIn_of_quietR {o : Oper} {a : Act} {K : Act → Prop} {K' : Act → World → Prop} {Q' : Exit → Act → World → Prop} {w : World} (hnd : ∀ c, o.op ≠ .defer c) (hw : C w) (h : ∀ a w', C w' → K a → K' a w')
  (ha : o.askedIn F P a C) (hh : o.quietIn F n P a C K) : o.wpIn F n P a w K' Q' := by
 obtain ⟨v, h1, h2⟩ := hh
 have h3 := h1 w hw
 unfold Oper.quietAtIn at h3
 unfold Oper.wpIn
 refine ⟨ha w hw, ?_⟩
 rw [Oper.semAt_eq _ _ _ hnd]
 generalize (execOp a.eval o).run P w = r at *
 cases r with
 | ok x w' =>
  cases x <;> simp only [Oper.quietUponIn] at h3 <;> simp only [Oper.uponIn]
  case value u =>
   obtain ⟨e1, e2⟩ := h3
   rw [e1, e2]
   exact h _ _ hw h2
  case skip =>
   obtain ⟨e1, e2⟩ := h3
   rw [e1, ← e2]
   exact h _ _ hw h2
  case enter f args =>
   obtain ⟨e1, hd, hc⟩ := h3
   rw [e1]
   exact ⟨hd, hc.mono fun e w'' ⟨he, hw''⟩ => by subst he; exact h _ _ hw'' h2⟩
 | halt x w' => simp only [Oper.quietUponIn] at h3

theorem opIn_of_quietR {i : Nat} {a : Act} {K : Act → Prop} {K' : Act → World → Prop} {Q' : Exit → Act → World → Prop} {w : World} (hnd : noDefer ops = true) (hC : C w) (h : ∀ a w', C w' → K a → K' a w')
  (hh : qOpIn F n P ops C i K a) : wpOpIn F n P ops Q' i K' a w := by
 unfold qOpIn at hh
 unfold wpOpIn
 split
 · rename_i ho; simp only [ho] at hh; exact h _ _ hC hh
 ·
  rename_i o ho
  simp only [ho] at hh
  obtain ⟨ha, hh⟩ := hh
  split
  · rename_i hw; simp only [hw, if_true] at hh; exact wpIn_of_quietR (noDefer_spec hnd ho) hC h ha hh
  · rename_i hw; simp only [hw] at hh; exact ⟨ha w hC, h _ _ hC hh⟩

theorem anyIn_of_quietR {Q : Act → Prop} {Q' : Exit → Act → World → Prop} (hnd : noDefer ops = true) (hQ : ∀ a w, C w → Q a → Q' .normal a w) : ∀ (fuel : Nat) (listed : Array Bool) (a : Act) (w : World), C w →
  wpAnyQIn F n P md ops C Q fuel listed a → wpAnyIn F n P md ops Q' fuel listed a w
 | 0, _, _, _, hw, h => ⟨h.1, hQ _ _ hw h.2⟩
 | fuel + 1, _, _, _, hw, h => ⟨fun h0 => hQ _ _ hw (h.1 h0), fun i hi => opIn_of_quietR hnd hw (fun a' w' hw' => anyIn_of_quietR hnd hQ fuel _ a' w' hw') (h.2 i hi)⟩

/-- All operations quiet, in a round, too. -/
theorem regionIn_quiet {id : Nat} {Q : Exit → Act → World → Prop} {a : Act} {w : World} {l : List Oper} (hmx : P.follows .mixedOrders = true) (hB : Region.lexB .any l.toArray = true) (hnd : noDefer l.toArray = true) (hC : C { w with drawn := w.drawn + 1 })
  (h : wpQuietIn F n P l.toArray C (fun a' => ∀ w', C w' → Q .normal a' w') l a) : (Code.region id l.toArray true).wpIn F n P Q a w := by
 simp only [Region.lexB, Bool.and_eq_true] at hB
 refine wpIn_region_any hmx (anyIn_of_quietR (Q := fun a' => ∀ w', C w' → Q .normal a' w') hnd (fun _ w' hw' h => h w' hw') _ _ _ _ hC ?_)
 have := wpAnyQIn_lex (F := F) (n := n) (C := C) (md := .any) hB.1 l 0 (Array.replicate l.toArray.size false) a (by simp) (by simpa using hB.2) h
 simpa using this

theorem regionIn_below {id : Nat} {Q : Exit → Act → World → Prop} {a : Act} {w : World} {l : List Oper} (hmx : P.follows .mixedOrders = true) (hB : Region.lexB .any l.toArray = true) (hnd : noDefer l.toArray = true)
  (h : wpQuietIn F n P l.toArray (fun w' => ∃ p : Regrown, w' = grow (redrawn w p.d) p.os) (fun a' => ∀ w', (∃ p : Regrown, w' = grow (redrawn w p.d) p.os) → Q .normal a' w') l a) : (Code.region id l.toArray true).wpIn F n P Q a w :=
 regionIn_quiet (C := fun w' => ∃ p : Regrown, w' = grow (redrawn w p.d) p.os) hmx hB hnd ⟨⟨w.drawn + 1, #[]⟩, by rw [grow_empty]; rfl⟩ h

end fenced

/-! ### the wide fence, in a round or not: the quiet part walked plainly -/
section wide
variable {F : Fence} {n : Nat} {P : Program} {ops : Array Oper} {C : World → Prop}

structure WideF (F : Fence) (n : Nat) (P : Program) : Prop where
 fn : ∀ f, F.fn f
 depth : F.depth = none
 calls : ∀ {f args w R}, Calls P f args w R → CallsIn F (n - 1) P f args w R

theorem wideR (n : Nat) (P : Program) (l : Nat) : WideF (Fence.wide.inRound l) n P := ⟨fun _ => trivial, rfl, fun h => (callsIn_wide (n := n - 1)).2 h⟩

theorem quietIn_of_quiet (hw : WideF F n P) {Q : Act → Prop} : ∀ (l : List Oper) (a : Act), wpQuiet P ops C Q l a → wpQuietIn F n P ops C Q l a
 | [], _, h => h
 | o :: l, a, h => by
  refine ⟨fun _ _ f _ => hw.fn f, ?_⟩
  unfold wpQuiet at h
  split
  ·
   rename_i hg
   rw [if_pos hg] at h
   obtain ⟨v, h1, h2⟩ := h
   refine ⟨v, fun w hc => ?_, quietIn_of_quiet hw l _ h2⟩
   have := h1 w hc
   unfold Oper.quietAt at this
   unfold Oper.quietAtIn
   generalize (execOp a.eval o).run P w = r at *
   cases r with
   | ok x w' =>
    cases x <;> simp only [Oper.quietUpon] at this <;> simp only [Oper.quietUponIn]
    case value u => exact this
    case skip => exact this
    case enter f args =>
     refine ⟨this.1, ?_, hw.calls this.2⟩
     intro hd
     rw [hw.depth] at hd
     cases hd
   | halt x w' => simp only [Oper.quietUpon] at this
  ·
   rename_i hg
   rw [if_neg hg] at h
   exact quietIn_of_quiet hw l _ h

theorem regionR_below (hw : WideF F n P) {id : Nat} {Q : Exit → Act → World → Prop} {a : Act} {w : World} {l : List Oper} (hmx : P.follows .mixedOrders = true) (hB : Region.lexB .any l.toArray = true) (hnd : noDefer l.toArray = true)
  (h : wpQuiet P l.toArray (fun w' => ∃ p : Regrown, w' = grow (redrawn w p.d) p.os) (fun a' => ∀ w', (∃ p : Regrown, w' = grow (redrawn w p.d) p.os) → Q .normal a' w') l a) : (Code.region id l.toArray true).wpIn F n P Q a w :=
 regionIn_below hmx hB hnd (quietIn_of_quiet hw _ _ h)

end wide

/-! ### contracts, met within a quiet walk -/
section met
variable {P : Program} {f : FuncId} {args : Array Value} {w : World} {v : Value}
/-- .. at the class 'blocks may have been laid' -/
theorem grown_same {d : Nat} {os : Array Obj} (h : Calls P f args (grow (redrawn w d) os) fun e w' => e = .returned v ∧ grow (redrawn w d) os = w') : Calls P f args (grow (redrawn w d) os) fun e w'' => e = .returned v ∧ ∃ p : Regrown, w'' = grow (redrawn w p.d) p.os :=
 h.mono fun _ _ ⟨h1, h2⟩ => ⟨h1, ⟨d, os⟩, h2.symm⟩
/-- a callee that lays blocks -/
theorem grown_below {d : Nat} {os : Array Obj} (h : Calls P f args (grow (redrawn w d) os) fun e w' => e = .returned v ∧ Below (grow (redrawn w d) os).heap.size (grow (redrawn w d) os) w') : Calls P f args (grow (redrawn w d) os) fun e w'' => e = .returned v ∧ ∃ p : Regrown, w'' = grow (redrawn w p.d) p.os :=
 Calls.regrown_of h
end met

end Go.Proofs.Ytglfdclpjmhoiaa

/- Ranging over a function, plainly: the law of the kit at the wide fence, and a function's end behind it. -/

namespace Go.Proofs.Ytglfdclpjmhoiaa
open Go Go.RowKit Go.Sort

theorem wide_fn (k : FuncId) : Fence.wide.fn k = True := rfl
theorem wide_depth : Fence.wide.depth = none := rfl

def keepOn (S : Nat → Prop) (W W' : World) : Prop := ∀ k, S k → W'.heap[k]? = W.heap[k]?
theorem keepOn_t {S : Nat → Prop} {A B C : World} (h : keepOn S A B) (k : keepOn S B C) : keepOn S A C := fun i hi => (k i hi).trans (h i hi)
theorem keepOn_b {S : Nat → Prop} {w : World} (hb : ∀ k, S k → k < w.heap.size) (W : World) (l : Nat) (o o' : Obj) (hl : w.heap.size ≤ l) (_ : W.heap[l]? = some o) (_ : o.isCells = false) (_ : o.isWalk = false) : keepOn S W (W.putObj l o') :=
 fun k hk => World.putObj_heap_other (by have := hb k hk; omega)

theorem grownBy_of_below {w w' : World} (h : Below w.heap.size w w') : w.grownBy w' none := ⟨h.os, h.tape, h.output, h.size, fun k hk _ => h.block k hk⟩
theorem keepsFrom_of_below {B : Nat} {w w' : World} (h : Below w.heap.size w w') : KeepsFrom B w w' :=
 ⟨h.size, fun k o _ hk _ => (h.block k (Array.getElem?_eq_some_iff.1 hk).1).trans hk⟩
theorem keepOn_of_below {S : Nat → Prop} {w w' : World} (h : Below w.heap.size w w') (hS : ∀ k, S k → k < w.heap.size) : keepOn S w w' := fun k hk => h.block k (hS k hk)
theorem calls_of_wp_M {P : Program} {f : FuncId} {fn : Func} {c : Code} {args : Array Value} {w : World} {R : Ending → World → Prop}
  (hf : P.funcs[f]? = some fn) (hb : fn.body = some c)
  (h : c.wp P (bodyPostM Fence.wide 9 P fn R) { tmps := args ++ Array.replicate (fn.ntmps - args.size) undef, defers := [] } w) : Calls P f args w R :=
 (callsIn_wide (n := 9)).1 (callsIn_of_wp_marks hf hb trivial (wpIn_wide.2 h) rfl)

theorem endM {P : Program} {fn : Func} {R : Ending → World → Prop} {a : Act} {W : World} {D : Nat} {v : Value} (hd : a.defers = [{ target := .collected D, args := #[] }]) (hK : W.heap[D]? = some (.deferred (some [])))
  (hr : (results fn a.tmps).run P (W.putObj D (.deferred none)) = .ok v (W.putObj D (.deferred none))) (hR : R (.returned v) (W.putObj D (.deferred none))) : bodyPostM Fence.wide 9 P fn R .ret a W := by
 show LeavesInM Fence.wide 9 P fn a.tmps R a.defers .returning W
 rw [hd]
 refine ⟨by simp, .inl ⟨_, _, rfl, run_takeDeferred hK, ?_⟩⟩
 exact ⟨_, hr, hR⟩
/-- An end ahead of any loop. -/
theorem endN {P : Program} {fn : Func} {R : Ending → World → Prop} {a : Act} {W : World} {v : Value} (hd : a.defers = [])
  (hr : (results fn a.tmps).run P W = .ok v W) (hR : R (.returned v) W) : bodyPostM Fence.wide 9 P fn R .ret a W := by
 show LeavesInM Fence.wide 9 P fn a.tmps R a.defers .returning W
 rw [hd]
 exact ⟨_, hr, hR⟩

theorem put_below {n₀ D : Nat} {w W : World} (hB : Below n₀ w W) (hD : n₀ ≤ D) (hn : n₀ ≤ w.heap.size) (o' : Obj) : Below n₀ w (W.putObj D o') :=
 hB.grown (grownBy_putObj' W D o') (Nat.le_trans hn hB.size) (fun k e => by cases e; exact hD)

theorem rangeF {P : Program} {α : Type} {g : Operand} {ps : Array Tmp} {assign body : Code} {Q : Exit → Act → World → Prop} {a : Act} {w : World} {gf : Nat} {lb : Array Value}
  (hg : a.eval g = .func (.func gf) #[] lb) (eg : ∀ args w, (callFunc gf args).run P w = .ok (.enter gf args) w)
  {encs : α → Array Value} {Kp : World → World → Prop} {S Sp : List α → Prop} {N : Nat} (hseq : SeqStopsK Fence.wide 8 P gf lb encs Kp S Sp N w)
  (hKt : ∀ {A B C : World}, Kp A B → Kp B C → Kp A C) (hKb : ∀ (W : World) (l : Nat) (o o' : Obj), w.heap.size ≤ l → W.heap[l]? = some o → o.isCells = false → o.isWalk = false → Kp W (W.putObj l o')) (hps : ∀ x, (encs x).size = ps.size)
  (I : List α → World → Prop) (Ix : Code → List α → World → Prop) (hI : OwnFrom w.heap.size I) (hIx : ∀ c, OwnFrom w.heap.size (Ix c)) (h0 : I [] w) (a₁ : α → Act)
  (hassign : ∀ (l : Nat) (x : α) (W : World) (K : Act → World → Prop), K (a₁ x) W →
   assign.wpIn (Fence.wide.inRound l) 7 P (Exit.then K (fun _ _ _ => False)) { tmps := (ps.zip (encs x)).foldl (fun t (p, v) => t.setIfInBounds p v) a.tmps, defers := [] } W)
  (hbody : ∀ (l : Nat) (pre : List α) (x : α) (W : World), I pre W → pre.length < N → body.wpIn (Fence.wide.inRound l) 7 P (ownPostG w.heap.size Kp I Ix (pre ++ [x]) W) (a₁ x) W)
  (hdone : ∀ (D : Nat) (xs : List α) (W : World), w.heap.size ≤ D → S xs → I xs W → W.heap[D]? = some (.deferred (some [])) → Q .normal { a with defers := { target := .collected D, args := #[] } :: a.defers } W)
  (hstop : ∀ (D : Nat) (c : Code) (pre : List α) (W : World), w.heap.size ≤ D → Sp pre → Ix c pre W → W.heap[D]? = some (.deferred (some [])) → c.wp P Q { a with defers := { target := .collected D, args := #[] } :: a.defers } W) :
  (Code.rangeFunc g ps assign body).wp P Q a w :=
 (wpIn_wide (n := 9)).1 (wpIn_rangeFunc_ownG rfl (by decide) hg trivial eg hseq hKt hKb (Below.refl _ _) hps I Ix hI hIx h0 a₁ hassign hbody hdone
  (fun D c pre W h1 h2 h3 h4 => wpIn_wide.2 (hstop D c pre W h1 h2 h3 h4)))

end Go.Proofs.Ytglfdclpjmhoiaa

/- Plain words of layer 3: bytes folded, texts that are the same, where they stand, which of them. -/

namespace Go.Proofs.Ytglfdclpjmhoiaa

def foldI (x : Int) : Int := if 65 ≤ x ∧ x ≤ 90 then x + 32 else x
def foldL (fold : Bool) (xs : List Int) : List Int := if fold then xs.map foldI else xs
def sameL (fold : Bool) (xs ys : List Int) : Bool := decide (foldL fold xs = foldL fold ys)
def atL (fold : Bool) (text : List Int) (place : Int) (word : List Int) : Bool :=
 decide ((word.length : Int) ≤ place ∧ place ≤ (text.length : Int)) && sameL fold ((text.drop (place.toNat - word.length)).take word.length) word
def whichO (fold : Bool) (text : List Int) (wss : List (List Int)) : Option Nat := wss.findIdx? (fun w => sameL fold text w)
def whichL (fold : Bool) (text : List Int) (wss : List (List Int)) : Int := match whichO fold text wss with | none => -1 | some k => k

theorem foldI_bd {x : Int} (h : 0 ≤ x ∧ x ≤ 255) : 0 ≤ foldI x ∧ foldI x ≤ 255 := by unfold foldI; split <;> omega
theorem foldL_length (fold : Bool) (xs : List Int) : (foldL fold xs).length = xs.length := by cases fold <;> simp [foldL]
theorem foldL_bd {fold : Bool} {xs : List Int} (h : ∀ x ∈ xs, 0 ≤ x ∧ x ≤ 255) : ∀ x ∈ foldL fold xs, 0 ≤ x ∧ x ≤ 255 := by
 cases fold
 · exact h
 ·
  intro x hx
  simp only [foldL, if_true, List.mem_map] at hx
  obtain ⟨y, hy, rfl⟩ := hx
  exact foldI_bd (h y hy)
theorem sameL_comm (fold : Bool) (xs ys : List Int) : sameL fold xs ys = sameL fold ys xs := by
 unfold sameL
 by_cases h : foldL fold xs = foldL fold ys
 · simp [h]
 · simp [h]; exact fun e => h e.symm
theorem sameL_length {fold : Bool} {xs ys : List Int} (h : sameL fold xs ys = true) : xs.length = ys.length := by
 have := of_decide_eq_true h
 have h2 := congrArg List.length this
 rwa [foldL_length, foldL_length] at h2
theorem sameL_ne {fold : Bool} {xs ys : List Int} (h : xs.length ≠ ys.length) : sameL fold xs ys = false := by
 cases e : sameL fold xs ys with
 | false => rfl
 | true => exact absurd (sameL_length e) h

/-- One byte against another. -/
def sameI (fold : Bool) (x y : Int) : Bool := if fold then decide (foldI x = foldI y) else decide (x = y)
theorem foldL_map (fold : Bool) (xs : List Int) : foldL fold xs = xs.map (fun x => if fold then foldI x else x) := by cases fold <;> simp [foldL]
theorem sameL_zip {fold : Bool} : ∀ {xs ys : List Int}, xs.length = ys.length → (sameL fold xs ys = true ↔ ∀ p ∈ xs.zip ys, sameI fold p.1 p.2 = true)
 | [], [], _ => by simp [sameL]
 | x :: xs, y :: ys, h => by
  have ih := sameL_zip (fold := fold) (xs := xs) (ys := ys) (by simpa using h)
  unfold sameL at ih ⊢
  rw [foldL_map, foldL_map] at ih ⊢
  simp only [decide_eq_true_eq] at ih ⊢
  simp only [List.map_cons, List.cons.injEq, List.zip_cons_cons, List.mem_cons, forall_eq_or_imp, ih]
  cases fold <;> simp [sameI]
 | [], _ :: _, h => by simp at h
 | _ :: _, [], h => by simp at h

theorem whichL_nil (fold : Bool) (text : List Int) : whichL fold text [] = -1 := rfl
theorem whichL_snoc_no {fold : Bool} {text : List Int} {wss : List (List Int)} {y : List Int} (h : whichL fold text wss = -1) (hy : sameL fold text y = false) : whichL fold text (wss ++ [y]) = -1 := by
 unfold whichL whichO at h ⊢
 rw [List.findIdx?_append]
 cases e : wss.findIdx? (fun w => sameL fold text w) with
 | none => simp [hy]
 | some k => rw [e] at h; simp at h
theorem whichL_hit {fold : Bool} {text : List Int} {wss rest : List (List Int)} {y : List Int} (h : whichL fold text wss = -1) (hy : sameL fold text y = true) : whichL fold text (wss ++ y :: rest) = wss.length := by
 unfold whichL whichO at h ⊢
 rw [List.findIdx?_append]
 cases e : wss.findIdx? (fun w => sameL fold text w) with
 | none => simp [hy, List.findIdx?_cons]
 | some k => rw [e] at h; simp at h
theorem whichL_bd (fold : Bool) (text : List Int) (wss : List (List Int)) : -1 ≤ whichL fold text wss ∧ whichL fold text wss < wss.length := by
 unfold whichL whichO
 cases e : wss.findIdx? (fun w => sameL fold text w) with
 | none => simp; omega
 | some k =>
  have := (List.findIdx?_eq_some_iff_getElem.1 e).1
  simp; omega

theorem take_step {α : Type} {xs : List α} {k : Nat} {z : α} (h : xs[k]? = some z) : xs.take (k + 1) = xs.take k ++ [z] := by
 rw [List.take_add_one, h]; rfl
theorem split_at {α : Type} {xs : List α} {k : Nat} {z : α} (h : xs[k]? = some z) : xs = xs.take k ++ z :: xs.drop (k + 1) := by
 have hk := (List.getElem?_eq_some_iff.1 h)
 obtain ⟨hlt, rfl⟩ := hk
 rw [← List.drop_eq_getElem_cons hlt, List.take_append_drop]

def longL (wss : List (List Int)) : Int := wss.foldl (fun n w => max n (w.length : Int)) 0
theorem longL_snoc (l : List (List Int)) (x : List Int) : longL (l ++ [x]) = max (longL l) (x.length : Int) := by simp [longL, List.foldl_append]

end Go.Proofs.Ytglfdclpjmhoiaa

/- Contracts of the small functions of layer 28 and of configurations. -/

namespace Go.Proofs.Ytglfdclpjmhoiaa
open Go.RowKit Go.Sort

theorem mixed : Try.prog.follows .mixedOrders = true := by kernel_rfl
theorem ret_int {k : IntKind} {a b : Int} (h : a = b) : Ending.returned (.int k a) = .returned (.int k b) := by rw [h]

end Go.Proofs.Ytglfdclpjmhoiaa

/- Small functions of layer 3, walked: bytes folded, compared. -/

namespace Go.Proofs.Ytglfdclpjmhoiaa
open Go.RowKit Go.Sort

theorem cells0 : Try.prog.cellsOf 144 = 0 := by kernel_rfl
theorem run_partAt_zero (w : World) (b : Nat) (cs : Array Value) (t : TypeId) (fr : Nat × Nat) (h : w.heap[b]? = some (.cells cs t fr)) (ht : Try.prog.cellsOf t = 0) :
  Sem.run Try.prog (partAt ⟨b, 0, none⟩ 0 0) w = .ok ⟨b, 0, none⟩ w := by
 simp [partAt, byteOf, noView, viewAt, World.shape?, h, ht, go_sem]
theorem partAt_new (w : World) (t : TypeId) (ht : Try.prog.cellsOf t = 0) :
  Sem.run Try.prog (partAt ⟨w.heap.size, 0, none⟩ 0 0) (w.alloc (.cells #[] t)) = .ok ⟨w.heap.size, 0, none⟩ (w.alloc (.cells #[] t)) :=
 run_partAt_zero _ _ _ _ _ (World.alloc_heap_new _ _) ht
theorem partAt_grown {w : World} {b : Nat} {cs : Array Value} {t : TypeId} {fr : Nat × Nat} (h : w.heap[b]? = some (.cells cs t fr)) (ht : Try.prog.cellsOf t = 0) (d : Nat) (os : Array Obj) :
  Sem.run Try.prog (partAt ⟨b, 0, none⟩ 0 0) (grow (redrawn w d) os) = .ok ⟨b, 0, none⟩ (grow (redrawn w d) os) :=
 run_partAt_zero _ _ _ _ _ (((below_regrown w d os).block b (Array.getElem?_eq_some_iff.1 h).1).trans h) ht

theorem fold_any (x : Int) (w : World) (h0 : 0 ≤ x) (h1 : x ≤ 255) :
  Calls Try.prog 78 #[.int .u8 x] w fun e w' => e = .returned (.int .u8 (foldI x)) ∧ w = w' := by
 by_cases h2 : 65 ≤ x
 ·
  by_cases h3 : x ≤ 90
  all_goals
   go_enter Try.func78, Try.ntmps78
   go_wp2
   go_ret
   exact ⟨ret_int (by unfold foldI; first | rw [if_pos (by omega)] | rw [if_neg (by omega)]), rfl⟩
 ·
  go_enter Try.func78, Try.ntmps78
  go_wp2
  go_ret
  exact ⟨ret_int (by unfold foldI; rw [if_neg (by omega)]), rfl⟩

theorem rfold_any (x : Int) (w : World) (h0 : 0 ≤ x) (h1 : x ≤ 255) :
  Calls Try.prog 62 #[.int .u8 x] w fun e w' => e = .returned (.int .u8 (foldI x)) ∧ w = w' := by
 by_cases h2 : 65 ≤ x
 ·
  by_cases h3 : x ≤ 90
  all_goals
   go_enter Try.func62, Try.ntmps62
   go_wp2
   go_ret
   exact ⟨ret_int (by unfold foldI; first | rw [if_pos (by omega)] | rw [if_neg (by omega)]), rfl⟩
 ·
  go_enter Try.func62, Try.ntmps62
  go_wp2
  go_ret
  exact ⟨ret_int (by unfold foldI; rw [if_neg (by omega)]), rfl⟩

theorem exact_any (x y : Int) (w : World) :
  Calls Try.prog 99 #[.agg #[], .int .u8 x, .int .u8 y] w fun e w' => e = .returned (.bool (decide (x = y))) ∧ Below w.heap.size w w' := by
 by_cases h : x = y
 all_goals
  go_enter Try.func99, Try.ntmps99
  go_wp2
  go_ret
  exact ⟨by simp [h], (Below.refl _ _).alloc (Nat.le_refl _) _⟩

theorem folded_any (x y : Int) (w : World) (hx0 : 0 ≤ x) (hx1 : x ≤ 255) (hy0 : 0 ≤ y) (hy1 : y ≤ 255) :
  Calls Try.prog 98 #[.agg #[], .int .u8 x, .int .u8 y] w fun e w' => e = .returned (.bool (decide (foldI x = foldI y))) ∧ Below w.heap.size w w' := by
 have hX := foldI_bd ⟨hx0, hx1⟩
 have hY := foldI_bd ⟨hy0, hy1⟩
 go_enter Try.func98, Try.ntmps98
 have hp := partAt_grown (World.alloc_heap_new w (.cells #[] 144)) cells0
 go_wp2
 refine wp_region_quiet_below mixed (by kernel_rfl) ?_
 repeat (go_big_quiet_step (first | exact grown_same (fold_any _ _ (by omega) (by omega)) | exact grown_below (exact_any _ _ _)))
 refine wpQuiet_nil ?_
 rintro _ ⟨⟨dq, osq⟩, rfl⟩
 go_wp2
 go_ret
 exact ⟨rfl, ((Below.refl _ _).alloc (Nat.le_refl _) _).trans ((below_regrown _ dq osq).mono (by simp))⟩

theorem run_store_fn (P : Program) (w : World) (a : Addr) (f : Fn) (vs us : Array Value) (m : Mode) : (store a (.func f vs us) m).run P w = stored P w a (.func f vs us) m := run_store P w a _ m rfl

/-- Which function compares. -/
def cmpFn (fold : Bool) : FuncId := if fold then 98 else 99

theorem by_any (fold : Bool) (w : World) :
  Calls Try.prog 90 #[.bool fold] w fun e w' => e = .returned (.func (.func (cmpFn fold)) #[.agg #[]] #[]) ∧ Below w.heap.size w w' := by
 cases fold
 all_goals
  go_enter Try.func90, Try.ntmps90
  have hp := partAt_new w 144 cells0
  go_wp2
  go_ret
  exact ⟨by simp [cmpFn], (Below.refl _ _).alloc (Nat.le_refl _) _⟩

end Go.Proofs.Ytglfdclpjmhoiaa

/- Steps, After, Room, Blocks of layer 28. -/

namespace Go.Proofs.Ytglfdclpjmhoiaa
open Go.RowKit Go.Sort

/-- A slice whose elements fill a cell each. -/
def Sl1 {α : Type} (enc : α → Value) (w : World) (a : Option Addr) (len : Nat) (xs : List α) : Prop :=
 xs.length = len ∧ (len = 0 ∨ ∃ b off, a = some ⟨b, off, none⟩ ∧ b < w.heap.size ∧ ∀ i x, xs[i]? = some x → w.cell? ⟨b, off + i, none⟩ = some (enc x))
theorem Sl1.below {α : Type} {enc : α → Value} {w w' : World} {a : Option Addr} {len : Nat} {xs : List α} (h : Sl1 enc w a len xs) (hb : Below w.heap.size w w') : Sl1 enc w' a len xs := by
 obtain ⟨h1, h2 | ⟨b, off, e, hlt, hc⟩⟩ := h
 · exact ⟨h1, .inl h2⟩
 · exact ⟨h1, .inr ⟨b, off, e, Nat.lt_of_lt_of_le hlt hb.size, fun i x hx => (hb.cell (p := ⟨b, off + i, none⟩) hlt).trans (hc i x hx)⟩⟩

end Go.Proofs.Ytglfdclpjmhoiaa

/- Steps of layer 28, and the document's functions. -/

namespace Go.Proofs.Ytglfdclpjmhoiaa
open Go.RowKit Go.Sort

theorem Sl1.one {W : World} {n : Int} {b : Nat} (hc : W.cell? ⟨b, 0, none⟩ = some (.int .i64 n)) (hb : b < W.heap.size) : Sl1 (Value.int .i64) W (some ⟨b, 0, none⟩) 1 [n] := by
 refine ⟨rfl, .inr ⟨b, 0, rfl, hb, fun i x hx => ?_⟩⟩
 cases i with
 | zero => simp at hx; subst hx; exact hc
 | succ i => simp at hx

end Go.Proofs.Ytglfdclpjmhoiaa

/- Texts that are the same (layer 3): the iterator over two texts, and its caller. -/

namespace Go.Proofs.Ytglfdclpjmhoiaa
open Go.RowKit Go.Sort
attribute [local go_sem] Oper.semAt_some
attribute [local simp] wide_fn wide_depth
attribute [local go_sem] wide_fn wide_depth

/-- A slice of bytes: what it reads. -/
def Bys (w : World) (a : Option Addr) (len : Nat) (xs : List Int) : Prop := Sl1 (Value.int .u8) w a len xs ∧ ∀ x ∈ xs, 0 ≤ x ∧ x ≤ 255
theorem Bys.below {w w' : World} {a : Option Addr} {len : Nat} {xs : List Int} (h : Bys w a len xs) (hb : Below w.heap.size w w') : Bys w' a len xs := ⟨h.1.below hb, h.2⟩
theorem Bys.len {w : World} {a : Option Addr} {len : Nat} {xs : List Int} (h : Bys w a len xs) : xs.length = len := h.1.1
theorem Bys.nil (w : World) (a : Option Addr) : Bys w a 0 [] := ⟨⟨rfl, .inl rfl⟩, by simp⟩
/-- what was there lies as it lay -/
abbrev kept (w W : World) : Prop := keepOn (fun k => k < w.heap.size) w W
theorem kept_cell {w W : World} (h : kept w W) {p : Addr} (hp : p.block < w.heap.size) : W.cell? p = w.cell? p := World.cell?_of_block (h _ hp)
theorem kept_below {w W : World} (h : Below w.heap.size w W) : kept w W := keepOn_of_below h fun _ h => h
theorem Sl1.kept {α : Type} {enc : α → Value} {w w' : World} {a : Option Addr} {len : Nat} {xs : List α} (h : Sl1 enc w a len xs) (hk : kept w w') (hs : w.heap.size ≤ w'.heap.size) : Sl1 enc w' a len xs := by
 obtain ⟨h1, h2 | ⟨b, off, e, hlt, hc⟩⟩ := h
 · exact ⟨h1, .inl h2⟩
 · exact ⟨h1, .inr ⟨b, off, e, Nat.lt_of_lt_of_le hlt hs, fun i x hx => (kept_cell hk (p := ⟨b, off + i, none⟩) hlt).trans (hc i x hx)⟩⟩

theorem pairs_any (a b : Option Addr) (la ca lb cb : Nat) (w : World) :
  Calls Try.prog 91 #[.slice a la ca, .slice b lb cb] w fun e w' => e = .returned (.func (.func 100) #[] #[.pointer (some ⟨w.heap.size, 0, none⟩), .pointer (some ⟨w.heap.size + 1, 0, none⟩)]) ∧
   w' = (w.alloc (.cells #[.slice a la ca] 62)).alloc (.cells #[.slice b lb cb] 62) := by
 go_enter Try.func91, Try.ntmps91
 go_wp2
 go_ret
 exact ⟨rfl, rfl⟩

abbrev By2 := { p : Int × Int // (0 ≤ p.1 ∧ p.1 ≤ 255) ∧ 0 ≤ p.2 ∧ p.2 ≤ 255 }
def by2Enc (p : By2) : Array Value := #[.int .u8 p.1.1, .int .u8 p.1.2]

set_option maxHeartbeats 1000000 in
theorem pairs_stops (a b : Option Addr) (la ca lb cb p1 p2 : Nat) (xs ys : List Int) (n : Nat) (w : World) (hA : Bys w a la xs) (hB : Bys w b lb ys) (hl : la = lb) (hla : la ≤ 1000000)
  (h1 : w.heap[p1]? = some (.cells #[.slice a la ca] 62 (0, 0))) (h2 : w.heap[p2]? = some (.cells #[.slice b lb cb] 62 (0, 0))) :
  SeqStopsK Fence.wide n Try.prog 100 #[.pointer (some ⟨p1, 0, none⟩), .pointer (some ⟨p2, 0, none⟩)] by2Enc (keepOn (fun k => k < w.heap.size)) (fun zs => zs.map Subtype.val = xs.zip ys) (fun pre => ∃ k, pre.map Subtype.val = (xs.zip ys).take k) 1000001 w := by
 intro l J Jx W hW hJ hJx hY h0
 have hkW : kept w W := kept_below hW
 have hp1 : p1 < w.heap.size := (Array.getElem?_eq_some_iff.1 h1).1
 have hp2 : p2 < w.heap.size := (Array.getElem?_eq_some_iff.1 h2).1
 have cells : ∀ v : World, kept w v → v.cell? ⟨p1, 0, none⟩ = some (.slice a la ca) ∧ v.cell? ⟨p2, 0, none⟩ = some (.slice b lb cb) := by
  intro v hv
  rw [kept_cell hv hp1, kept_cell hv hp2]
  simp [World.cell?, h1, h2]
 obtain ⟨hxl, hxm⟩ := hA.1
 obtain ⟨hyl, hym⟩ := hB.1
 have HX := Lib.hid hA.2
 have HY := Lib.hid hB.2
 have HL := Lib.hid hl
 have HXL := Lib.hid hxl
 have HYL := Lib.hid hyl
 clear hA hB hl hxl hyl
 obtain ⟨c1, c2⟩ := cells W hkW
 refine callsIn_of_wp Try.func100 rfl trivial ?_ rfl
 simp only [Try.ntmps100, List.size_toArray, List.length_cons, List.length_nil, Nat.reduceAdd, Nat.reduceSub, Array.replicate_succ, Array.replicate_zero, List.push_toArray, List.append_toArray, List.nil_append, List.cons_append]
 gi_wp2
 clear c1 c2
 gi_loopw [8] (fun i wr => ∃ (k : Nat) (pre : List By2), k ≤ la ∧ i = .int .i64 k ∧ pre.map Subtype.val = (xs.zip ys).take k ∧ J pre wr ∧ kept w wr) (fun i _ => la - (intOf i).toNat)
 case atStart => exact ⟨0, [], Nat.zero_le _, rfl, by simp, h0, hkW⟩
 case round =>
  obtain ⟨k, pre, hk, rfl, hpre, hj, hkr⟩ := hrel
  have HP := Lib.hid hpre
  clear hpre
  by_cases hlt : k < la
  ·
   obtain ⟨x, hx⟩ : ∃ x, xs[k]? = some x := ⟨xs[k]'(by rw [HXL.out]; exact hlt), by simp⟩
   obtain ⟨y, hy⟩ : ∃ y, ys[k]? = some y := ⟨ys[k]'(by rw [HYL.out, ← HL.out]; exact hlt), by simp⟩
   obtain ⟨ba, oa, rfl, hba, hxc⟩ := hxm.resolve_left (by omega)
   obtain ⟨bb, ob, rfl, hbb, hyc⟩ := hym.resolve_left (by have := HL.out; omega)
   obtain ⟨c1, c2⟩ := cells wr hkr
   have cx : wr.cell? ⟨ba, oa + k, none⟩ = some (.int .u8 x) := (kept_cell hkr (p := ⟨ba, oa + k, none⟩) hba).trans (hxc k x hx)
   have cy : wr.cell? ⟨bb, ob + k, none⟩ = some (.int .u8 y) := (kept_cell hkr (p := ⟨bb, ob + k, none⟩) hbb).trans (hyc k y hy)
   have hbx := HX.out x (List.mem_of_getElem? hx)
   have hby := HY.out y (List.mem_of_getElem? hy)
   have hlen : pre.length ≤ k := by have := congrArg List.length HP.out; simp at this; omega
   have hltb : (k : Int) < lb := by have := HL.out; omega
   obtain ⟨fn, tmps, assign, body, hyl, hRo⟩ := hY pre ⟨(x, y), hbx, hby⟩ wr hj (by omega)
   have HS : Hid ((pre ++ [(⟨(x, y), hbx, hby⟩ : By2)]).map Subtype.val = (xs.zip ys).take (k + 1)) := by
    have hz : (xs.zip ys)[k]? = some (x, y) := by rw [List.getElem?_zip_eq_some]; exact ⟨hx, hy⟩
    rw [take_step hz, ← HP.out]
    simp [Hid]
   dsimp only [by2Enc] at hyl
   clear hx hy hxc hyc hxm hym
   gi_wp2
   refine hRo.mono ?_
   rintro e W4 (⟨rfl, hJ4, hk4⟩ | ⟨rfl, hJx4⟩)
   ·
    gi_wp2
    go_roundw
    case rel => exact ⟨k + 1, _, by omega, by go_num, HS.out, hJ4, keepOn_t hkr hk4⟩
    case measure => simp [intOf]; omega
   ·
    gi_wp2
    refine bodyPost_ret (results_none rfl _ _ _) rfl ?_
    exact ⟨⟨_, rfl⟩, .inr ⟨_, ⟨k + 1, HS.out⟩, hJx4⟩⟩
  ·
   obtain rfl : k = la := by omega
   gi_wp2
   go_end0
   refine ⟨⟨_, rfl⟩, .inl ⟨pre, ?_, hj⟩⟩
   show pre.map Subtype.val = xs.zip ys
   rw [HP.out, List.take_of_length_le (by simp; have := HXL.out; omega)]

end Go.Proofs.Ytglfdclpjmhoiaa

/- Texts that are the same (layer 3), walked. -/

namespace Go.Proofs.Ytglfdclpjmhoiaa
open Go.RowKit Go.Sort
attribute [local go_sem] Oper.semAt_some
attribute [local simp] wide_fn wide_depth
attribute [local go_sem] wide_fn wide_depth
attribute [local go_sem] run_store_fn

theorem samefn_any (fold : Bool) (x y : Int) (w : World) (hx : 0 ≤ x ∧ x ≤ 255) (hy : 0 ≤ y ∧ y ≤ 255) :
  Calls Try.prog (cmpFn fold) #[.agg #[], .int .u8 x, .int .u8 y] w fun e w' => e = .returned (.bool (sameI fold x y)) ∧ Below w.heap.size w w' := by
 cases fold
 · exact exact_any x y w
 · exact folded_any x y w hx.1 hx.2 hy.1 hy.2

theorem results_bool {fn : Func} {p : Tmp} {tmps : Array Value} {W : World} {B : Nat} {t : TypeId} {b : Bool} (h : fn.results = #[.cell p 4]) (hp : tmps.getD p undef = .pointer (some ⟨B, 0, none⟩)) (hB : Boxed W B t (.bool b)) :
  (results fn tmps).run Try.prog W = .ok (.bool b) W := by
 have hp' : tmps[p]?.getD undef = .pointer (some ⟨B, 0, none⟩) := by simpa using hp
 have hc := hB.cell
 simp [results, h, hp', asAddr, hc, go_sem, loadVar]

theorem cmpFn_enters (fold : Bool) (args : Array Value) (w : World) : Sem.run Try.prog (callFunc (cmpFn fold) args) w = .ok (.enter (cmpFn fold) args) w := by
 cases fold
 · exact enters_of Try.func99 (by kernel_rfl) rfl args w
 · exact enters_of Try.func98 (by kernel_rfl) rfl args w
theorem own_size {β : Type} (B n : Nat) : OwnFrom B (fun (_ : β) W => n ≤ W.heap.size) := fun s A C row hs hg hr => Nat.le_trans hs hg.size
theorem own_pure {β : Type} (B : Nat) (p : β → Prop) : OwnFrom B (fun s (_ : World) => p s) := fun s A C row hs hg hr => hs

set_option maxRecDepth 100000 in
set_option maxHeartbeats 4000000 in
theorem same_any (fold : Bool) (a b : Option Addr) (la ca lb cb : Nat) (xs ys : List Int) (w : World) (hA : Bys w a la xs) (hB : Bys w b lb ys) (hla : la ≤ 1000000) :
  Calls Try.prog 77 #[.bool fold, .slice a la ca, .slice b lb cb] w fun e w' => e = .returned (.bool (sameL fold xs ys)) ∧ Below w.heap.size w w' := by
 refine calls_of_wp_M Try.func77 rfl ?_
 simp only [Try.ntmps77, List.size_toArray, List.length_cons, List.length_nil, Nat.reduceAdd, Nat.reduceSub, Array.replicate_succ, Array.replicate_zero, List.push_toArray, List.append_toArray, List.nil_append, List.cons_append]
 have hA0 := hA
 have hB0 := hB
 by_cases hl : la = lb
 ·
  subst hl
  go_wp2_with fail
  refine (by_any fold _).mono ?_
  rintro e w1 ⟨rfl, hb⟩
  have hB1 : Below w.heap.size w w1 := ((Below.refl _ _).alloc (Nat.le_refl _) _).trans (hb.mono (by simp))
  have bR : Boxed w1 w.heap.size 4 (.bool false) := (hb.block _ (by simp)).trans (Boxed.new w 4 (.bool false))
  have hs1 : w.heap.size < w1.heap.size := bR.lt
  go_wp2_with (go_at_call 91; refine (pairs_any _ _ _ _ _ _ _).mono ?_; rintro e w' ⟨rfl, rfl⟩)
  have bF : Boxed (((w1.alloc (.cells #[.func (.func (cmpFn fold)) #[.agg #[]] #[]] 129)).alloc (.cells #[.slice a la ca] 62)).alloc (.cells #[.slice b la cb] 62)) w1.heap.size 129 (.func (.func (cmpFn fold)) #[.agg #[]] #[]) :=
   ((Boxed.new w1 _ _).alloc _).alloc _
  have bA : (((w1.alloc (.cells #[.func (.func (cmpFn fold)) #[.agg #[]] #[]] 129)).alloc (.cells #[.slice a la ca] 62)).alloc (.cells #[.slice b la cb] 62)).heap[w1.heap.size + 1]? = some (.cells #[.slice a la ca] 62 (0, 0)) := by
   have := (Boxed.new (w1.alloc (.cells #[.func (.func (cmpFn fold)) #[.agg #[]] #[]] 129)) 62 (.slice a la ca)).alloc (.cells #[.slice b la cb] 62)
   rwa [World.size_alloc] at this
  have bB : (((w1.alloc (.cells #[.func (.func (cmpFn fold)) #[.agg #[]] #[]] 129)).alloc (.cells #[.slice a la ca] 62)).alloc (.cells #[.slice b la cb] 62)).heap[w1.heap.size + 1 + 1]? = some (.cells #[.slice b la cb] 62 (0, 0)) := by
   have := (Boxed.new ((w1.alloc (.cells #[.func (.func (cmpFn fold)) #[.agg #[]] #[]] 129)).alloc (.cells #[.slice a la ca] 62)) 62 (.slice b la cb))
   rwa [World.size_alloc, World.size_alloc] at this
  have bR3 := ((bR.alloc (.cells #[.func (.func (cmpFn fold)) #[.agg #[]] #[]] 129)).alloc (.cells #[.slice a la ca] 62)).alloc (.cells #[.slice b la cb] 62)
  have hB3 := ((hB1.alloc (Nat.le_of_lt hs1) (.cells #[.func (.func (cmpFn fold)) #[.agg #[]] #[]] 129)).alloc (by simp; omega) (.cells #[.slice a la ca] 62)).alloc (by simp; omega) (.cells #[.slice b la cb] 62)
  have hs3 : (((w1.alloc (.cells #[.func (.func (cmpFn fold)) #[.agg #[]] #[]] 129)).alloc (.cells #[.slice a la ca] 62)).alloc (.cells #[.slice b la cb] 62)).heap.size = w1.heap.size + 3 := by simp
  generalize (((w1.alloc (.cells #[.func (.func (cmpFn fold)) #[.agg #[]] #[]] 129)).alloc (.cells #[.slice a la ca] 62)).alloc (.cells #[.slice b la cb] 62)) = w3 at *
  have hA3 := hA.below hB3
  have hB3' := hB.below hB3
  apply rangeF rfl (enters_of Try.func100 (by kernel_rfl) rfl) (pairs_stops a b la ca la cb (w1.heap.size + 1) (w1.heap.size + 1 + 1) xs ys 8 w3 hA3 hB3' rfl hla bA bB) keepOn_t (keepOn_b fun _ h => h) (fun _ => rfl)
   (fun pre W => Boxed W w1.heap.size 129 (.func (.func (cmpFn fold)) #[.agg #[]] #[]) ∧ Boxed W w.heap.size 4 (.bool false) ∧ Below w.heap.size w W ∧ w3.heap.size ≤ W.heap.size ∧ ∀ p ∈ pre.map Subtype.val, sameI fold p.1 p.2 = true)
   (fun c pre W => Boxed W w.heap.size 4 (.bool false) ∧ Below w.heap.size w W ∧ c = .ret ∧ ∃ p ∈ pre.map Subtype.val, sameI fold p.1 p.2 = false)
  case hI => exact OwnFrom.and (Own.from (boxed_own _ _ _) _) (OwnFrom.and (Own.from (boxed_own _ _ _) _) (OwnFrom.and (ownFrom_below (Nat.le_refl _) (by omega)) (OwnFrom.and (own_size _ _) (own_pure _ _))))
  case hIx => exact fun c => OwnFrom.and (Own.from (boxed_own _ _ _) _) (OwnFrom.and (ownFrom_below (Nat.le_refl _) (by omega)) (own_pure _ _))
  case h0 => exact ⟨bF, bR3, hB3, Nat.le_refl _, by simp⟩
  case hassign =>
   intro l x W K hK
   unfold by2Enc
   gi_wp2
   exact hK
  case hbody =>
   rintro l pre ⟨⟨x, y⟩, hx, hy⟩ W ⟨hF, hR, hB, hs, hall⟩ hlen
   have hc := hF.cell
   have hc2 := hR.cell
   have hf2 := hR.frozen
   dsimp only at hx hy ⊢
   have HALL := Lib.hid hall
   clear hall
   have he := cmpFn_enters fold
   gi_wp2_with fail
   refine (callsIn_wide.2 (samefn_any fold x y W hx hy)).mono ?_
   rintro e W4 ⟨rfl, hb4⟩
   have hR4 : Boxed W4 w.heap.size 4 (.bool false) := (hb4.block _ hR.lt).trans hR
   have hF4 : Boxed W4 w1.heap.size 129 (.func (.func (cmpFn fold)) #[.agg #[]] #[]) := (hb4.block _ hF.lt).trans hF
   have hc4 := hR4.cell
   have hf4 := hR4.frozen
   have hs4 : w3.heap.size ≤ W4.heap.size := Nat.le_trans hs hb4.size
   have hB4 : Below w.heap.size w W4 := hB.trans (hb4.mono hB.size)
   cases e : sameI fold x y with
   | true =>
    gi_wp2
    refine ⟨keepsFrom_of_below hb4, keepOn_of_below hb4 (fun k hk => by omega), hF4, hR4, hB4, hs4, ?_⟩
    rw [List.map_append]
    intro p hp
    rcases List.mem_append.1 hp with hp | hp
    · exact HALL.out p hp
    · simp at hp; rw [hp]; exact e
   | false =>
    gi_wp2
    have kO := (KeepsOthers.setCell W4 ⟨w.heap.size, 0, none⟩ (.bool false)).from w3.heap.size
    exact ⟨(keepsFrom_of_below hb4).trans kO, hR4.set _, hB4.setCell (Nat.le_refl _) _, rfl, (x, y), by simp, e⟩
  case hdone =>
   rintro D zs W hD hS ⟨hF, hR, hB, hs, hall⟩ hK
   have hK' : (W.setCell ⟨w.heap.size, 0, none⟩ (.bool true)).heap[D]? = some (.deferred (some [])) := (Below.heap_setCell W ⟨w.heap.size, 0, none⟩ _ _ (by simp; omega)).trans hK
   have hc2 := hR.cell
   have hf2 := hR.frozen
   go_wp2
   have bT : Boxed ((W.setCell ⟨w.heap.size, 0, none⟩ (.bool true)).putObj D (.deferred none)) w.heap.size 4 (.bool true) := (World.putObj_heap_other (by omega)).trans (hR.set _)
   refine endM rfl hK' (results_bool rfl rfl bT) ⟨?_, put_below (hB.setCell (Nat.le_refl _) _) (by omega) (Nat.le_refl _) _⟩
   rw [(sameL_zip (by rw [hA0.len, hB0.len])).2 (by rw [← hS]; exact hall)]
  case hstop =>
   rintro D c pre W hD hS ⟨hR, hB, rfl, hex⟩ hK
   go_wp2
   have bT : Boxed (W.putObj D (.deferred none)) w.heap.size 4 (.bool false) := (World.putObj_heap_other (by omega)).trans hR
   refine endM rfl hK (results_bool rfl rfl bT) ⟨?_, put_below hB (by omega) (Nat.le_refl _) _⟩
   obtain ⟨p, hp, hpf⟩ := hex
   cases e : sameL fold xs ys with
   | false => rfl
   | true =>
    exfalso
    have := (sameL_zip (by rw [hA0.len, hB0.len])).1 e p (by obtain ⟨k, hk⟩ := hS; rw [hk] at hp; exact List.mem_of_mem_take hp)
    rw [this] at hpf
    cases hpf
 ·
  have hE : sameL fold xs ys = false := sameL_ne (by rw [hA.len, hB.len]; exact hl)
  have hne : ((la : Int) != (lb : Int)) = true := by simp; omega
  go_wp2
  refine endN rfl (results_bool rfl rfl (Boxed.new w 4 _)) ⟨by rw [hE], (Below.refl _ _).alloc (Nat.le_refl _) _⟩

end Go.Proofs.Ytglfdclpjmhoiaa

/- Where texts stand, which of them (layer 3), walked. -/

namespace Go.Proofs.Ytglfdclpjmhoiaa
open Go.RowKit Go.Sort

theorem add_plain (b off i : Nat) : (⟨b, off, none⟩ : Addr).add i = ⟨b, off + i, none⟩ := by
 unfold Addr.add
 split <;> simp_all
theorem Sl1.cut {α : Type} {enc : α → Value} {w : World} {a : Option Addr} {n : Nat} {xs : List α} (h : Sl1 enc w a n xs) {lo m : Nat} (hm : lo + m ≤ n) :
  Sl1 enc w (a.map (·.add lo)) m ((xs.drop lo).take m) := by
 obtain ⟨h1, h2⟩ := h
 refine ⟨by simp; omega, ?_⟩
 by_cases h0 : m = 0
 · exact .inl h0
 ·
  right
  obtain ⟨b, off, rfl, hlt, hcell⟩ := h2.resolve_left (by omega)
  refine ⟨b, off + lo, by simp [add_plain], hlt, fun i x hx => ?_⟩
  rw [List.getElem?_take] at hx
  split at hx
  ·
   rw [List.getElem?_drop] at hx
   rw [Nat.add_assoc]
   exact hcell _ x hx
  · cases hx
theorem Bys.cut {w : World} {a : Option Addr} {n : Nat} {xs : List Int} (h : Bys w a n xs) {lo m : Nat} (hm : lo + m ≤ n) : Bys w (a.map (·.add lo)) m ((xs.drop lo).take m) :=
 ⟨h.1.cut hm, fun x hx => h.2 x (List.mem_of_mem_drop (List.mem_of_mem_take hx))⟩
/-- A slice of texts: what it reads. -/
def Wds (w : World) (a : Option Addr) (len : Nat) (wss : List (List Int)) : Prop :=
 ∃ vs : List (Option Addr × Nat × Nat), Sl1 (fun v => Value.slice v.1 v.2.1 v.2.2) w a len vs ∧ vs.length = wss.length ∧ ∀ (i : Nat) (v : Option Addr × Nat × Nat) (xs : List Int), vs[i]? = some v → wss[i]? = some xs → Bys w v.1 v.2.1 xs ∧ v.2.1 ≤ v.2.2
theorem Wds.below {w w' : World} {a : Option Addr} {len : Nat} {wss : List (List Int)} (h : Wds w a len wss) (hb : Below w.heap.size w w') : Wds w' a len wss := by
 obtain ⟨vs, h1, h2, h3⟩ := h
 exact ⟨vs, h1.below hb, h2, fun i v xs hv hx => ⟨(h3 i v xs hv hx).1.below hb, (h3 i v xs hv hx).2⟩⟩
theorem Wds.len {w : World} {a : Option Addr} {len : Nat} {wss : List (List Int)} (h : Wds w a len wss) : wss.length = len := by
 obtain ⟨vs, h1, h2, h3⟩ := h
 rw [← h2, h1.1]
theorem Wds.at_ {w : World} {a : Option Addr} {len : Nat} {wss : List (List Int)} (h : Wds w a len wss) {k : Nat} (hk : k < len) :
  ∃ b off a' l c xs, a = some ⟨b, off, none⟩ ∧ b < w.heap.size ∧ w.cell? ⟨b, off + k, none⟩ = some (.slice a' l c) ∧ wss[k]? = some xs ∧ Bys w a' l xs ∧ l ≤ c := by
 have hl := h.len
 obtain ⟨vs, ⟨h0, h1⟩, h2, h3⟩ := h
 obtain ⟨b, off, rfl, hlt, hc⟩ := h1.resolve_left (by omega)
 obtain ⟨v, hv⟩ : ∃ v, vs[k]? = some v := ⟨vs[k]'(by omega), by simp⟩
 obtain ⟨x, hx⟩ : ∃ v, wss[k]? = some v := ⟨wss[k]'(by omega), by simp⟩
 exact ⟨b, off, v.1, v.2.1, v.2.2, x, rfl, hlt, hc k v hv, hx, h3 k v x hv hx⟩
theorem mem_bd {wss : List (List Int)} {M : Nat} (h : ∀ x ∈ wss, x.length ≤ M) {k : Nat} {x : List Int} (hx : wss[k]? = some x) : x.length ≤ M := h x (List.mem_of_getElem? hx)

set_option maxHeartbeats 1000000 in
theorem which_any (fold : Bool) (a b : Option Addr) (la ca lb cb : Nat) (xs : List Int) (wss : List (List Int)) (w : World) (hA : Bys w a la xs) (hB : Wds w b lb wss) (hlb : lb ≤ 1000000) (hM : ∀ x ∈ wss, x.length ≤ 1000000) :
  Calls Try.prog 65 #[.bool fold, .slice a la ca, .slice b lb cb] w fun e w' => e = .returned (.int .i64 (whichL fold xs wss)) ∧ Below w.heap.size w w' := by
 have HL := Lib.hid hB.len
 go_enter Try.func65, Try.ntmps65
 go_wp2
 go_loopw [11] (fun i wr => ∃ k : Nat, k ≤ lb ∧ i = .int .i64 k ∧ Hid (whichL fold xs (wss.take k) = -1) ∧ Below w.heap.size w wr) (fun i _ => lb - (intOf i).toNat)
 case atStart => exact ⟨0, Nat.zero_le _, rfl, by simp [Hid, whichL_nil], Below.refl _ _⟩
 case round =>
  obtain ⟨k, hk, rfl, HK, hBe⟩ := hrel
  have hAr := hA.below hBe
  have hBr := hB.below hBe
  by_cases hlt : k < lb
  ·
   obtain ⟨bb, off, a', l, c, x, rfl, hbl, hcell, hx, hX, hlc⟩ := hBr.at_ hlt
   have hxl : l ≤ 1000000 := by have := mem_bd hM hx; rw [hX.len] at this; exact this
   go_wp2_with fail
   refine (same_any fold a' a l c la ca x xs wr hX hAr hxl).mono ?_
   rintro e w1 ⟨rfl, hb⟩
   have hB1 : Below w.heap.size w w1 := hBe.trans (hb.mono hBe.size)
   cases e : sameL fold x xs with
   | true =>
    have HH : Hid (whichL fold xs wss = k) := by
     have h := whichL_hit (rest := wss.drop (k + 1)) HK (by rw [sameL_comm]; exact e)
     rw [← split_at hx] at h
     rw [Hid, h, List.length_take, HL.out]
     omega
    go_wp2
    go_ret
    exact ⟨by rw [HH.out]; rfl, hB1⟩
   | false =>
    have HH : Hid (whichL fold xs (wss.take (k + 1)) = -1) := by
     rw [take_step hx]
     exact whichL_snoc_no HK (by rw [sameL_comm]; exact e)
    go_wp2
    go_roundw
    case rel => exact ⟨k + 1, by omega, by go_num, HH, hB1⟩
    case measure => simp [intOf]; omega
  ·
   obtain rfl : k = lb := by omega
   have HH : Hid (whichL fold xs wss = -1) := by
    have h := HK
    rwa [List.take_of_length_le (by rw [HL.out]; exact Nat.le_refl _)] at h
   go_wp2
   go_ret
   exact ⟨by rw [HH.out]; rfl, hBe⟩

end Go.Proofs.Ytglfdclpjmhoiaa

/- Texts folded and copied (layers 3 and 5, and the document's functions), walked. -/

namespace Go.Proofs.Ytglfdclpjmhoiaa
open Go.RowKit Go.Sort

/-- A row of bytes that the call made. -/
abbrev OwnB (w : World) (base : Nat) (v : Value) (n : Nat) (xs : List Int) : Prop := w.ownsRow base 5 1 v n (xs.map (Value.int .u8))
theorem u8_info : (Try.prog.info? 5).map (fun i => (i.zero, i.size, i.bytes)) = some (some (.int .u8 0), 1, 1) := by kernel_rfl
theorem own_sl1 {α : Type} {enc : α → Value} {w : World} {base n : Nat} {e : TypeId} {v : Value} {xs : List α} (h : w.ownsRow base e 1 v n (xs.map enc)) : ∃ a c, v = .slice a n c ∧ n ≤ c ∧ Sl1 enc w a n xs := by
 have hl : xs.length = n := by have := h.1; simpa using this
 rcases h.2 with ⟨rfl, rfl⟩ | ⟨g, cap, cur, rfl, hg, hh, hn, _, _, hc⟩
 · exact ⟨none, 0, rfl, Nat.le_refl _, hl, .inl rfl⟩
 ·
  refine ⟨_, cap, rfl, hn, hl, .inr ⟨g, 0, rfl, (Array.getElem?_eq_some_iff.1 hh).1, fun i x hx => ?_⟩⟩
  have := h.cells (g := g) rfl i (enc x) (by simp [hx])
  rwa [add_plain] at this
theorem own_bys {w : World} {base n : Nat} {v : Value} {xs : List Int} (h : OwnB w base v n xs) (hb : ∀ x ∈ xs, 0 ≤ x ∧ x ≤ 255) : ∃ a c, v = .slice a n c ∧ n ≤ c ∧ Bys w a n xs := by
 obtain ⟨a, c, e, hc, h1⟩ := own_sl1 h
 exact ⟨a, c, e, hc, h1, hb⟩
theorem below_append {w wr w1 : World} {o : Obj} {base n size : Nat} {e : TypeId} {v : Value} {xs : List Value} (hB : Below w.heap.size w wr) (hown : wr.ownsRow w.heap.size e size v n xs) (hg : (wr.alloc o).grownBy w1 v.ownBlock) : Below w.heap.size w w1 :=
 (hB.alloc hB.size o).grown hg (by simp; have := hB.size; omega) (fun k hk => (hown.lt k hk).1)

theorem Sl1.news {α : Type} {enc : α → Value} {w : World} {ad : Addr} {m : Nat} {ys : List α} (h : Sl1 enc w (some ad) m ys) : ∀ j u, (ys.map enc)[j]? = some u → w.cell? (ad.add j) = some u := by
 intro j u hu
 rw [List.getElem?_map, Option.map_eq_some_iff] at hu
 obtain ⟨y, hy, rfl⟩ := hu
 obtain ⟨h1, h2⟩ := h
 have hj := (List.getElem?_eq_some_iff.1 hy).1
 obtain ⟨b, off, e, hlt, hc⟩ := h2.resolve_left (by omega)
 obtain rfl := Option.some.inj e
 rw [add_plain]
 exact hc j y hy

/-- append of a slice that came in, nil or not, onto a row of the call's own: the run. -/
theorem run_append_sl1 {P : Program} {α : Type} {enc : α → Value} (hone : ∀ x, (enc x).oneCell' = true) (w : World) (base : Nat) (t ty e : TypeId) (i : TypeInfo) (z : Value) (bytes : Nat) (ht : P.underlying t = some (.slice e)) (hi : P.info? e = some i) (hz : i.zero = some z)
  (hsize : i.size = 1) (hby : i.bytes = bytes) (hzs : z.cells.size = 1) (v : Value) (n : Nat) (xs : List Value) (hown : w.ownsRow base e 1 v n xs)
  (A : Option Addr) (m c : Nat) (ys : List α) (hs : Sl1 enc w A m ys) (h63 : n + m ≤ maxLen) (hbytes : (n + m) * bytes ≤ 140737488355328) (hbase : base ≤ w.heap.size) :
  ∃ v' w', (Builtin.append_ #[t, t] ty #[v, .slice A m c]).run P w = .ok v' w' ∧ w'.ownsRow base e 1 v' (n + m) (xs ++ ys.map enc) ∧ w.grownBy w' v.ownBlock ∧
   (v'.ownBlock = v.ownBlock ∨ v'.ownBlock = some w.heap.size) := by
 cases A with
 | some ad =>
  obtain ⟨v', w', hr, h2, h3, _, h5⟩ := run_append_own_at (P := P) w base t ty e i z 1 bytes ht hi hz hsize hby hzs (by decide) v n xs hown ad m c (ys.map enc) (by simp [hs.1]) hs.news (by intro u hu; obtain ⟨y, _, rfl⟩ := List.mem_map.1 hu; exact hone y) h63 hbytes hbase
  exact ⟨v', w', hr, h2, h3, h5⟩
 | none =>
  have hm : m = 0 := hs.2.elim id fun ⟨b, off, e, _⟩ => by cases e
  subst hm
  have hy : ys = [] := List.eq_nil_of_length_eq_zero hs.1
  subst hy
  refine ⟨v, w, ?_, by simpa using hown, World.grownBy.refl w _, .inl rfl⟩
  rcases hown.2 with ⟨rfl, rfl⟩ | ⟨g, cap, cur, rfl, _, _, hnc, _⟩
  · simp [Builtin.append_, run_underlying ht, sizeOf, typeInfo, hi, Builtin.lenOf, Builtin.firstCells]
  · simp [Builtin.append_, run_underlying ht, sizeOf, typeInfo, hi, Builtin.lenOf, Builtin.firstCells, hnc, storeCells]

theorem wpList_append_sl1 {P : Program} {w : World} {ops : Array Oper} {rest : List Oper} {o : Oper} {a : Act} {Q : Exit → Act → World → Prop} (hgd : o.guard = none) (s x : Operand) (t : TypeId)
  (ho : o.op = .call { callee := .builtin .append, args := #[s, x], argTypes := #[t, t] }) {α : Type} {enc : α → Value} (hone : ∀ x, (enc x).oneCell' = true)
  (base : Nat) (e : TypeId) (i : TypeInfo) (z : Value) (bytes : Nat) (ht : P.underlying t = some (.slice e)) (hi : P.info? e = some i) (hz : i.zero = some z) (hsize : i.size = 1) (hby : i.bytes = bytes) (hzs : z.cells.size = 1)
  (v : Value) (n : Nat) (xs : List Value) (hs : a.eval s = v) (hown : w.ownsRow base e 1 v n xs) (A : Option Addr) (m c : Nat) (ys : List α) (hx : a.eval x = .slice A m c) (hsl : Sl1 enc w A m ys)
  (h63 : n + m ≤ maxLen) (hbytes : (n + m) * bytes ≤ 140737488355328) (hbase : base ≤ w.heap.size)
  (h : ∀ v' w', w'.ownsRow base e 1 v' (n + m) (xs ++ ys.map enc) → w.grownBy w' v.ownBlock → (v'.ownBlock = v.ownBlock ∨ v'.ownBlock = some w.heap.size) → wpList P ops Q rest (a.put o.dst v') w') : wpList P ops Q (o :: rest) a w := by
 refine wpList_plain hgd fun K hK => ?_
 obtain ⟨v', w', hr, h2, h3, h4⟩ := run_append_sl1 (P := P) hone w base t o.type e i z bytes ht hi hz hsize hby hzs v n xs hown A m c ys hsl h63 hbytes hbase
 unfold Oper.wp execOp
 simp only [ho, resolve, invoke, builtin, Sem.run_bind, Sem.run_pure, Result.andThen_ok, List.map_toArray, List.map_cons, List.map_nil, hs, hx, hr]
 exact hK _ _ (h v' w' h2 h3 h4)

set_option maxRecDepth 100000 in
set_option maxHeartbeats 1000000 in
theorem rfolded_any (a : Option Addr) (la ca : Nat) (xs : List Int) (w : World) (hA : Bys w a la xs) (hla : la ≤ 1000000) :
    Calls Try.prog 51 #[.slice a la ca] w fun e w' => ∃ v, e = .returned v ∧ OwnB w' w.heap.size v la (xs.map foldI) ∧ Below w.heap.size w w' := by
  obtain ⟨i0, hi, hz0, hz1, hz2⟩ := info_parts u8_info
  have HL := Lib.hid hA.len
  go_enter Try.func51, Try.ntmps51
  go_wp2
  go_loopw [3, 4] (fun o i wr => ∃ k : Nat, k ≤ la ∧ i = .int .i64 k ∧ OwnB wr w.heap.size o k ((xs.take k).map foldI) ∧ Below w.heap.size w wr) (fun _ i _ => la - (intOf i).toNat)
  case atStart => exact ⟨0, Nat.zero_le _, rfl, World.ownsRow_nil _ _ _ _, Below.refl _ _⟩
  case round =>
    obtain ⟨k, hk, rfl, hown, hBe⟩ := hrel
    by_cases hlt : k < la
    · obtain ⟨x, hx⟩ : ∃ x, xs[k]? = some x := ⟨xs[k]'(by rw [HL.out]; exact hlt), by simp⟩
      have hAr := hA.below hBe
      have hbx := hAr.2 x (List.mem_of_getElem? hx)
      obtain ⟨b, off, rfl, hbl, hc⟩ := hAr.1.2.resolve_left (by omega)
      have hcell := hc k x hx
      have htk := Lib.hid (take_step hx)
      clear hc hx
      go_wp2_with (first
        | (go_at_call 62; refine (rfold_any _ _ (by omega) (by omega)).mono ?_; rintro e w' ⟨rfl, rfl⟩)
        | (at_builtin
           refine wpList_append_own_at _ rfl _ _ 62 rfl w.heap.size 5 i0 (.int .u8 0) 1 1 Try.underlying62 hi hz0 hz1 hz2 rfl (by decide) _ _ _ rfl (hown.alloc _) ⟨wr.heap.size, 0, none⟩ 1 1 [.int .u8 (foldI x)] rfl rfl (cell_one_new _ _ _) (by simp [Value.oneCell']) (by unfold maxLen; omega) (by omega) (by have := hBe.size; simp; omega) ?_
           intro v' w5 hown' hgrow hnil hat))
      have hB5 := below_append (base := w.heap.size) hBe hown hgrow
      go_roundw
      case rel => exact ⟨k + 1, by omega, by go_num, by unfold OwnB; rw [htk.out, List.map_append, List.map_append]; exact hown', hB5⟩
      case measure => simp [intOf]; omega
    · obtain rfl : k = la := by omega
      go_wp2
      go_ret
      refine ⟨_, rfl, ?_, hBe⟩
      have h := hown
      rw [List.take_of_length_le (by rw [HL.out]; exact Nat.le_refl _)] at h
      exact h

set_option maxRecDepth 100000 in
set_option maxHeartbeats 1000000 in
theorem folded_l_any (a : Option Addr) (la ca : Nat) (xs : List Int) (w : World) (hA : Bys w a la xs) (hla : la ≤ 1000000) :
    Calls Try.prog 66 #[.slice a la ca] w fun e w' => ∃ v, e = .returned v ∧ OwnB w' w.heap.size v la (xs.map foldI) ∧ Below w.heap.size w w' := by
  obtain ⟨i0, hi, hz0, hz1, hz2⟩ := info_parts u8_info
  have HL := Lib.hid hA.len
  go_enter Try.func66, Try.ntmps66
  go_wp2
  go_loopw [3, 8] (fun o i wr => ∃ k : Nat, k ≤ la ∧ i = .int .i64 k ∧ OwnB wr w.heap.size o k ((xs.take k).map foldI) ∧ Below w.heap.size w wr) (fun _ i _ => la - (intOf i).toNat)
  case atStart => exact ⟨0, Nat.zero_le _, rfl, World.ownsRow_nil _ _ _ _, Below.refl _ _⟩
  case round =>
    obtain ⟨k, hk, rfl, hown, hBe⟩ := hrel
    by_cases hlt : k < la
    · obtain ⟨x, hx⟩ : ∃ x, xs[k]? = some x := ⟨xs[k]'(by rw [HL.out]; exact hlt), by simp⟩
      have hAr := hA.below hBe
      have hbx := hAr.2 x (List.mem_of_getElem? hx)
      obtain ⟨b, off, rfl, hbl, hc⟩ := hAr.1.2.resolve_left (by omega)
      have hcell := hc k x hx
      have htk := Lib.hid (take_step hx)
      clear hc hx
      go_wp2_with (first
        | (go_at_call 78; refine (fold_any _ _ (by omega) (by omega)).mono ?_; rintro e w' ⟨rfl, rfl⟩)
        | (at_builtin
           refine wpList_append_own_at _ rfl _ _ 62 rfl w.heap.size 5 i0 (.int .u8 0) 1 1 Try.underlying62 hi hz0 hz1 hz2 rfl (by decide) _ _ _ rfl (hown.alloc _) ⟨wr.heap.size, 0, none⟩ 1 1 [.int .u8 (foldI x)] rfl rfl (cell_one_new _ _ _) (by simp [Value.oneCell']) (by unfold maxLen; omega) (by omega) (by have := hBe.size; simp; omega) ?_
           intro v' w5 hown' hgrow hnil hat))
      have hB5 := below_append (base := w.heap.size) hBe hown hgrow
      go_roundw
      case rel => exact ⟨k + 1, by omega, by go_num, by unfold OwnB; rw [htk.out, List.map_append, List.map_append]; exact hown', hB5⟩
      case measure => simp [intOf]; omega
    · obtain rfl : k = la := by omega
      go_wp2
      go_ret
      refine ⟨_, rfl, ?_, hBe⟩
      have h := hown
      rw [List.take_of_length_le (by rw [HL.out]; exact Nat.le_refl _)] at h
      exact h

theorem u8_one (x : Int) : (Value.int .u8 x).oneCell' = true := rfl

set_option maxHeartbeats 1000000 in
theorem copied_any (fold : Bool) (a : Option Addr) (la ca : Nat) (xs : List Int) (w : World) (hA : Bys w a la xs) (hla : la ≤ 1000000) :
  Calls Try.prog 54 #[.bool fold, .slice a la ca] w fun e w' => ∃ v, e = .returned v ∧ OwnB w' w.heap.size v la (foldL fold xs) ∧ Below w.heap.size w w' := by
 obtain ⟨i0, hi, hz0, hz1, hz2⟩ := info_parts u8_info
 cases fold
 ·
  go_enter Try.func54, Try.ntmps54
  go_wp2_with (at_builtin; refine wpList_append_sl1 rfl _ _ 62 rfl u8_one w.heap.size 5 i0 (.int .u8 0) 1 Try.underlying62 hi hz0 hz1 hz2 rfl _ 0 [] rfl (World.ownsRow_nil _ _ _ _) a la ca xs rfl hA.1 (by unfold maxLen; omega) (by omega) (Nat.le_refl _) ?_; intro v' w5 hown' hgrow hat)
  go_ret
  refine ⟨_, rfl, ?_, (Below.refl _ _).grown hgrow (Nat.le_refl _) (fun k e => by cases e)⟩
  simpa [foldL, OwnB] using hown'
 ·
  go_enter Try.func54, Try.ntmps54
  go_wp2_with fail
  refine (folded_l_any a la ca xs w hA hla).mono ?_
  rintro e w1 ⟨v, rfl, hown, hb⟩
  go_wp2
  go_ret
  exact ⟨_, rfl, hown, hb⟩

set_option maxHeartbeats 1000000 in
theorem text_any (fold : Bool) (a : Option Addr) (la ca : Nat) (xs : List Int) (w : World) (hA : Bys w a la xs) (hla : la ≤ 1000000) :
  Calls Try.prog 34 #[.bool fold, .slice a la ca] w fun e w' => ∃ v, e = .returned v ∧ OwnB w' w.heap.size v la (foldL fold xs) ∧ Below w.heap.size w w' := by
 obtain ⟨i0, hi, hz0, hz1, hz2⟩ := info_parts u8_info
 cases fold
 ·
  have hA1 := hA.below ((Below.refl _ _).alloc (Nat.le_refl _) (.cells #[] 5))
  have hown0 : OwnB (w.alloc (.cells #[] 5)) w.heap.size (.slice (some ⟨w.heap.size, 0, none⟩) 0 0) 0 [] := World.ownsRow_lit w #[] 0 (Nat.le_refl _) (Nat.zero_le _) rfl
  go_enter Try.func34, Try.ntmps34
  go_wp2_with (at_builtin; refine wpList_append_sl1 rfl _ _ 62 rfl u8_one w.heap.size 5 i0 (.int .u8 0) 1 Try.underlying62 hi hz0 hz1 hz2 rfl _ 0 [] rfl hown0 a la ca xs rfl hA1.1 (by unfold maxLen; omega) (by omega) (by simp) ?_; intro v' w5 hown' hgrow hat)
  go_ret
  refine ⟨_, rfl, ?_, ((Below.refl _ _).alloc (Nat.le_refl _) _).grown hgrow (by simp) (fun k e => by cases e; exact Nat.le_refl _)⟩
  simpa [foldL, OwnB] using hown'
 ·
  go_enter Try.func34, Try.ntmps34
  go_wp2_with fail
  refine (rfolded_any a la ca xs w hA hla).mono ?_
  rintro e w1 ⟨v, rfl, hown, hb⟩
  go_wp2
  go_ret
  exact ⟨_, rfl, hown, hb⟩

end Go.Proofs.Ytglfdclpjmhoiaa

/- The document's functions of layer 3: texts that are the same, where they stand, which of them. -/

namespace Go.Proofs.Ytglfdclpjmhoiaa
open Go.RowKit Go.Sort

theorem strOfNums_inj {xs ys : List Int} (hx : ∀ x ∈ xs, 0 ≤ x ∧ x ≤ 255) (hy : ∀ x ∈ ys, 0 ≤ x ∧ x ≤ 255) (h1 : (strOfNums xs).data.toList = (strOfNums ys).data.toList) : xs = ys := by
 simp only [strOfNums_data] at h1
 have h2 := congrArg (List.map fun b : UInt8 => (b.toNat : Int)) h1
 simp only [List.map_map] at h2
 have f : ∀ l : List Int, (∀ x ∈ l, 0 ≤ x ∧ x ≤ 255) → l.map ((fun b : UInt8 => (b.toNat : Int)) ∘ fun n => UInt8.ofNat n.toNat) = l := by
  intro l hl
  conv => rhs; rw [← List.map_id l]
  refine List.map_congr_left fun x hxl => ?_
  have := hl x hxl
  simp
  omega
 rwa [f xs hx, f ys hy] at h2
theorem conv_bys {w : World} {a : Option Addr} {len : Nat} {xs : List Int} (h : Bys w a len xs) (cap : Nat) :
  Sem.run Try.prog (convert 62 9 (.slice a len cap)) w = .ok (.string (strOfNums xs)) w := by
 obtain ⟨⟨h1, h2⟩, hb⟩ := h
 by_cases h0 : len = 0
 ·
  subst h0
  have hx : xs = [] := List.eq_nil_of_length_eq_zero h1
  subst hx
  cases a with
  | none => exact run_convert_bytes_nil w _ _ Try.underlying62 Try.underlying5 0 cap _ Try.underlying9
  | some ad =>
   rw [run_convert_bytes_string w 62 9 _ _ 0 cap Try.underlying62 Try.underlying5 Try.underlying9]
   have hl : (loadCells ad 0).run Try.prog w = .ok (([] : List Int).map (Value.int .u8)).toArray w := by
    simpa using run_loadCells_list (P := Try.prog) w ad [] (fun j v hj => by simp at hj)
   rw [run_bytesToString w ad 0 cap [] hl]
   rfl
 ·
  obtain ⟨b, off, rfl, hlt, hc⟩ := h2.resolve_left h0
  refine run_convert_bytes_arg w _ _ Try.underlying62 Try.underlying5 b off len cap xs h1 (fun i hi => ?_) _ Try.underlying9
  rw [hc i (xs[i]'(by omega)) (List.getElem?_eq_getElem _)]
  simp [List.getD, List.getElem?_eq_getElem (show i < xs.length by omega)]

theorem str_beq {xs ys : List Int} (hx : ∀ x ∈ xs, 0 ≤ x ∧ x ≤ 255) (hy : ∀ x ∈ ys, 0 ≤ x ∧ x ≤ 255) : ((strOfNums xs).toList == (strOfNums ys).toList) = decide (xs = ys) := by
 by_cases h : xs = ys
 · subst h; simp
 ·
  have : (strOfNums xs).toList ≠ (strOfNums ys).toList := fun e => h (strOfNums_inj hx hy (by rwa [ByteArray.toList_eq, ByteArray.toList_eq] at e))
  simp [h, this]

theorem rfolded_c (a : Option Addr) (la ca : Nat) (xs : List Int) (w : World) (hA : Bys w a la xs) (hla : la ≤ 1000000) :
  Calls Try.prog 51 #[.slice a la ca] w fun e w' => ∃ a1 c1, e = .returned (.slice a1 la c1) ∧ Bys w' a1 la (xs.map foldI) ∧ Below w.heap.size w w' :=
 (rfolded_any a la ca xs w hA hla).mono fun e w' ⟨v, he, hown, hb⟩ => by
  obtain ⟨a1, c1, rfl, _, h⟩ := own_bys hown (fun x hx => by obtain ⟨y, hy, rfl⟩ := List.mem_map.1 hx; exact foldI_bd (hA.2 y hy))
  exact ⟨a1, c1, he, h, hb⟩

set_option maxRecDepth 100000 in
set_option maxHeartbeats 300000 in
theorem rsame_any (fold : Bool) (a b : Option Addr) (la ca lb cb : Nat) (xs ys : List Int) (w : World) (hA : Bys w a la xs) (hB : Bys w b lb ys) (hla : la ≤ 1000000) (hlb : lb ≤ 1000000) :
  Calls Try.prog 50 #[.bool fold, .slice a la ca, .slice b lb cb] w fun e w' => e = .returned (.bool (sameL fold xs ys)) ∧ Below w.heap.size w w' := by
 cases fold
 ·
  have c1 := conv_bys hA
  have c2 := conv_bys hB
  go_enter Try.func50, Try.ntmps50
  go_wp2
  go_ret
  exact ⟨by simp [sameL, foldL, str_beq hA.2 hB.2], Below.refl _ _⟩
 ·
  have hAd : Bys w.drew a la xs := hA
  have hBd : Bys w.drew b lb ys := hB
  go_enter Try.func50, Try.ntmps50
  go_wp2
  go_region_with (first
   | (go_at_call 51; refine (rfolded_c a la ca xs w.drew hAd hla).mono ?_; rintro e w1 ⟨a1, c1, rfl, h12, hb1⟩; have cv0 := conv_bys h12; have hB1 := hBd.below hb1; clear hAd)
   | (go_at_call 51; refine (rfolded_c b lb cb ys w1 hB1 hlb).mono ?_; rintro e w2 ⟨a2, c2, rfl, h22, hb2⟩; have cv1 := conv_bys (h12.below hb2); have cv2 := conv_bys h22))
  all_goals
   go_wp2
   go_ret
   have hx : ∀ x ∈ xs.map foldI, 0 ≤ x ∧ x ≤ 255 := fun x hx => by obtain ⟨y, hy, rfl⟩ := List.mem_map.1 hx; exact foldI_bd (hA.2 y hy)
   have hy : ∀ x ∈ ys.map foldI, 0 ≤ x ∧ x ≤ 255 := fun x hx => by obtain ⟨y, hy, rfl⟩ := List.mem_map.1 hx; exact foldI_bd (hB.2 y hy)
   have hbd : Below w.heap.size w w.drew := ⟨rfl, rfl, rfl, Nat.le_refl _, fun _ _ => rfl⟩
   have hbe : Below w.heap.size w w2 := hbd.trans (hb1.trans (hb2.mono hb1.size))
   refine ⟨?_, hbe⟩
   show Ending.returned (.bool ((strOfNums (xs.map foldI)).toList == (strOfNums (ys.map foldI)).toList)) = _
   rw [str_beq hx hy]
   rfl

set_option maxHeartbeats 1000000 in
theorem rwhich_any (fold : Bool) (a b : Option Addr) (la ca lb cb : Nat) (xs : List Int) (wss : List (List Int)) (w : World) (hA : Bys w a la xs) (hla : la ≤ 1000000) (hB : Wds w b lb wss) (hlb : lb ≤ 1000000) (hM : ∀ x ∈ wss, x.length ≤ 1000000) :
  Calls Try.prog 33 #[.bool fold, .slice a la ca, .slice b lb cb] w fun e w' => e = .returned (.int .i64 (whichL fold xs wss)) ∧ Below w.heap.size w w' := by
 have HL := Lib.hid hB.len
 go_enter Try.func33, Try.ntmps33
 go_wp2
 go_loopw [7] (fun i wr => ∃ k : Nat, k ≤ lb ∧ i = .int .i64 k ∧ Hid (whichL fold xs (wss.take k) = -1) ∧ Below w.heap.size w wr) (fun i _ => lb - (intOf i).toNat)
 case atStart => exact ⟨0, Nat.zero_le _, rfl, by simp [Hid, whichL_nil], Below.refl _ _⟩
 case round =>
  obtain ⟨k, hk, rfl, HK, hBe⟩ := hrel
  have hAr := hA.below hBe
  have hBr := hB.below hBe
  by_cases hlt : k < lb
  ·
   obtain ⟨bb, off, a', l, c, x, rfl, hbl, hcell, hx, hX, hlc⟩ := hBr.at_ hlt
   have hxl : l ≤ 1000000 := by have := mem_bd hM hx; rw [hX.len] at this; exact this
   go_wp2_with fail
   refine (rsame_any fold a a' la ca l c xs x wr hAr hX hla hxl).mono ?_
   rintro e w1 ⟨rfl, hb⟩
   have hB1 : Below w.heap.size w w1 := hBe.trans (hb.mono hBe.size)
   cases e : sameL fold xs x with
   | true =>
    have HH : Hid (whichL fold xs wss = k) := by
     have h := whichL_hit (rest := wss.drop (k + 1)) HK e
     rw [← split_at hx] at h
     rw [Hid, h, List.length_take, HL.out]
     omega
    go_wp2
    go_ret
    exact ⟨by rw [HH.out]; rfl, hB1⟩
   | false =>
    have HH : Hid (whichL fold xs (wss.take (k + 1)) = -1) := by
     rw [take_step hx]
     exact whichL_snoc_no HK e
    go_wp2
    go_roundw
    case rel => exact ⟨k + 1, by omega, by go_num, HH, hB1⟩
    case measure => simp [intOf]; omega
  ·
   obtain rfl : k = lb := by omega
   have HH : Hid (whichL fold xs wss = -1) := by
    have h := HK
    rwa [List.take_of_length_le (by rw [HL.out]; exact Nat.le_refl _)] at h
   go_wp2
   go_ret
   exact ⟨by rw [HH.out]; rfl, hBe⟩

end Go.Proofs.Ytglfdclpjmhoiaa

/- Plain words of layer 5: the beginnings of words, one byte behind the other; how many there are. -/

namespace Go.Proofs.Ytglfdclpjmhoiaa

/-- A word's bytes, the first one marked. -/
def begW : List Int → List (Bool × Int)
 | [] => []
 | c :: cs => (true, c) :: cs.map (fun c => (false, c))
def begL (fold : Bool) (wss : List (List Int)) : List (Bool × Int) := wss.flatMap fun w => begW (foldL fold w)

theorem begW_length (ys : List Int) : (begW ys).length = ys.length := by cases ys <;> simp [begW]
theorem begW_at {ys : List Int} {i : Nat} {c : Int} (h : ys[i]? = some c) : (begW ys)[i]? = some (((i : Int) == 0), c) := by
 cases ys with
 | nil => simp at h
 | cons y ys =>
  cases i with
  | zero => simp at h; simp [begW, h]
  | succ i =>
   simp at h
   simp [begW, h]
   omega
theorem begL_snoc (fold : Bool) (wss : List (List Int)) (x : List Int) : begL fold (wss ++ [x]) = begL fold wss ++ begW (foldL fold x) := by simp [begL]
theorem begL_take_le (fold : Bool) (wss : List (List Int)) {k : Nat} {x : List Int} (h : wss[k]? = some x) : (begL fold (wss.take k)).length + x.length ≤ (begL fold wss).length := by
 have e := split_at h
 have e2 : begL fold wss = begL fold (wss.take k) ++ (begW (foldL fold x) ++ begL fold (wss.drop (k + 1))) := by
  conv => lhs; rw [e]
  simp [begL]
 rw [e2]
 simp [begW_length, foldL_length]
theorem foldL_at {fold : Bool} {xs : List Int} {i : Nat} {c : Int} (h : xs[i]? = some c) : (foldL fold xs)[i]? = some (if fold then foldI c else c) := by
 rw [foldL_map, List.getElem?_map, h]; rfl

/-- The code's way to count: which node stands at which edge, how many there are, at which one is. -/
structure NSt where
 f : Int × Int → Option Int
 many : Int
 node : Int
def nstep (s : NSt) (p : Bool × Int) : NSt :=
 let node := if p.1 then 0 else s.node
 match s.f (node, p.2) with
 | some m => { s with node := m }
 | none => { f := fun q => if q = (node, p.2) then some s.many else s.f q, many := s.many + 1, node := s.many }
def nrun (l : List (Bool × Int)) : NSt := l.foldl nstep ⟨fun _ => none, 1, 0⟩
theorem nrun_snoc (l : List (Bool × Int)) (p : Bool × Int) : nrun (l ++ [p]) = nstep (nrun l) p := by simp [nrun, List.foldl_append]
theorem nstep_found {s : NSt} {p : Bool × Int} {m : Int} (h : s.f (if p.1 then 0 else s.node, p.2) = some m) : nstep s p = { s with node := m } := by
 unfold nstep
 simp only [h]
theorem nstep_new {s : NSt} {p : Bool × Int} (h : s.f (if p.1 then 0 else s.node, p.2) = none) : nstep s p = { f := fun q => if q = (if p.1 then 0 else s.node, p.2) then some s.many else s.f q, many := s.many + 1, node := s.many } := by
 unfold nstep
 simp only [h]
theorem nrun_bd (l : List (Bool × Int)) : 1 ≤ (nrun l).many ∧ (nrun l).many ≤ l.length + 1 ∧ 0 ≤ (nrun l).node ∧ (nrun l).node ≤ l.length ∧ ∀ q m, (nrun l).f q = some m → 0 ≤ m ∧ m ≤ l.length := by
 obtain ⟨n, hn⟩ : ∃ n, l.length = n := ⟨_, rfl⟩
 induction n generalizing l with
 | zero =>
  obtain rfl := List.eq_nil_of_length_eq_zero hn
  simp [nrun]
 | succ n ih =>
  obtain ⟨l', x, rfl⟩ : ∃ l' x, l = l' ++ [x] := ⟨l.dropLast, l.getLast (by intro h; simp [h] at hn), (List.dropLast_concat_getLast _).symm⟩
  obtain ⟨h1, h2, h3, h4, h5⟩ := ih l' (by simpa using hn)
  rw [nrun_snoc]
  unfold nstep
  simp only [List.length_append, List.length_cons, List.length_nil]
  cases e : (nrun l').f (if x.1 = true then 0 else (nrun l').node, x.2) with
  | some m =>
   have := h5 _ _ e
   refine ⟨h1, by dsimp only; omega, this.1, by dsimp only; omega, fun q k hq => ?_⟩
   have := h5 q k hq
   omega
  | none =>
   refine ⟨by dsimp only; omega, by dsimp only; omega, by dsimp only; omega, by dsimp only; omega, fun q k hq => ?_⟩
   dsimp only at hq
   by_cases hqq : q = (if x.1 = true then 0 else (nrun l').node, x.2)
   ·
    rw [if_pos hqq] at hq
    have := Option.some.inj hq
    omega
   ·
    rw [if_neg hqq] at hq
    have := h5 q k hq
    omega

/-- What there is of words: how many, how many bytes, the longest, the shortest. -/
def cstep (c : Int × Int × Int × Int) (x : List Int) : Int × Int × Int × Int :=
 (c.1 + 1, c.2.1 + x.length, max c.2.2.1 x.length, if c.1 = 0 ∨ (x.length : Int) < c.2.2.2 then (x.length : Int) else c.2.2.2)
def cnt (wss : List (List Int)) : Int × Int × Int × Int := wss.foldl cstep (0, 0, 0, 0)
theorem cnt_snoc (l : List (List Int)) (x : List Int) : cnt (l ++ [x]) = cstep (cnt l) x := by simp [cnt, List.foldl_append]
theorem cnt_bd {M : Nat} (l : List (List Int)) (h : ∀ x ∈ l, x.length ≤ M) : (cnt l).1 = l.length ∧ 0 ≤ (cnt l).2.1 ∧ (cnt l).2.1 ≤ l.length * (M : Int) := by
 obtain ⟨n, hn⟩ : ∃ n, l.length = n := ⟨_, rfl⟩
 induction n generalizing l with
 | zero =>
  obtain rfl := List.eq_nil_of_length_eq_zero hn
  simp [cnt]
 | succ n ih =>
  obtain ⟨l', x, rfl⟩ : ∃ l' x, l = l' ++ [x] := ⟨l.dropLast, l.getLast (by intro h; simp [h] at hn), (List.dropLast_concat_getLast _).symm⟩
  obtain ⟨h1, h2, h3⟩ := ih l' (fun y hy => h y (by simp [hy])) (by simpa using hn)
  have hx := h x (by simp)
  rw [cnt_snoc]
  have e : ((l' ++ [x]).length : Int) * (M : Int) = l'.length * (M : Int) + M := by
   rw [List.length_append, List.length_cons, List.length_nil, Int.natCast_add, Int.add_mul]; simp
  rw [e]
  simp only [cstep]
  refine ⟨by rw [h1]; simp, by omega, by omega⟩

/-- The six questions' answers, and the first that is yes. -/
def askB (W Bs Lg Sh N : Int) : Nat → Bool
 | 0 => decide (W = 0)
 | 1 => decide (W > 64)
 | 2 => decide (Sh = 0)
 | 3 => decide (Lg > 32)
 | 4 => decide (Bs > 600)
 | _ => decide (N > 400)
def firstAsk (f : Nat → Bool) : Int := match (List.range 6).find? f with | some k => 50 + k | none => 0
theorem firstAsk_hit {f : Nat → Bool} {k : Nat} (hk : k < 6) (h : ∀ j, j < k → f j = false) (hf : f k = true) : firstAsk f = 50 + k := by
 have : (List.range 6).find? f = some k := by
  have : k = 0 ∨ k = 1 ∨ k = 2 ∨ k = 3 ∨ k = 4 ∨ k = 5 := by omega
  rcases this with rfl | rfl | rfl | rfl | rfl | rfl <;> simp [List.range, List.range.loop, List.find?, hf, h]
 simp [firstAsk, this]
theorem firstAsk_none {f : Nat → Bool} (h : ∀ j, j < 6 → f j = false) : firstAsk f = 0 := by
 simp [firstAsk, List.range, List.range.loop, List.find?, h]
def checkP (fold : Bool) (wss : List (List Int)) : Int := firstAsk (askB (cnt wss).1 (cnt wss).2.1 (cnt wss).2.2.1 (cnt wss).2.2.2 (nrun (begL fold wss)).many)

end Go.Proofs.Ytglfdclpjmhoiaa

/- The beginnings of words, one byte behind the other (layer 5): the iterator. -/

namespace Go.Proofs.Ytglfdclpjmhoiaa
open Go.RowKit Go.Sort
attribute [local go_sem] Oper.semAt_some
attribute [local simp] wide_fn wide_depth
attribute [local go_sem] wide_fn wide_depth

theorem beginnings_any (fold : Bool) (a : Option Addr) (la ca : Nat) (w : World) :
  Calls Try.prog 89 #[.bool fold, .slice a la ca] w fun e w' => e = .returned (.func (.func 97) #[] #[.pointer (some ⟨w.heap.size + 1, 0, none⟩), .pointer (some ⟨w.heap.size, 0, none⟩)]) ∧
   w' = (w.alloc (.cells #[.bool fold] 4)).alloc (.cells #[.slice a la ca] 22) := by
 go_enter Try.func89, Try.ntmps89
 go_wp2
 go_ret
 exact ⟨rfl, rfl⟩

abbrev BgP := { p : Bool × Int // 0 ≤ p.2 ∧ p.2 ≤ 255 }
def bgEnc (p : BgP) : Array Value := #[.bool p.1.1, .int .u8 p.1.2]

set_option maxRecDepth 100000 in
set_option maxHeartbeats 4000000 in
theorem beg_stops (fold : Bool) (a : Option Addr) (la ca p1 p2 : Nat) (wss : List (List Int)) (n : Nat) (w0 w : World) (S : Nat → Prop) (hA : Wds w0 a la wss) (hB0 : Below w0.heap.size w0 w) (hS : ∀ k, k < w0.heap.size → S k) (hS1 : S p1) (hS2 : S p2) (hSw : ∀ k, S k → k < w.heap.size)
  (hla : la ≤ 1000000) (hM : ∀ x ∈ wss, x.length ≤ 1000000)
  (h1 : w.heap[p1]? = some (.cells #[.slice a la ca] 22 (0, 0))) (h2 : w.heap[p2]? = some (.cells #[.bool fold] 4 (0, 0))) :
  SeqStopsK Fence.wide n Try.prog 97 #[.pointer (some ⟨p1, 0, none⟩), .pointer (some ⟨p2, 0, none⟩)] bgEnc (keepOn S) (fun zs => zs.map Subtype.val = begL fold wss) (fun _ => True) ((begL fold wss).length + 1) w := by
 intro l J Jx W hW hJ hJx hY h0
 have hkW : keepOn S w W := keepOn_of_below hW hSw
 have cells : ∀ v : World, keepOn S w v → v.cell? ⟨p1, 0, none⟩ = some (.slice a la ca) ∧ v.cell? ⟨p2, 0, none⟩ = some (.bool fold) := by
  intro v hv
  have e1 : v.heap[p1]? = _ := (hv p1 hS1).trans h1
  have e2 : v.heap[p2]? = _ := (hv p2 hS2).trans h2
  simp [World.cell?, e1, e2]
 have hk0 : ∀ v : World, keepOn S w v → kept w0 v := fun v hv k hk => (hv k (hS k hk)).trans (hB0.block k hk)
 have HL := Lib.hid hA.len
 have HSZ := Lib.hid hA
 clear hA
 obtain ⟨c1, c2⟩ := cells W hkW
 refine callsIn_of_wp Try.func97 rfl trivial ?_ rfl
 simp only [Try.ntmps97, List.size_toArray, List.length_cons, List.length_nil, Nat.reduceAdd, Nat.reduceSub, Array.replicate_succ, Array.replicate_zero, List.push_toArray, List.append_toArray, List.nil_append, List.cons_append]
 gi_wp2
 clear c1 c2
 gi_loopw [10] (fun i wr => ∃ (k : Nat) (pre : List BgP), k ≤ la ∧ i = .int .i64 k ∧ Hid (pre.map Subtype.val = begL fold (wss.take k)) ∧ J pre wr ∧ keepOn S w wr) (fun i _ => la - (intOf i).toNat)
 case atStart => exact ⟨0, [], Nat.zero_le _, rfl, by simp [Hid, begL], h0, hkW⟩
 case round =>
  obtain ⟨k, pre, hk, rfl, HP, hj, hkr⟩ := hrel
  obtain ⟨c1, c2⟩ := cells wr hkr
  by_cases hlt : k < la
  ·
   obtain ⟨bb, off, a', l', c, x, rfl, hbl, hcell0, hx, hX, hlc⟩ := HSZ.out.at_ hlt
   have hcell : wr.cell? ⟨bb, off + k, none⟩ = some (.slice a' l' c) := (kept_cell (hk0 wr hkr) (p := ⟨bb, off + k, none⟩) hbl).trans hcell0
   have hxl : l' ≤ 1000000 := by have := mem_bd hM hx; rw [hX.len] at this; exact this
   have HX := Lib.hid hx
   have HXX := Lib.hid hX
   clear hcell0 hx hX
   gi_wp2
   gi_loopw [16] (fun i wi => ∃ (j : Nat) (pre : List BgP), j ≤ l' ∧ i = .int .i64 j ∧ Hid (pre.map Subtype.val = begL fold (wss.take k) ++ (begW (foldL fold x)).take j) ∧ J pre wi ∧ keepOn S w wi) (fun i _ => l' - (intOf i).toNat)
   case atStart => exact ⟨0, pre, Nat.zero_le _, rfl, by simpa [Hid] using HP, hj, hkr⟩
   case round =>
    clear HP hj hkr c1 c2 hcell
    obtain ⟨j, pre, hjl, rfl, HP, hj, hki⟩ := hrel
    obtain ⟨c1, c2⟩ := cells wr hki
    by_cases hjlt : j < l'
    ·
     obtain ⟨y, hy⟩ : ∃ y, x[j]? = some y := ⟨x[j]'(by rw [HXX.out.len]; exact hjlt), by simp⟩
     obtain ⟨by_, oy, rfl, hby, hyc⟩ := HXX.out.1.2.resolve_left (by omega)
     have hyb := HXX.out.2 y (List.mem_of_getElem? hy)
     have hfb := foldI_bd hyb
     have hcy : wr.cell? ⟨by_, oy + j, none⟩ = some (.int .u8 y) := (kept_cell (hk0 wr hki) (p := ⟨by_, oy + j, none⟩) hby).trans (hyc j y hy)
     have hplen : pre.length < (begL fold wss).length + 1 := by
      have h1 := congrArg List.length HP.out
      have h2 := begL_take_le fold wss HX.out
      simp [begW_length, foldL_length] at h1
      have := HXX.out.len
      omega
     have HB := Lib.hid (begW_at (foldL_at (fold := fold) hy))
     clear hy hyc
     cases fold
     ·
      obtain ⟨fn, tmps, assign, body, hyl, hRo⟩ := hY pre ⟨(((j : Int) == 0), y), hyb⟩ wr hj hplen
      have HS : Hid ((pre ++ [(⟨(((j : Int) == 0), y), hyb⟩ : BgP)]).map Subtype.val = begL false (wss.take k) ++ (begW (foldL false x)).take (j + 1)) := by
       rw [take_step HB.out, ← List.append_assoc, ← HP.out]
       simp [Hid]
      dsimp only [bgEnc] at hyl
      gi_wp2
      refine hRo.mono ?_
      rintro e W4 (⟨rfl, hJ4, hk4⟩ | ⟨rfl, hJx4⟩)
      ·
       gi_wp2
       go_roundw
       case rel => exact ⟨j + 1, _, by omega, by go_num, HS, hJ4, keepOn_t hki hk4⟩
       case measure => simp [intOf]; omega
      ·
       gi_wp2
       refine bodyPost_ret (results_none rfl _ _ _) rfl ?_
       exact ⟨⟨_, rfl⟩, .inr ⟨_, trivial, hJx4⟩⟩
     ·
      obtain ⟨fn, tmps, assign, body, hyl, hRo⟩ := hY pre ⟨(((j : Int) == 0), foldI y), hfb⟩ wr hj hplen
      have HS : Hid ((pre ++ [(⟨(((j : Int) == 0), foldI y), hfb⟩ : BgP)]).map Subtype.val = begL true (wss.take k) ++ (begW (foldL true x)).take (j + 1)) := by
       rw [take_step HB.out, ← List.append_assoc, ← HP.out]
       simp [Hid]
      dsimp only [bgEnc] at hyl
      gi_wp2_with fail
      refine (callsIn_wide.2 (fold_any y wr hyb.1 hyb.2)).mono ?_
      rintro e W3 ⟨rfl, rfl⟩
      gi_wp2
      refine hRo.mono ?_
      rintro e W4 (⟨rfl, hJ4, hk4⟩ | ⟨rfl, hJx4⟩)
      ·
       gi_wp2
       go_roundw
       case rel => exact ⟨j + 1, _, by omega, by go_num, HS, hJ4, keepOn_t hki hk4⟩
       case measure => simp [intOf]; omega
      ·
       gi_wp2
       refine bodyPost_ret (results_none rfl _ _ _) rfl ?_
       exact ⟨⟨_, rfl⟩, .inr ⟨_, trivial, hJx4⟩⟩
    ·
     obtain rfl : j = l' := by omega
     gi_wp2
     go_roundw
     case rel =>
      refine ⟨k + 1, pre, by omega, by go_num, ?_, hj, hki⟩
      have hfull : (begW (foldL fold x)).take j = begW (foldL fold x) := List.take_of_length_le (by rw [begW_length, foldL_length, HXX.out.len]; exact Nat.le_refl _)
      rw [Hid, HP.out, take_step HX.out, begL_snoc, hfull]
     case measure => simp [intOf]; omega
  ·
   obtain rfl : k = la := by omega
   gi_wp2
   go_end0
   refine ⟨⟨_, rfl⟩, .inl ⟨pre, ?_, hj⟩⟩
   show pre.map Subtype.val = begL fold wss
   rw [HP.out, List.take_of_length_le (by have := HL.out; omega)]

end Go.Proofs.Ytglfdclpjmhoiaa
