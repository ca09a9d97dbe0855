/- Parts of the proof, one behind the other: Tk, X2, Xp, X3, El, X4, X5, X6. No condition but what each theorem states. -/
import Derived.Deep.RegionHeld3
import Derived.Test.YtglfdclpjmhoiaaZG1
import Derived.Test.YtglfdclpjmhoiaaZG3
import Derived.Test.YtglfdclpjmhoiaaZG5
set_option linter.unusedVariables false
set_option linter.unusedSimpArgs false

/- Steps of a drawn region with held cells, with what is reckoned left to Lean. -/

namespace Go.Proofs.Ytglfdclpjmhoiaa
open Go.RowKit Go.Sort

section
variable {P : Program} {md : Region.Mode} {ops : Array Oper} {Q : Exit → Act → World → Prop} {S : World → Prop}
/-- An operation that is wanted is taken first. -/
theorem tkW (i : Nat) {oi : Oper} {v : Value} {fuel : Nat} {listed : Array Bool} {a : Act} {w : World}
  (hv : ∀ w, S w → (execOp a.eval oi).run P w = .ok (.value v) w)
  (h : wpAnyH P md ops Q S fuel (listed.setIfInBounds i true) (a.put oi.dst v) w)
  (hi : ops[i]? = some oi := by (simp only [List.getElem?_toArray, List.getElem?_cons_zero, List.getElem?_cons_succ]; rfl))
  (hs : Region.noSelect ops = true := by as_aux_lemma => kernel_rfl) (hf : Region.free md ops listed i = true := by as_aux_lemma => kernel_rfl) (hr : (Region.ready md ops listed).contains i = true := by as_aux_lemma => kernel_rfl)
  (hQ : ∀ c a w, Q (.panic c) (a.put oi.dst v) w → Q (.panic c) a w := by exact fun _ _ _ h => h) (hw : Region.wanted oi (yielded ops a.tmps) = true := by rfl) (hS : S w := by assumption) : wpAnyH P md ops Q S (fuel + 1) listed a w :=
 wpAnyH_take hi hs hf hr hQ (.inl ⟨hw, hv⟩) hS h
/-- One that its guard does not want. -/
theorem tkN (i : Nat) {oi : Oper} {fuel : Nat} {listed : Array Bool} {a : Act} {w : World}
  (h : wpAnyH P md ops Q S fuel (listed.setIfInBounds i true) (a.put oi.dst undef) w)
  (hi : ops[i]? = some oi := by (simp only [List.getElem?_toArray, List.getElem?_cons_zero, List.getElem?_cons_succ]; rfl))
  (hs : Region.noSelect ops = true := by as_aux_lemma => kernel_rfl) (hf : Region.free md ops listed i = true := by as_aux_lemma => kernel_rfl) (hr : (Region.ready md ops listed).contains i = true := by as_aux_lemma => kernel_rfl)
  (hQ : ∀ c a w, Q (.panic c) (a.put oi.dst undef) w → Q (.panic c) a w := by exact fun _ _ _ h => h) (hw : Region.wanted oi (yielded ops a.tmps) = false := by rfl) (hS : S w := by assumption) : wpAnyH P md ops Q S (fuel + 1) listed a w :=
 wpAnyH_take hi hs hf hr hQ (.inr ⟨hw, rfl⟩) hS h
/-- .. the one whose number is c less the steps that are left. -/
theorem tkF (c : Nat) {oi : Oper} {v : Value} {fuel : Nat} {listed : Array Bool} {a : Act} {w : World}
  (hv : ∀ w, S w → (execOp a.eval oi).run P w = .ok (.value v) w)
  (h : wpAnyH P md ops Q S fuel (listed.setIfInBounds (c - fuel) true) (a.put oi.dst v) w)
  (hi : ops[c - fuel]? = some oi := by (simp only [Nat.reduceSub, List.getElem?_toArray, List.getElem?_cons_zero, List.getElem?_cons_succ]; rfl))
  (hs : Region.noSelect ops = true := by as_aux_lemma => kernel_rfl) (hf : Region.free md ops listed (c - fuel) = true := by as_aux_lemma => kernel_rfl) (hr : (Region.ready md ops listed).contains (c - fuel) = true := by as_aux_lemma => kernel_rfl)
  (hQ : ∀ c a w, Q (.panic c) (a.put oi.dst v) w → Q (.panic c) a w := by exact fun _ _ _ h => h) (hw : Region.wanted oi (yielded ops a.tmps) = true := by rfl) (hS : S w := by assumption) : wpAnyH P md ops Q S (fuel + 1) listed a w :=
 wpAnyH_take hi hs hf hr hQ (.inl ⟨hw, hv⟩) hS h
/-- One operation that is ready alone. -/
theorem rdy (i : Nat) {oi : Oper} {fuel : Nat} {listed : Array Bool} {a : Act} {w : World}
  (h : ∀ K' : Act → World → Prop, Shut (∀ a w, S w → (S w → wpAnyH P md ops Q S fuel (listed.setIfInBounds i true) a w) → K' a w) → if Region.wanted oi (yielded ops a.tmps) = true then Oper.wp P oi a w K' Q else K' (a.put oi.dst undef) w)
  (hi : ops[i]? = some oi := by (simp only [List.getElem?_toArray, List.getElem?_cons_zero, List.getElem?_cons_succ]; rfl)) (hr : Region.ready md ops listed = [i] := by as_aux_lemma => kernel_rfl) : wpAnyH P md ops Q S (fuel + 1) listed a w :=
 wpAnyH_ready (rs := [i]) hr (by simp) (AllReadyH.cons hi h AllReadyH.nil)
end
section
variable {α : Type}
theorem pA (l : List α) (i : Nat) (a : α) : l.toArray.setIfInBounds i a = (l.set i a).toArray := by simp
theorem pB (a b : α) (l : List α) : (a :: l).set 0 b = b :: l := rfl
theorem pC (a b : α) (l : List α) (n : Nat) : (a :: l).set (n + 1) b = a :: l.set n b := rfl
theorem pD (l : List α) (i : Nat) : l.toArray[i]? = l[i]? := by simp
theorem pE (a : α) (l : List α) : (a :: l)[0]? = some a := rfl
theorem pF (a : α) (l : List α) (n : Nat) : (a :: l)[n + 1]? = l[n]? := rfl
end
end Go.Proofs.Ytglfdclpjmhoiaa

/- Greedy (layer 15): hits gathered out of any iterator; walked. -/

namespace Go.Proofs.Ytglfdclpjmhoiaa
open Go.RowKit Go.Sort
attribute [local go_sem] Oper.semAt_some
attribute [local simp] wide_fn wide_depth
attribute [local go_sem] wide_fn wide_depth

def HoldsG (b base : Nat) (l : List HitP) (W : World) : Prop := ∃ v, Boxed W b 25 v ∧ OwnH W base v l
theorem holdsG_owns {α : Type} {B b base : Nat} {Pb : Nat → World → World → Prop} (hb : base ≤ b) (hP : ∀ r W W', Pb r W W' → r < base) (f : α → List HitP) : OwnsX B Pb (fun s W => HoldsG b base (f s) W) := by
 rintro s W W' row ⟨v, hv, ho⟩ hg hr
 have far : ∀ {k : Nat} {cs : Array Value} {t : TypeId}, W.heap[k]? = some (.cells cs t (0, 0)) → base ≤ k → row ≠ some k := fun {k cs t} hk hkp e => by
  rcases hr k e with ⟨_, o, h1, h2⟩ | h
  · rw [hk] at h1; cases h1; cases h2
  · have := hP k _ _ h; omega
 refine ⟨v, (hg.block b hv.lt (fun e => far hv hb e.symm)).trans hv, ho.kept hg ?_⟩
 rcases ho.2 with ⟨rfl, _⟩ | ⟨g, cap, cur, rfl, hg0, hgb, _⟩
 · exact .inl rfl
 ·
  refine .inr fun e => ?_
  have e' : row = some g := by rw [← e]; rfl
  rcases hr g e' with ⟨_, o, h1, h2⟩ | h
  · rw [hgb] at h1; cases h1; cases h2
  · have := hP g _ _ h; omega
theorem slkG_hit (V : World) (x : HitP) : SlK 2 (V.alloc (.cells #[.int .i64 x.1, .int .i64 x.2] 30)) (some ⟨V.heap.size, 0, none⟩) 1 [.int .i64 x.1, .int .i64 x.2] := by
 refine ⟨rfl, .inr ⟨V.heap.size, 0, rfl, by simp, fun i u hu => ?_⟩⟩
 have := cells_new (w := V) #[.int .i64 x.1, .int .i64 x.2] 30 rfl i u (by simpa using hu)
 rwa [add_plain] at this
/-- A hit, yielded. -/
def hitA (h : HitP) : Array Value := #[.agg #[.int .i64 h.1, .int .i64 h.2]]
/-- What an iterator keeps, that a row which grows beyond a block may not turn. -/
def KpB (B : Nat) (W V : World) : Prop := W.heap.size ≤ V.heap.size ∧ ∀ k, k < B → k < W.heap.size → V.heap[k]? = W.heap[k]?
theorem KpB.t {B : Nat} {A C D : World} (h : KpB B A C) (k : KpB B C D) : KpB B A D := ⟨Nat.le_trans h.1 k.1, fun i h1 h2 => (k.2 i h1 (Nat.lt_of_lt_of_le h2 h.1)).trans (h.2 i h1 h2)⟩
theorem KpB.of_below {B : Nat} {W V : World} (h : Below B W V) : KpB B W V := ⟨h.size, fun k h1 _ => h.block k h1⟩

set_option maxRecDepth 100000 in
set_option maxHeartbeats 8000000 in
theorem appendSeqH_any {gf : Nat} {lb : Array Value} {B : Nat} {Pb : Nat → World → World → Prop} {S : List HitP → World → Prop} {Sp : List HitP → Prop} {N n₀ : Nat} (w : World)
  (eg : ∀ args w, (callFunc gf args).run Try.prog w = .ok (.enter gf args) w)
  (hps : SeqStopsX Fence.wide 8 Try.prog gf lb hitA (KpB B) Pb S Sp N w) (hB : B ≤ w.heap.size) (hPb : ∀ r W W', Pb r W W' → r < w.heap.size) (hSk : ∀ (xs : List HitP) (W : World) (l : Nat) (o o' : Obj), w.heap.size ≤ l → W.heap[l]? = some o → o.isCells = false → S xs W → S xs (W.putObj l o'))
  (hn0 : n₀ ≤ w.heap.size) (hPn : ∀ r W W', Pb r W W' → n₀ ≤ r) (hN : N ≤ 1000000000) (hSl : ∀ xs W, S xs W → xs.length ≤ 1000000000) :
  Calls Try.prog 38 #[.slice none 0 0, .func (.func gf) #[] lb] w fun e w' => ∃ v xs W, e = .returned v ∧ S xs W ∧ (∃ D, w.heap.size ≤ D ∧ w' = W.putObj D (.deferred none)) ∧ OwnH w' w.heap.size v xs ∧ Below n₀ w w' := by
 obtain ⟨i0, hi, hz0, hz1, hz2⟩ := info_parts hit_info
 obtain ⟨W1, hW⟩ : ∃ W, W = w.alloc (.cells #[.slice none 0 0] 25) := ⟨_, rfl⟩
 have hBw : Below w.heap.size w W1 := by rw [hW]; exact below_alloc _ _
 have bS : Boxed W1 w.heap.size 25 (.slice none 0 0) := by rw [hW]; exact Boxed.new _ _ _
 have hs1 : W1.heap.size = w.heap.size + 1 := by rw [hW]; simp
 have hps1 : SeqStopsX Fence.wide 8 Try.prog gf lb hitA (KpB B) Pb S Sp N W1 := fun l J Jx W hb => hps l J Jx W (hBw.trans (hb.mono hBw.size))
 refine calls_of_wp_M Try.func38 rfl ?_
 simp only [Try.ntmps38, List.size_toArray, List.length_cons, List.length_nil, Nat.reduceAdd, Nat.reduceSub, Array.replicate_succ, Array.replicate_zero, List.push_toArray, List.append_toArray, List.nil_append, List.cons_append]
 go_upto_region 1 with fail
 rw [← hW]
 clear hW hps
 go_wp2
 obtain ⟨g, hg⟩ : ∃ g, w.heap.size = g := ⟨_, rfl⟩
 rw [hg] at bS hs1 hBw hB hPb hSk hn0 ⊢
 have HG := Lib.hid hg
 apply rangeX rfl eg hps1 (fun r W W' hr => by have := hPb r W W' hr; omega) (fun xs W l o o' hl => hSk xs W l o o' (by omega)) KpB.t ?hKb (fun _ => rfl)
  (fun pre V => HoldsG g g pre V ∧ Below n₀ w V ∧ W1.heap.size ≤ V.heap.size)
  (fun _ _ _ => False)
 case hKb => exact fun W l o o' hl _ _ _ => ⟨by simp [World.putObj], fun k h1 _ => World.putObj_heap_other (by omega)⟩
 case wA => exact fun x W => W.alloc (.cells #[.int .i64 x.1, .int .i64 x.2] 30)
 case hwA => exact fun x W => below_alloc _ _
 case hKg => exact fun x W hW => KpB.of_below ((below_alloc _ _).mono (by omega))
 case hI => exact OwnsX.and (holdsG_owns (Nat.le_refl _) hPb id) (OwnsX.and (OwnsX.below (by omega) (by omega) hPn) (OwnsX.size _ _ _))
 case hIx => exact fun _ _ _ _ _ hs _ _ => hs
 case h0 => exact ⟨⟨_, bS, World.ownsRow_nil _ _ _ _⟩, hBw.mono hn0, Nat.le_refl _⟩
 case hassign =>
  intro l x W K hK
  unfold hitA
  gi_wp2
  exact hK
 case hbody =>
  rintro l pre x Wb V hCE ⟨⟨v, hv, hown⟩, hBe, hsz⟩ hlen
  try dsimp only
  have hbx := hCE.2 Wb.heap.size _ _ _ (World.alloc_heap_new Wb (.cells #[.int .i64 x.1, .int .i64 x.2] 30))
  have k0 : V.cell? ⟨Wb.heap.size, 0, none⟩ = some (.int .i64 x.1) := by simp [World.cell?, hbx]
  have k1 : V.cell? ⟨Wb.heap.size, 1, none⟩ = some (.int .i64 x.2) := by simp [World.cell?, hbx]
  have k2 : Wb.heap.size < V.heap.size := (Array.getElem?_eq_some_iff.1 hbx).1
  obtain ⟨m, hm⟩ : ∃ m, pre.length = m := ⟨_, rfl⟩
  have hml : m ≤ 1000000001 := by omega
  unfold OwnH at hown
  rw [hm] at hown
  have HMM := Lib.hid hm
  clear hm
  obtain ⟨av, cv, rfl, hcv, hsl⟩ := SlK.own hown
  have c2 := hv.cell
  have hbl := hv.lt
  clear hbx
  gi_wp2_with (gi_at_builtin; refine wpListIn_append_slK _ rfl _ _ 25 rfl g 30 i0 (.agg #[.int .i64 0, .int .i64 0]) 2 16 Try.underlying25 hi hz0 hz1 hz2 rfl (by decide) _ _ _ rfl (hown.alloc _) (some ⟨V.heap.size, 0, none⟩) 1 1 [.int .i64 x.1, .int .i64 x.2] rfl (slkG_hit V x) (by simp [Value.oneCell']) (by unfold maxLen; omega) (by omega) (by simp; omega) ?_; intro v' w5 hown' hgrow hat; obtain ⟨g', cap', rfl⟩ := ownsRow_succ hown'; obtain ⟨b1, b2, b3, b4, b5⟩ := hv.appended (of_decide_eq_true (by kernel_rfl)) hown (by omega) (Nat.le_refl _) hown' hgrow; have d1 := b1.cell; have d2 := b1.frozen; have d3 := b1.lt)
  refine ⟨b4.from _, ?_, ⟨_, b2, ?_⟩, hBe.trans (b5.mono (by omega)), Nat.le_trans hsz (by have := b5.size; simpa using this)⟩
  · exact KpB.of_below (b5.mono (by omega))
  ·
   unfold OwnH
   rw [List.length_append, HMM.out, hcells_append]
   exact b3
 case hstop => exact fun _ _ _ _ _ _ h _ => h.elim
 case hdone =>
  rintro D xs V hD hS ⟨⟨v, hv, hown⟩, hBe, hsz⟩ hD2
  have hxl := hSl xs V hS
  obtain ⟨m, hm⟩ : ∃ m, xs.length = m := ⟨_, rfl⟩
  unfold OwnH at hown
  rw [hm] at hown hxl
  have HMM := Lib.hid hm
  clear hm
  obtain ⟨av, cv, rfl, hcv, hsl⟩ := SlK.own hown
  have c2 := hv.cell
  have hrow := ownsRow_putObj hown (.deferred none) hD2 rfl
  have HS := Lib.hid hS
  clear hown hS
  go_wp2
  refine endM rfl hD2 (results_tmp rfl _ _ _) ⟨_, xs, V, rfl, HS.out, ⟨D, by omega, rfl⟩, ?_, put_below hBe (by omega) (by omega) _⟩
  unfold OwnH
  rw [HMM.out, HG.out]
  exact hrow

set_option maxRecDepth 100000 in
set_option maxHeartbeats 4000000 in
theorem collectH_any {gf : Nat} {lb : Array Value} {B : Nat} {Pb : Nat → World → World → Prop} {S : List HitP → World → Prop} {Sp : List HitP → Prop} {N n₀ : Nat} (w : World)
  (eg : ∀ args w, (callFunc gf args).run Try.prog w = .ok (.enter gf args) w)
  (hps : SeqStopsX Fence.wide 8 Try.prog gf lb hitA (KpB B) Pb S Sp N w) (hB : B ≤ w.heap.size) (hPb : ∀ r W W', Pb r W W' → r < w.heap.size) (hSk : ∀ (xs : List HitP) (W : World) (l : Nat) (o o' : Obj), w.heap.size ≤ l → W.heap[l]? = some o → o.isCells = false → S xs W → S xs (W.putObj l o'))
  (hn0 : n₀ ≤ w.heap.size) (hPn : ∀ r W W', Pb r W W' → n₀ ≤ r) (hN : N ≤ 1000000000) (hSl : ∀ xs W, S xs W → xs.length ≤ 1000000000) :
  Calls Try.prog 26 #[.func (.func gf) #[] lb] w fun e w' => ∃ v xs W, e = .returned v ∧ S xs W ∧ (∃ D, w.heap.size ≤ D ∧ w' = W.putObj D (.deferred none)) ∧ OwnH w' w.heap.size v xs ∧ Below n₀ w w' := by
 have HC := Lib.hid (appendSeqH_any w eg hps hB hPb hSk hn0 hPn hN hSl)
 clear hps hPb hSk hPn hSl
 go_enter Try.func26, Try.ntmps26
 go_wp2_with fail
 refine HC.out.mono ?_
 rintro e w1 ⟨v, xs, W, rfl, hS, hD, hv, hb⟩
 go_wp2
 go_ret
 exact ⟨v, xs, W, rfl, hS, hD, hv, hb⟩
end Go.Proofs.Ytglfdclpjmhoiaa

/- Greedy (layer 15), plain: hits in order, what is chosen of them, and of those that come bit by bit. -/

namespace Go.Proofs.Ytglfdclpjmhoiaa
open Go Go.RowKit Go.Sort

section
variable {wss : List (List Int)}
theorem lenW_nn (k : Int) : 0 ≤ lenW wss k := by unfold lenW; split <;> omega
theorem cmpI_cases (x y : Int) : (x < y ∧ cmpI x y = -1) ∨ (x = y ∧ cmpI x y = 0) ∨ (y < x ∧ cmpI x y = 1) := by
 unfold cmpI
 by_cases h : x < y
 · rw [if_pos h]; exact .inl ⟨h, rfl⟩
 ·
  rw [if_neg h]
  by_cases h2 : y < x
  · rw [if_pos h2]; exact .inr (.inr ⟨h2, rfl⟩)
  · rw [if_neg h2]; exact .inr (.inl ⟨by omega, rfl⟩)
/-- One is chosen ahead of another, or they are the same. -/
def leG (wss : List (List Int)) (a b : HitP) : Prop := bgG wss a < bgG wss b ∨ bgG wss a = bgG wss b ∧ (lenW wss b.2 < lenW wss a.2 ∨ lenW wss b.2 = lenW wss a.2 ∧ a.2 ≤ b.2)
theorem ordG_lt {a b : HitP} : ordG wss a b < 0 ↔ bgG wss a < bgG wss b ∨ bgG wss a = bgG wss b ∧ (lenW wss b.2 < lenW wss a.2 ∨ lenW wss b.2 = lenW wss a.2 ∧ a.2 < b.2) := by
 unfold ordG orI
 rcases cmpI_cases (bgG wss a) (bgG wss b) with ⟨h1, e1⟩ | ⟨h1, e1⟩ | ⟨h1, e1⟩ <;> rcases cmpI_cases (lenW wss b.2) (lenW wss a.2) with ⟨h2, e2⟩ | ⟨h2, e2⟩ | ⟨h2, e2⟩ <;> rcases cmpI_cases a.2 b.2 with ⟨h3, e3⟩ | ⟨h3, e3⟩ | ⟨h3, e3⟩ <;> rw [e1, e2, e3] <;> simp <;> omega
theorem ordG_ge {a b : HitP} : 0 ≤ ordG wss b a ↔ leG wss a b := by
 have h := (ordG_lt (wss := wss) (a := b) (b := a))
 unfold leG
 constructor
 ·
  intro h1
  have h2 : ¬ ordG wss b a < 0 := by omega
  rw [h] at h2
  omega
 ·
  intro h1
  have h2 : ¬ ordG wss b a < 0 := by rw [h]; omega
  omega
theorem leG_trans {a b c : HitP} (h1 : leG wss a b) (h2 : leG wss b c) : leG wss a c := by unfold leG at *; omega
theorem leG_anti {a b : HitP} (h1 : leG wss a b) (h2 : leG wss b a) : a = b := by
 unfold leG at h1 h2
 have e2 : a.2 = b.2 := by omega
 have e1 : bgG wss a = bgG wss b := by omega
 unfold bgG at e1
 rw [e2] at e1
 exact Prod.ext (by omega) e2
/-- Sorted by insertion. -/
def insG (wss : List (List Int)) (h : HitP) : List HitP → List HitP
 | [] => [h]
 | x :: t => if ordG wss h x < 0 then h :: x :: t else x :: insG wss h t
def srtG (wss : List (List Int)) : List HitP → List HitP
 | [] => []
 | h :: t => insG wss h (srtG wss t)
theorem insG_perm (h : HitP) : ∀ l, (insG wss h l).Perm (h :: l)
 | [] => List.Perm.refl _
 | x :: t => by
  unfold insG
  split
  · exact List.Perm.refl _
  · exact ((insG_perm h t).cons x).trans (List.Perm.swap h x t)
theorem srtG_perm : ∀ l, (srtG wss l).Perm l
 | [] => List.Perm.refl _
 | h :: t => (insG_perm h _).trans ((srtG_perm t).cons h)
theorem insG_srt (h : HitP) : ∀ {l}, l.Pairwise (leG wss) → (insG wss h l).Pairwise (leG wss)
 | [], _ => by simp [insG]
 | x :: t, hp => by
  obtain ⟨h1, h2⟩ := List.pairwise_cons.1 hp
  unfold insG
  split
  ·
   rename_i hlt
   have hx : leG wss h x := by have := ordG_lt.1 hlt; unfold leG; omega
   refine List.pairwise_cons.2 ⟨fun y hy => ?_, hp⟩
   rcases List.mem_cons.1 hy with rfl | hy
   · exact hx
   · exact leG_trans hx (h1 y hy)
  ·
   rename_i hlt
   have hx : leG wss x h := ordG_ge.1 (by omega)
   refine List.pairwise_cons.2 ⟨fun y hy => ?_, insG_srt h h2⟩
   rcases List.mem_cons.1 ((insG_perm h t).mem_iff.1 hy) with rfl | hy
   · exact hx
   · exact h1 y hy
theorem srtG_srt : ∀ l, (srtG wss l).Pairwise (leG wss)
 | [] => List.Pairwise.nil
 | h :: t => insG_srt h (srtG_srt t)
theorem srt_unique : ∀ {l m : List HitP}, l.Perm m → l.Pairwise (leG wss) → m.Pairwise (leG wss) → l = m
 | [], m, hp, _, _ => (List.nil_perm.1 hp).symm
 | x :: l, [], hp, _, _ => absurd (List.perm_nil.1 hp) (by simp)
 | x :: l, y :: m, hp, hl, hm => by
  obtain ⟨l1, l2⟩ := List.pairwise_cons.1 hl
  obtain ⟨m1, m2⟩ := List.pairwise_cons.1 hm
  have hxy : x = y := by
   have a1 : x ∈ y :: m := hp.mem_iff.1 (List.mem_cons_self ..)
   have a2 : y ∈ x :: l := hp.mem_iff.2 (List.mem_cons_self ..)
   rcases List.mem_cons.1 a1 with e | h1
   · exact e
   ·
    rcases List.mem_cons.1 a2 with e | h2
    · exact e.symm
    · exact leG_anti (l1 y h2) (m1 x h1)
  subst hxy
  rw [srt_unique ((List.perm_cons x).1 hp) l2 m2]
theorem srtG_eq {l m : List HitP} (hp : m.Perm l) (hs : m.Pairwise (leG wss)) : m = srtG wss l := srt_unique (hp.trans (srtG_perm l).symm) hs (srtG_srt l)
theorem srtTo_pair {c : List HitP} {n : Nat} (hn : c.length = n) (h : SrtTo (fun a b => ordG wss a b < 0) c n) : c.Pairwise (leG wss) := by
 rw [List.pairwise_iff_getElem]
 intro i j hi hj hij
 have h1 := h i j hij (by omega)
 have e1 : nth c i = c[i] := by rw [nth, List.getD_eq_getElem?_getD, List.getElem?_eq_getElem hi, Option.getD_some]
 have e2 : nth c j = c[j] := by rw [nth, List.getD_eq_getElem?_getD, List.getElem?_eq_getElem hj, Option.getD_some]
 rw [e1, e2] at h1
 exact ordG_ge.1 (by omega)
theorem mem_srtG {x : HitP} {l : List HitP} : x ∈ srtG wss l ↔ x ∈ l := (srtG_perm l).mem_iff
/-- What is chosen, from a place on. -/
def chG (wss : List (List Int)) : Int → List HitP → List HitP
 | _, [] => []
 | e, h :: t => if bgG wss h < e then chG wss e t else h :: chG wss h.1 t
theorem chG_cons (e : Int) (h : HitP) (t : List HitP) : chG wss e (h :: t) = if bgG wss h < e then chG wss e t else h :: chG wss h.1 t := rfl
theorem chG_sub : ∀ (e : Int) (l : List HitP), (chG wss e l).Sublist l
 | _, [] => List.Sublist.refl _
 | e, h :: t => by
  unfold chG
  split
  · exact (chG_sub e t).cons h
  · exact (chG_sub h.1 t).cons_cons h
/-- The end of the last one. -/
def endG (e : Int) (l : List HitP) : Int := match l.getLast? with | some h => h.1 | none => e
theorem endG_cons (e : Int) (h : HitP) (l : List HitP) : endG e (h :: l) = endG h.1 l := by
 unfold endG
 rw [List.getLast?_cons]
 cases l.getLast? <;> rfl
theorem endG_app (e : Int) : ∀ (l m : List HitP), endG e (l ++ m) = endG (endG e l) m
 | [], m => rfl
 | h :: l, m => by
  rw [List.cons_append, endG_cons, endG_cons, endG_app]
theorem chG_app : ∀ (e : Int) (l m : List HitP), chG wss e (l ++ m) = chG wss e l ++ chG wss (endG e (chG wss e l)) m
 | e, [], m => rfl
 | e, h :: t, m => by
  rw [List.cons_append, chG_cons, chG_cons]
  by_cases hb : bgG wss h < e
  · rw [if_pos hb, if_pos hb]; exact chG_app e t m
  · rw [if_neg hb, if_neg hb, List.cons_append, endG_cons, chG_app h.1 t m]
/-- Those that begin up to a place, of a list in order. -/
def tkG (wss : List (List Int)) (m : Int) (l : List HitP) : List HitP := l.takeWhile fun h => decide (bgG wss h ≤ m)
/-- Each that is not chosen overlaps one that is, and begins behind it, or with it and is no longer. -/
def covG (wss : List (List Int)) (S : List HitP) (x : HitP) : Prop := ∃ k ∈ S, bgG wss k < bgG wss x ∧ bgG wss x < k.1 ∨ bgG wss k = bgG wss x ∧ x.1 ≤ k.1
theorem covG_mono {S S' : List HitP} {x : HitP} (h : covG wss S x) (hs : ∀ k ∈ S, k ∈ S') : covG wss S' x := by
 obtain ⟨k, hk, h⟩ := h
 exact ⟨k, hs k hk, h⟩
theorem cov_ch : ∀ {l : List HitP} (c : HitP), l.Pairwise (leG wss) → (∀ x ∈ l, leG wss c x) → ∀ x ∈ l, covG wss (c :: chG wss c.1 l) x
 | [], c, _, _, x, hx => by cases hx
 | h :: t, c, hp, hc, x, hx => by
  obtain ⟨h1, h2⟩ := List.pairwise_cons.1 hp
  unfold chG
  by_cases hb : bgG wss h < c.1
  ·
   rw [if_pos hb]
   rcases List.mem_cons.1 hx with rfl | hx
   ·
    refine ⟨c, List.mem_cons_self .., ?_⟩
    have := hc x (List.mem_cons_self ..)
    unfold leG at this
    have hlc : bgG wss c = bgG wss x → lenW wss x.2 ≤ lenW wss c.2 := by omega
    by_cases he : bgG wss c = bgG wss x
    ·
     refine .inr ⟨he, ?_⟩
     have := hlc he
     unfold bgG at he
     omega
    · exact .inl ⟨by omega, hb⟩
   · exact cov_ch c h2 (fun y hy => hc y (List.mem_cons_of_mem _ hy)) x hx
  ·
   rw [if_neg hb]
   rcases List.mem_cons.1 hx with rfl | hx
   · exact ⟨x, by simp, .inr ⟨rfl, Int.le_refl _⟩⟩
   · exact covG_mono (cov_ch h h2 h1 x hx) fun k hk => List.mem_cons_of_mem _ hk
theorem cov_all {l : List HitP} (hp : l.Pairwise (leG wss)) (h0 : ∀ x ∈ l, 0 ≤ bgG wss x) : ∀ x ∈ l, covG wss (chG wss 0 l) x := by
 cases l with
 | nil => intro x hx; cases hx
 | cons h t =>
  obtain ⟨h1, h2⟩ := List.pairwise_cons.1 hp
  intro x hx
  unfold chG
  rw [if_neg (by have := h0 h (List.mem_cons_self ..); omega)]
  rcases List.mem_cons.1 hx with rfl | hx
  · exact ⟨x, by simp, .inr ⟨rfl, Int.le_refl _⟩⟩
  · exact cov_ch h h2 h1 x hx
end
end Go.Proofs.Ytglfdclpjmhoiaa

/- Greedy (layer 15): the iterator over a row of hits; hits in order out of it; walked. -/

namespace Go.Proofs.Ytglfdclpjmhoiaa
open Go.RowKit Go.Sort
attribute [local go_sem] Oper.semAt_some
attribute [local simp] wide_fn wide_depth
attribute [local go_sem] wide_fn wide_depth

theorem Hts.keptB {W V : World} {a : Option Addr} {n : Nat} {l : List HitP} (h : Hts W a n l) (hs : W.heap.size ≤ V.heap.size) (hk : n ≠ 0 → ∀ q, a = some q → V.heap[q.block]? = W.heap[q.block]?) : Hts V a n l := by
 refine ⟨⟨h.1.1, ?_⟩, h.2⟩
 by_cases h0 : n = 0
 · exact .inl h0
 ·
  obtain ⟨b, off, e, hlt, hc⟩ := h.1.2.resolve_left h0
  have hb : V.heap[b]? = W.heap[b]? := hk h0 ⟨b, off, none⟩ e
  exact .inr ⟨b, off, e, Nat.lt_of_lt_of_le hlt hs, fun i u hu => (World.cell?_of_block (a := ⟨b, off + i, none⟩) hb).trans (hc i u hu)⟩
theorem values15_any (a : Option Addr) (n c : Nat) (w : World) :
  Calls Try.prog 41 #[.slice a n c] w fun e w' => e = .returned (.func (.func 57) #[] #[.pointer (some ⟨w.heap.size, 0, none⟩)]) ∧ w' = w.alloc (.cells #[.slice a n c] 25) := by
 go_enter Try.func41, Try.ntmps41
 go_wp2
 go_ret
 exact ⟨rfl, rfl⟩

set_option maxRecDepth 100000 in
set_option maxHeartbeats 4000000 in
theorem values15_stops (p : Nat) (a : Option Addr) (n c : Nat) (l : List HitP) (B m : Nat) (w : World) (hp : w.heap[p]? = some (.cells #[.slice a n c] 25 (0, 0))) (hH : Hts w a n l) (hpB : p < B) (hB : B ≤ w.heap.size) (hn : n ≤ 1000000) (hab : n ≠ 0 → ∀ q, a = some q → q.block < B) :
  SeqStopsX Fence.wide m Try.prog 57 #[.pointer (some ⟨p, 0, none⟩)] hitA (KpB B) (fun _ _ _ => False) (fun xs _ => xs = l) (fun _ => True) 1000001 w := by
 intro lo J Jx W hW hJ hJx hY h0
 have base : Hid (∀ V, (w.heap.size ≤ V.heap.size ∧ ∀ k, k < B → V.heap[k]? = w.heap[k]?) → V.cell? ⟨p, 0, none⟩ = some (.slice a n c) ∧ Hts V a n l) := fun V hV => by
  have e1 := (hV.2 p hpB).trans hp
  exact ⟨by simp [World.cell?, e1], hH.keptB hV.1 fun h0 q hq => hV.2 _ (hab h0 q hq)⟩
 have hkW : Hid (w.heap.size ≤ W.heap.size ∧ ∀ k, k < B → W.heap[k]? = w.heap[k]?) := ⟨hW.size, fun k hk => hW.block k (by omega)⟩
 have HLEN := Lib.hid hH.len
 have HBB := Lib.hid hB
 clear hp hH hab
 obtain ⟨c1, _⟩ := base.out W hkW.out
 refine callsIn_of_wp Try.func57 rfl trivial ?_ rfl
 simp only [Try.ntmps57, List.size_toArray, List.length_cons, List.length_nil, Nat.reduceAdd, Nat.reduceSub, Array.replicate_succ, Array.replicate_zero, List.push_toArray, List.append_toArray, List.nil_append, List.cons_append]
 gi_wp2
 clear c1
 gi_loopw [7] (fun i wr => ∃ (j : Nat) (pre : List HitP), j ≤ n ∧ i = .int .i64 j ∧ Hid (pre = l.take j) ∧ J pre wr ∧ Hid (w.heap.size ≤ wr.heap.size ∧ ∀ k, k < B → wr.heap[k]? = w.heap[k]?)) (fun i _ => n - (intOf i).toNat)
 case atStart => exact ⟨0, [], Nat.zero_le _, rfl, rfl, h0, hkW⟩
 case round =>
  obtain ⟨j, pre, hk, rfl, HP, hj, hkr⟩ := hrel
  by_cases hlt : j < n
  ·
   have hdk : decide ((j : Int) < (n : Int)) = true := by simp; omega
   have hdk' : decide (j < n) = true := by simp; omega
   obtain ⟨b0, o0, x, e0, hl0, x0, x1, hx, _, _⟩ := (base.out wr hkr.out).2.at_ hlt
   subst e0
   have i1 : (0 : Int) ≤ (j : Int) := by omega
   have i2 : (j : Int) < (n : Int) := by omega
   have HS : Hid (pre ++ [x] = l.take (j + 1)) := by rw [Hid, HP.out, take_step hx]
   have hplen : pre.length < 1000001 := by rw [HP.out, List.length_take]; omega
   have hb0 := below_alloc wr (.cells #[.int .i64 x.1, .int .i64 x.2] 30)
   obtain ⟨fn, tmps, assign, body, hyl, hRo⟩ := hY pre x (wr.alloc (.cells #[.int .i64 x.1, .int .i64 x.2] 30)) (abides_x hJ hj hb0) hplen
   have hkr2 : Hid (w.heap.size ≤ (wr.alloc (.cells #[.int .i64 x.1, .int .i64 x.2] 30)).heap.size ∧ ∀ k, k < B → (wr.alloc (.cells #[.int .i64 x.1, .int .i64 x.2] 30)).heap[k]? = w.heap[k]?) :=
    ⟨Nat.le_trans hkr.out.1 hb0.size, fun k hk => (hb0.block k (by have := hkr.out.1; have := HBB.out; omega)).trans (hkr.out.2 k hk)⟩
   dsimp only [hitA] at hyl
   clear hx hb0 hplen
   gi_wp2
   refine hRo.mono ?_
   rintro e W4 (⟨rfl, hJ4, hk4⟩ | ⟨rfl, hJx4⟩)
   ·
    have hkr4 : Hid (w.heap.size ≤ W4.heap.size ∧ ∀ k, k < B → W4.heap[k]? = w.heap[k]?) := ⟨Nat.le_trans hkr2.out.1 hk4.1, fun k hk => (hk4.2 k hk (by have := hkr2.out.1; have := HBB.out; omega)).trans (hkr2.out.2 k hk)⟩
    gi_wp2
    go_roundw
    case rel => exact ⟨j + 1, _, by omega, by go_num, HS, hJ4, hkr4⟩
    case measure => simp [intOf]; omega
   ·
    gi_wp2
    refine bodyPost_ret (results_none rfl _ _ _) rfl ?_
    exact ⟨⟨_, rfl⟩, .inr ⟨_, trivial, hJx4⟩⟩
  ·
   obtain rfl : j = n := by omega
   have hdk : decide ((j : Int) < (j : Int)) = false := by simp
   have HF : Hid (pre = l) := by
    have h := HP.out
    rwa [List.take_of_length_le (by rw [HLEN.out]; exact Nat.le_refl _)] at h
   clear hlt
   gi_wp2
   go_end0
   exact ⟨⟨_, rfl⟩, .inl ⟨pre, HF.out, hj⟩⟩
/-- Hits gathered out of a row. -/
theorem collectV_any (p : Nat) (a : Option Addr) (n c : Nat) (l : List HitP) (w : World) (hp : w.heap[p]? = some (.cells #[.slice a n c] 25 (0, 0))) (hH : Hts w a n l) (hn : n ≤ 1000000) :
  Calls Try.prog 26 #[.func (.func 57) #[] #[.pointer (some ⟨p, 0, none⟩)]] w fun e w' => ∃ v, e = .returned v ∧ OwnH w' w.heap.size v l ∧ Below w.heap.size w w' := by
 have hpl := (Array.getElem?_eq_some_iff.1 hp).1
 have hln := hH.len
 have hst := values15_stops p a n c l w.heap.size 8 w hp hH hpl (Nat.le_refl _) hn (fun h0 q hq => by
  obtain ⟨b, off, x, e, hlt, _⟩ := hH.at_ (k := 0) (by omega)
  rw [e] at hq
  cases hq
  exact hlt)
 refine (collectH_any w (enters_of Try.func57 (by kernel_rfl) rfl) hst (Nat.le_refl _) (fun _ _ _ h => h.elim) (fun _ _ _ _ _ _ _ _ h => h) (Nat.le_refl _) (fun _ _ _ h => h.elim) (by omega) (fun xs W h => by rw [h]; omega)).mono ?_
 rintro e w' ⟨v, xs, W, rfl, rfl, _, ho, hb⟩
 exact ⟨v, rfl, ho, hb⟩
set_option maxRecDepth 100000 in
set_option maxHeartbeats 4000000 in
theorem ins0_any (f : Value) (a : Option Addr) (cc : Nat) (w : World) :
  Calls Try.prog 79 #[.slice a 0 cc, .int .i64 0, .int .i64 0, f] w fun e w' => e = .returned (.tuple #[]) ∧ w = w' := by
 go_enter Try.func79, Try.ntmps79
 go_wp2
 go_loopw [8, 9] (fun i _ wr => i = .int .i64 1 ∧ Hid (w = wr)) (fun _ _ _ => 0)
 case atStart => exact ⟨by go_num, rfl⟩
 case round =>
  obtain ⟨rfl, hw⟩ := hrel
  go_wp2
  go_end0
  exact ⟨rfl, hw.out⟩
set_option maxRecDepth 100000 in
set_option maxHeartbeats 4000000 in
/-- Hits in order. -/
theorem sortedG_any (p N n ln cl c : Nat) (al a : Option Addr) (wss : List (List Int)) (l : List HitP) (w : World) (hp : w.heap[p]? = some (.cells #[.slice a n c] 25 (0, 0))) (hH : Hts w a n l) (hn : n ≤ 1000000) (hN : Ln w N al ln cl wss) (hm : ∀ x ∈ l, mayG wss x = true) :
  Calls Try.prog 40 #[.func (.func 57) #[] #[.pointer (some ⟨p, 0, none⟩)], .func (.func 42) #[.pointer (some ⟨N, 0, none⟩)] #[]] w fun e w' => ∃ v, e = .returned v ∧ OwnH w' w.heap.size v (srtG wss l) ∧ Below w.heap.size w w' := by
 have HC := Lib.hid (collectV_any p a n c l w hp hH hn)
 have HLEN := Lib.hid hH.len
 have HN := Lib.hid hN
 have HM := Lib.hid hm
 have HI := Lib.hid hH.2
 clear hp hH hN hm
 go_enter Try.func40, Try.ntmps40
 go_wp2_with fail
 refine HC.out.mono ?_
 rintro e w1 ⟨v, rfl, ho, hb1⟩
 by_cases h0 : n = 0
 ·
  subst h0
  obtain rfl : l = [] := List.eq_nil_of_length_eq_zero HLEN.out
  have hv : ∃ a c, v = .slice a 0 c ∧ 0 ≤ c ∧ SlK 2 w1 a 0 (hcells []) := by
   unfold OwnH at ho
   exact SlK.own ho
  obtain ⟨av, cv, rfl, _, _⟩ := hv
  have HO := Lib.hid ho
  have HB1 := Lib.hid hb1
  clear ho hb1
  have H0 := Lib.hid (sortSmall_any (.func (.func 42) #[.pointer (some ⟨N, 0, none⟩)] #[]) 0 cv av w1 (by decide) (R := fun w' => w1 = w') (ins0_any _ _ _ _))
  go_wp2_with fail
  refine H0.out.mono ?_
  rintro e w2 ⟨rfl, rfl⟩
  go_wp2
  go_ret
  exact ⟨_, rfl, HO.out, HB1.out⟩
 ·
  obtain ⟨m, hmm⟩ : ∃ m, n = m + 1 := ⟨n - 1, by omega⟩
  obtain ⟨g, cap, rfl⟩ : ∃ g cap, v = .slice (some ⟨g, 0, none⟩) n cap := by
   have h1 := ho
   unfold OwnH at h1
   rw [HLEN.out, hmm] at h1
   obtain ⟨g, cap, e⟩ := ownsRow_succ h1
   exact ⟨g, cap, by rw [e, hmm]⟩
  obtain ⟨hrow, hg, hcm, hnl⟩ := OwnH.row ho
  clear hnl
  have hB : CmpB 42 (.pointer (some ⟨N, 0, none⟩)) (ordG wss) (fun x => mayG wss x = true) (fun W => Below w.heap.size w W) g :=
   ⟨enters_of Try.func42 (by kernel_rfl) rfl, fun W W' h hb => h.trans (hb.mono h.size), fun W i v h => h.setCell hg _, fun x y W hx hy hC => order15_any N ln cl al wss x y W (HN.out.below hC) hx hy⟩
  have HS := Lib.hid (sortOK n (by omega) 42 (.pointer (some ⟨N, 0, none⟩)) (ordG wss) (fun x => mayG wss x = true) (fun W => Below w.heap.size w W) g cap cap l w1 hB
   (fun x y h => by
    have h1 := (ordG_lt (wss := wss) (a := x) (b := y)).1 h
    exact ordG_ge.2 (by unfold leG; omega))
   (fun x y z h1 h2 => ordG_ge.2 (leG_trans (ordG_ge.1 h2) (ordG_ge.1 h1))) HM.out HLEN.out hb1 hrow)
  have HO := Lib.hid ho
  have HG := Lib.hid hg
  have HCM := Lib.hid hcm
  clear hB hrow ho hcm hmm hg
  go_wp2_with fail
  refine HS.out.mono ?_
  rintro e w2 ⟨rfl, l', hp', hs', hr', hC', hgr⟩
  have hlen : l'.length = n := by rw [hp'.length_eq]; exact HLEN.out
  have hl' : l' = srtG wss l := srtG_eq hp' (srtTo_pair hlen hs')
  have hfin := hr'.own (base := w.heap.size) HG.out HCM.out
  rw [hlen, hl'] at hfin
  have HF := Lib.hid hfin
  have HC2 := Lib.hid hC'
  clear hp' hs' hr' hC' hgr hlen hl' hfin
  go_wp2
  go_ret
  exact ⟨_, rfl, HF.out, HC2.out⟩
end Go.Proofs.Ytglfdclpjmhoiaa

/- What a body keeps that appends to a row of its own, whose slice lies in a box. -/

namespace Go.Proofs.Ytglfdclpjmhoiaa
open Go.RowKit Go.Sort

/-- The row that a box's slice has. -/
def rowAt (bl : Nat) (W : World) : Option Nat := (W.cell? ⟨bl, 0, none⟩).bind Value.ownBlock
/-- What a body keeps that appends to a row of its own, whose slice lies in a box. -/
def KpL (bl : Nat) (W W' : World) : Prop :=
 W.heap.size ≤ W'.heap.size ∧ (∀ k cs t f, W.heap[k]? = some (.cells cs t f) → k ≠ bl → rowAt bl W ≠ some k → W'.heap[k]? = some (.cells cs t f)) ∧ (rowAt bl W' = rowAt bl W ∨ ∃ r, rowAt bl W' = some r ∧ W.heap.size ≤ r ∧ r < W'.heap.size)
theorem KpL.lt {bl : Nat} {W : World} {k : Nat} {cs : Array Value} {t : TypeId} {f : Nat × Nat} (h : W.heap[k]? = some (.cells cs t f)) : k < W.heap.size := (Array.getElem?_eq_some_iff.1 h).1
theorem KpL.t {bl : Nat} {A B C : World} (h : KpL bl A B) (k : KpL bl B C) : KpL bl A C := by
 obtain ⟨h1, h2, h3⟩ := h
 obtain ⟨k1, k2, k3⟩ := k
 refine ⟨Nat.le_trans h1 k1, fun i cs t f hi hb hr => ?_, ?_⟩
 ·
  refine k2 i cs t f (h2 i cs t f hi hb hr) hb ?_
  rcases h3 with e | ⟨r, e, hr1, _⟩
  · rw [e]; exact hr
  ·
   rw [e]
   intro e2
   have := KpL.lt (bl := bl) hi
   cases e2
   omega
 ·
  rcases k3 with e | ⟨r, e, hr1, hr2⟩
  ·
   rw [e]
   rcases h3 with e' | ⟨r, e', hr1, hr2⟩
   · exact .inl e'
   · exact .inr ⟨r, e', hr1, by omega⟩
  · exact .inr ⟨r, e, by omega, hr2⟩
theorem KpL.b {bl : Nat} {w : World} (hb : bl < w.heap.size) (W : World) (l : Nat) (o o' : Obj) (hl : w.heap.size ≤ l) (h : W.heap[l]? = some o) (hc : o.isCells = false) (_ : o.isWalk = false) : KpL bl W (W.putObj l o') := by
 refine ⟨by simp [World.putObj], fun k cs t f hk _ _ => ?_, .inl ?_⟩
 ·
  rw [World.putObj_heap_other (fun e => ?_)]
  · exact hk
  ·
   rw [e, h] at hk
   cases hk
   cases hc
 ·
  unfold rowAt
  rw [World.cell?_of_block (a := ⟨bl, 0, none⟩) (World.putObj_heap_other (by show bl ≠ l; omega))]
/-- What an iterator knows of the world through all rounds, but for its own block: blocks that were there at first, and the row that the body has. -/
structure KeepL (bl g : Nat) (w W : World) : Prop where
 size : w.heap.size ≤ W.heap.size
 cells : ∀ k cs t f, w.heap[k]? = some (.cells cs t f) → k ≠ bl → k ≠ g → W.heap[k]? = some (.cells cs t f)
 row : ∀ r, rowAt bl W = some r → w.heap.size ≤ r ∧ r < W.heap.size
section
variable {bl g : Nat} {w W V : World}
theorem KeepL.body (h : KeepL bl g w W) (hk : KpL bl W V) : KeepL bl g w V := by
 obtain ⟨k1, k2, k3⟩ := hk
 refine ⟨Nat.le_trans h.size k1, fun k cs t f hc hb hg => k2 k cs t f (h.cells k cs t f hc hb hg) hb (fun e => ?_), fun r hr => ?_⟩
 ·
  have h1 := KpL.lt (bl := bl) hc
  have h2 := (h.row k e).1
  omega
 ·
  rcases k3 with e | ⟨r', e, h1, h2⟩
  ·
   rw [e] at hr
   have := h.row r hr
   omega
  ·
   rw [e] at hr
   cases hr
   have := h.size
   omega
theorem KeepL.own (h : KeepL bl g w W) (hk : W.grownBy V (some g)) (hbg : bl ≠ g) (hbl : bl < W.heap.size) : KeepL bl g w V := by
 have e : rowAt bl V = rowAt bl W := by
  unfold rowAt
  rw [World.cell?_of_block (a := ⟨bl, 0, none⟩) (hk.block bl hbl (fun e => hbg (Option.some.inj e)))]
 refine ⟨Nat.le_trans h.size hk.size, fun k cs t f hc hb hg => ?_, fun r hr => ?_⟩
 ·
  have h1 := h.cells k cs t f hc hb hg
  exact (hk.block k (KpL.lt (bl := bl) h1) (fun e => hg (Option.some.inj e))).trans h1
 ·
  rw [e] at hr
  have := h.row r hr
  have := hk.size
  omega
end

/-- A row of hits that the body does not have: it stays. -/
def Away (bl : Nat) (a : Option Addr) (W : World) : Prop := ∀ p, a = some p → p.block ≠ bl ∧ rowAt bl W ≠ some p.block ∧ p.block < W.heap.size
theorem KpL.hts {bl : Nat} {W V : World} (hk : KpL bl W V) {a : Option Addr} {n : Nat} {l : List HitP} (h : Hts W a n l) (ha : Away bl a W) : Hts V a n l ∧ Away bl a V := by
 obtain ⟨k1, k2, k3⟩ := hk
 constructor
 ·
  refine ⟨⟨h.1.1, ?_⟩, h.2⟩
  rcases h.1.2 with h0 | ⟨b, off, e, hlt, hc⟩
  · exact .inl h0
  ·
   refine .inr ⟨b, off, e, Nat.lt_of_lt_of_le hlt k1, fun i u hu => ?_⟩
   have hcu := hc i u hu
   obtain ⟨h1, h2, _⟩ := ha _ e
   cases ho : W.heap[b]? with
   | none => simp [World.cell?, ho] at hcu
   | some o =>
    cases o with
    | cells cs t f =>
     rw [← hcu]
     exact World.cell?_of_block (a := ⟨b, off + i, none⟩) ((k2 b cs t f ho h1 h2).trans ho.symm)
    | _ => simp [World.cell?, ho] at hcu
 ·
  intro p hp
  obtain ⟨h1, h2, h3⟩ := ha p hp
  refine ⟨h1, ?_, Nat.lt_of_lt_of_le h3 k1⟩
  rcases k3 with e | ⟨r, e, hr, _⟩
  · rw [e]; exact h2
  ·
   rw [e]
   intro e2
   cases e2
   omega
/-- What tells a hit to a round. -/
def htEnc (h : HitP) : Array Value := #[.agg #[.int .i64 h.1, .int .i64 h.2]]

theorem KpL.of_below {bl : Nat} {W V : World} (hb : Below W.heap.size W V) (hl : bl < W.heap.size) : KpL bl W V :=
 ⟨hb.size, fun k cs t f hk _ _ => (hb.block k (KpL.lt (bl := bl) hk)).trans hk, .inl (by unfold rowAt; rw [World.cell?_of_block (a := ⟨bl, 0, none⟩) (hb.block bl hl)])⟩
theorem kpl_append {V w5 : World} {bl base size n : Nat} {t e : TypeId} {v v' : Value} {xs : List Value} {tmp : Obj} (hv : Boxed V bl t v) (hv1 : Boxed w5 bl t v) (hg : (V.alloc tmp).grownBy w5 v.ownBlock) (hat : v'.ownBlock = v.ownBlock ∨ v'.ownBlock = some (V.alloc tmp).heap.size)
  (hown' : w5.ownsRow base e size v' n xs) : KpL bl V (w5.setCell ⟨bl, 0, none⟩ v') := by
 have hs : V.heap.size ≤ w5.heap.size := by have := hg.size; simp at this; omega
 have e1 : rowAt bl V = v.ownBlock := by unfold rowAt; rw [hv.cell]; rfl
 have e2 : rowAt bl (w5.setCell ⟨bl, 0, none⟩ v') = v'.ownBlock := by unfold rowAt; rw [(hv1.set v').cell]; rfl
 have hs2 : (w5.setCell ⟨bl, 0, none⟩ v').heap.size = w5.heap.size := by simp [World.setCell]
 refine ⟨by rw [hs2]; exact hs, fun k cs t f hk hb hr => ?_, ?_⟩
 ·
  have hkl := KpL.lt (bl := bl) hk
  rw [e1] at hr
  rw [Below.heap_setCell w5 ⟨bl, 0, none⟩ v' k hb, hg.block k (by simp; omega) (fun e => hr e.symm), Below.heap_alloc _ _ _ hkl]
  exact hk
 ·
  rw [e1, e2, hs2]
  rcases hat with h | h
  · exact .inl h
  ·
   refine .inr ⟨_, h, by simp, ?_⟩
   rcases hown'.2 with ⟨h0, _⟩ | ⟨g, cap, cur, h0, _, hgb, _⟩
   · rw [h0] at h; cases h
   ·
    rw [h0] at h
    simp only [Value.ownBlock, Option.some.injEq] at h
    rw [← h]
    exact (Array.getElem?_eq_some_iff.1 hgb).1
end Go.Proofs.Ytglfdclpjmhoiaa

/- Greedy (layer 15): the iterator over what is chosen; walked. Printed by exp.py. -/

namespace Go.Proofs.Ytglfdclpjmhoiaa
open Go.RowKit Go.Sort
attribute [local go_sem] Oper.semAt_some
attribute [local simp] wide_fn wide_depth
attribute [local go_sem] wide_fn wide_depth

theorem chosen15_any (N : Nat) (e0 : Int) (a : Option Addr) (n c : Nat) (w : World) :
  Calls Try.prog 27 #[.pointer (some ⟨N, 0, none⟩), .int .i64 e0, .slice a n c] w fun e w' => e = .returned (.func (.func 39) #[] #[.pointer (some ⟨w.heap.size + 1 + 1, 0, none⟩), .pointer (some ⟨w.heap.size, 0, none⟩), .pointer (some ⟨w.heap.size + 1, 0, none⟩)]) ∧
   w' = ((w.alloc (.cells #[.pointer (some ⟨N, 0, none⟩)] 72)).alloc (.cells #[.int .i64 e0] 3)).alloc (.cells #[.slice a n c] 25) := by
 go_enter Try.func27, Try.ntmps27
 go_wp2
 go_ret
 exact ⟨rfl, rfl⟩
theorem chG_one {wss : List (List Int)} {e0 : Int} {A pre : List HitP} {j : Nat} {x : HitP} (hp : pre = chG wss e0 (A.take j)) (hx : A[j]? = some x) : chG wss e0 (A.take (j + 1)) = if bgG wss x < endG e0 pre then pre else pre ++ [x] := by
 rw [take_step hx, chG_app, ← hp, chG_cons]
 split
 · rw [show chG wss (endG e0 pre) [] = [] from rfl, List.append_nil]
 · rfl
theorem endG_one (e0 : Int) (pre : List HitP) (x : HitP) : endG e0 (pre ++ [x]) = x.1 := by rw [endG_app]; rfl
/-- A row that neither the body nor the iterator writes. -/
theorem KeepL.hts {bl g : Nat} {w W : World} (h : KeepL bl g w W) {a : Option Addr} {n : Nat} {l : List HitP} (hH : Hts w a n l) (ha : n ≠ 0 → ∀ q, a = some q → q.block ≠ bl ∧ q.block ≠ g) : Hts W a n l := by
 refine ⟨⟨hH.1.1, ?_⟩, hH.2⟩
 by_cases h0 : n = 0
 · exact .inl h0
 ·
  obtain ⟨b, off, e, hlt, hc⟩ := hH.1.2.resolve_left h0
  obtain ⟨h1, h2⟩ := ha h0 _ e
  refine .inr ⟨b, off, e, Nat.lt_of_lt_of_le hlt h.size, fun i u hu => ?_⟩
  have hcu := hc i u hu
  cases ho : w.heap[b]? with
  | none => simp [World.cell?, ho] at hcu
  | some o =>
   cases o with
   | cells cs t f =>
    rw [← hcu]
    exact World.cell?_of_block (a := ⟨b, off + i, none⟩) ((h.cells b cs t f ho h1 h2).trans ho.symm)
   | _ => simp [World.cell?, ho] at hcu
theorem KeepL.cell {bl g : Nat} {w W : World} (h : KeepL bl g w W) {p : Addr} {v : Value} (hc : w.cell? p = some v) (h1 : p.block ≠ bl) (h2 : p.block ≠ g) : W.cell? p = some v := by
 cases ho : w.heap[p.block]? with
 | none => simp [World.cell?, ho] at hc
 | some o =>
  cases o with
  | cells cs t f =>
   rw [← hc]
   exact World.cell?_of_block ((h.cells p.block cs t f ho h1 h2).trans ho.symm)
  | _ => simp [World.cell?, ho] at hc
theorem KeepL.ln {bl g : Nat} {w W : World} (h : KeepL bl g w W) {N n c : Nat} {a : Option Addr} {wss : List (List Int)} (hN : Ln w N a n c wss) (h1 : N ≠ bl ∧ N ≠ g) (ha : n ≠ 0 → ∀ q, a = some q → q.block ≠ bl ∧ q.block ≠ g) : Ln W N a n c wss := by
 refine ⟨h.cell hN.cell h1.1 h1.2, ⟨hN.row.1, ?_⟩, Nat.lt_of_lt_of_le hN.lt h.size⟩
 by_cases h0 : n = 0
 · exact .inl h0
 ·
  obtain ⟨b, off, e, hlt, hc⟩ := hN.row.2.resolve_left h0
  obtain ⟨h1, h2⟩ := ha h0 _ e
  exact .inr ⟨b, off, e, Nat.lt_of_lt_of_le hlt h.size, fun i x hx => h.cell (hc i x hx) h1 h2⟩

set_option maxRecDepth 100000 in
set_option maxHeartbeats 8000000 in
theorem chosen15_stopsP (bl pl pn pe N n c ln cl : Nat) (al a : Option Addr) (e0 : Int) (wss : List (List Int)) (l : List HitP) (m : Nat) (w : World) (hbl : bl < w.heap.size) (hrow : ∀ r, rowAt bl w ≠ some r)
  (h1 : w.heap[pl]? = some (.cells #[.slice a n c] 25 (0, 0))) (h2 : w.heap[pn]? = some (.cells #[.pointer (some ⟨N, 0, none⟩)] 72 (0, 0))) (h3 : Boxed w pe 3 (.int .i64 e0))
  (hH : Hts w a n l) (hn : n ≤ 1000000) (hN : Ln w N al ln cl wss) (hm : ∀ x ∈ l, mayG wss x = true)
  (hd : bl ≠ pl ∧ bl ≠ pn ∧ bl ≠ pe ∧ pe ≠ pl ∧ pe ≠ pn) (hdN : N ≠ bl ∧ N ≠ pe) (hda : n ≠ 0 → ∀ q, a = some q → q.block ≠ bl ∧ q.block ≠ pe) (hdl : ln ≠ 0 → ∀ q, al = some q → q.block ≠ bl ∧ q.block ≠ pe) :
  ∀ (lo : Nat) (J Jx : List HitP → World → Prop) (W : World), RowKit.Below w.heap.size w W → AbidesX W.heap.size (fun r _ _ => r = pe) J → AbidesX W.heap.size (fun r _ _ => r = pe) Jx →
   (∀ pre x W1, mayG wss x = true → J pre W1 → pre.length < 1000001 → YieldAt Fence.wide (m - 1) Try.prog lo (htEnc x) W1 fun e W' => (e = .returned (.bool true) ∧ J (pre ++ [x]) W' ∧ KpL bl W1 W') ∨ (e = .returned (.bool false) ∧ Jx (pre ++ [x]) W')) →
   J [] W →
   CallsIn Fence.wide m Try.prog 39 (#[.func (.yield lo) #[] #[]] ++ #[.pointer (some ⟨pl, 0, none⟩), .pointer (some ⟨pn, 0, none⟩), .pointer (some ⟨pe, 0, none⟩)]) W fun e W' => (∃ v, e = .returned v) ∧ ((∃ xs, xs = chG wss e0 (srtG wss l) ∧ J xs W') ∨ (∃ pre, (∃ r, chG wss e0 (srtG wss l) = pre ++ r) ∧ Jx pre W')) := by
 intro lo J Jx W hWb hJ hJx hY h0
 obtain ⟨d1, d2, d3, d4, d5⟩ := hd
 have hK0 : KeepL bl pe w W := ⟨hWb.size, fun k cs t f hc _ _ => (hWb.block k (KpL.lt (bl := bl) hc)).trans hc, fun r hr => absurd hr (by
  unfold rowAt
  rw [World.cell?_of_block (a := ⟨bl, 0, none⟩) (hWb.block bl hbl)]
  exact hrow r)⟩
 have hpl := (Array.getElem?_eq_some_iff.1 h1).1
 have hpn := (Array.getElem?_eq_some_iff.1 h2).1
 have hpe := h3.lt
 have HP : Hid (∀ V, KeepL bl pe w V → V.cell? ⟨pn, 0, none⟩ = some (.pointer (some ⟨N, 0, none⟩)) ∧ Ln V N al ln cl wss) := fun V hV => ⟨hV.cell (p := ⟨pn, 0, none⟩) (by simp [World.cell?, h2]) (Ne.symm d2) (Ne.symm d5), hV.ln hN hdN hdl⟩
 have h1W : W.heap[pl]? = some (.cells #[.slice a n c] 25 (0, 0)) := (hWb.block pl hpl).trans h1
 have h2W : W.heap[pn]? = some (.cells #[.pointer (some ⟨N, 0, none⟩)] 72 (0, 0)) := (hWb.block pn hpn).trans h2
 have h3W : Boxed W pe 3 (.int .i64 e0) := (hWb.block pe hpe).trans h3
 have hHW := hH.below hWb
 have hNW := hN.below hWb
 have hblW : bl < W.heap.size := by have := hWb.size; omega
 have HK0 := Lib.hid hK0
 have HHW : Hid (∀ V, RowKit.Below W.heap.size W V → V.cell? ⟨pl, 0, none⟩ = some (.slice a n c) ∧ V.cell? ⟨pn, 0, none⟩ = some (.pointer (some ⟨N, 0, none⟩)) ∧ Hts V a n l ∧ Ln V N al ln cl wss) := fun V hV => by
  have e1 := (hV.block pl (Array.getElem?_eq_some_iff.1 h1W).1).trans h1W
  have e2 := (hV.block pn (Array.getElem?_eq_some_iff.1 h2W).1).trans h2W
  exact ⟨by simp [World.cell?, e1], by simp [World.cell?, e2], hHW.below hV, hNW.below hV⟩
 have HM := Lib.hid hm
 have H3W := Lib.hid h3W
 have HLN := Lib.hid hH.len
 have hpeW : pe < W.heap.size := by have := hWb.size; omega
 have HWB := Lib.hid hWb
 clear hK0 h1 h2 h3 h1W h2W h3W hH hN hHW hNW hm hrow hda hdl hWb
 refine callsIn_of_wp Try.func39 rfl trivial ?_ rfl
 simp only [Try.ntmps39, List.size_toArray, List.length_cons, List.length_nil, Nat.reduceAdd, Nat.reduceSub, Array.replicate_succ, Array.replicate_zero, List.push_toArray, List.append_toArray, List.nil_append, List.cons_append]
 gi_wp2
 refine wpIn_wide.2 ?_
 refine wp_region_noPanic ?_
 refine wp_region_held_drew (S := RowKit.Below W.heap.size W) (by kernel_rfl) (bel_drewN W 1) (fun hHeld => ?_)
 refine tkW 0 (v := ?_) ?_ ?_
 rotate_left
 ·
  intro V hV
  obtain ⟨q0, q1, _, _⟩ := HHW.out V hV
  first | (go_simp; done) | (go_simp; with_reducible rfl)
 try simp only [Act.put, pA, pB, pC]
 refine tkW 2 (v := ?_) ?_ ?_
 rotate_left
 ·
  intro V hV
  obtain ⟨q0, q1, _, _⟩ := HHW.out V hV
  first | (go_simp; done) | (go_simp; with_reducible rfl)
 try simp only [Act.put, pA, pB, pC]
 refine tkW 3 (v := ?_) ?_ ?_
 rotate_left
 ·
  intro V hV
  first | (go_simp; done) | (go_simp; with_reducible rfl)
 try simp only [Act.put, pA, pB, pC]
 refine tkW 6 (v := ?_) ?_ ?_
 rotate_left
 ·
  intro V hV
  first | (go_simp; done) | (go_simp; with_reducible rfl)
 try simp only [Act.put, pA, pB, pC]
 refine rdy 1 (fun K hK => ?_)
 go_simp
 go_at_call 41; refine (values15_any a n c _).mono ?_; rintro e w2 ⟨rfl, hw2⟩
 refine hK.out _ _ ((by rw [hw2]; exact hHeld.alloc hHeld.size _)) (fun hS2 => ?_)
 clear hK K
 try simp only [Act.put, pA, pB, pC]
 have hp2 : w2.heap[W.drew.heap.size]? = some (.cells #[.slice a n c] 25 (0, 0)) := by rw [hw2]; exact World.alloc_heap_new _ _
 obtain ⟨p2, hp2e⟩ : ∃ p, W.drew.heap.size = p := ⟨_, rfl⟩
 have hp2e' : W.heap.size = p2 := hp2e
 rw [hp2e] at hp2
 have HSO := Lib.hid (sortedG_any p2 N n ln cl c al a wss l w2 hp2 (HHW.out w2 hS2).2.2.1 hn (HHW.out w2 hS2).2.2.2 HM.out)
 clear hp2 hw2 hHeld
 refine rdy 4 (fun K hK => ?_)
 go_simp
 go_at_call 40; refine (HSO.out).mono ?_; rintro e w3 ⟨v, rfl, ho, hb3⟩
 refine hK.out _ _ (hS2.trans (hb3.mono hS2.size)) (fun hS3 => ?_)
 clear hK K
 try simp only [Act.put, pA, pB, pC]
 have hv : ∃ a2 c2, v = .slice a2 n c2 ∧ Hts w3 a2 n (srtG wss l) ∧ (n ≠ 0 → ∀ q, a2 = some q → w2.heap.size ≤ q.block ∧ q.block < w3.heap.size) := by
  have hl : (srtG wss l).length = n := by rw [(srtG_perm l).length_eq]; exact HLN.out
  have hI : ∀ x ∈ srtG wss l, I64 x.1 ∧ I64 x.2 := fun x hx => (HHW.out W (Below.refl _ _)).2.2.1.2 x (mem_srtG.1 hx)
  obtain ⟨a2, c2, e, _, hs⟩ := OwnH.hts ho hI
  rw [hl] at e hs
  refine ⟨a2, c2, e, hs, fun h0 q hq => ?_⟩
  rw [e, hq] at ho
  obtain ⟨b, off, e2, hlt, _⟩ := hs.1.2.resolve_left h0
  rw [hq] at e2
  have e3 := Option.some.inj e2
  subst e3
  rcases ho.2 with ⟨e4, _⟩ | ⟨g, cap, cur, e4, hg, _⟩
  · cases e4
  ·
   injection e4 with e5
   injection e5 with e5
   injection e5 with e6 e7
   subst e6
   exact ⟨hg, hlt⟩
 obtain ⟨a2, c2, rfl, hs2, ha2⟩ := hv
 have hA3 : n ≠ 0 → ∀ q, a2 = some q → W.heap.size ≤ q.block ∧ q.block < w3.heap.size := fun h0 q hq => ⟨Nat.le_trans hS2.size (ha2 h0 q hq).1, (ha2 h0 q hq).2⟩
 have HS3 := Lib.hid hS3
 have HA3 := Lib.hid hA3
 have HH3 := Lib.hid hs2
 clear ho ha2 hA3 hs2 hb3 hS2 hS3 HSO hp2e hp2e'
 refine tkW 5 (v := ?_) ?_ ?_
 rotate_left
 ·
  intro V hV
  first | (go_simp; done) | (go_simp; with_reducible rfl)
 try simp only [Act.put, pA, pB, pC]
 refine wpAnyH_done (by kernel_rfl) ?_ _
 refine NoPanic.normal ?_
 obtain ⟨A, hA⟩ : ∃ A, srtG wss l = A := ⟨_, rfl⟩
 have HAL : Hid (A.length = n) := by rw [Hid, ← hA, (srtG_perm l).length_eq]; exact HLN.out
 have HAM : Hid (∀ x ∈ A, mayG wss x = true) := fun x hx => HM.out x (by rw [← hA] at hx; exact mem_srtG.1 hx)
 rw [hA] at HH3
 have HAE := Lib.hid hA
 clear hA
 have hAW : Hid (n ≠ 0 → Away bl a2 w3) := fun h0 q hq => by
  obtain ⟨g1, g2⟩ := HA3.out h0 q hq
  refine ⟨by omega, fun e => ?_, g2⟩
  have e2 : rowAt bl w3 = rowAt bl W := by
   unfold rowAt
   rw [World.cell?_of_block (a := ⟨bl, 0, none⟩) (HS3.out.block bl hblW)]
  rw [e2] at e
  have := (HK0.out.row _ e).2
  omega
 have HQE : Hid (n ≠ 0 → ∀ q, a2 = some q → q.block ≠ pe) := fun h0 q hq => by have := (HA3.out h0 q hq).1; omega
 have HK3 : Hid (KeepL bl pe w w3) := HK0.out.body (KpL.of_below HS3.out hblW)
 have HB3 : Hid (Boxed w3 pe 3 (.int .i64 e0)) := (HS3.out.block pe hpeW).trans H3W.out
 have HJ3 := abides_x hJ h0 HS3.out
 have HWS : Hid (W.heap.size ≤ w3.heap.size) := HS3.out.size
 have HWW : Hid (w.heap.size ≤ W.heap.size) := HWB.out.size
 clear HS3 HK0 HHW HM H3W h0 HA3
 gi_wp2
 gi_loopw [13] (fun s13 wr => ∃ (j : Nat) (pre : List HitP) (e : Int), j ≤ n ∧ s13 = .int .i64 (j : Int) ∧ Hid (pre = chG wss e0 (A.take j)) ∧ Hid (e = endG e0 pre) ∧ J pre wr ∧ Hid (Boxed wr pe 3 (.int .i64 e)) ∧ Hid (KeepL bl pe w wr) ∧ Hid (Hts wr a2 n A) ∧ Hid (n ≠ 0 → Away bl a2 wr) ∧ Hid (W.heap.size ≤ wr.heap.size)) (fun s _ => n - (intOf s).toNat)
 case atStart => exact ⟨0, [], e0, Nat.zero_le _, rfl, rfl, rfl, HJ3, HB3.out, HK3.out, HH3.out, hAW.out, HWS.out⟩
 case round =>
  clear HB3 HK3 HH3 hAW HJ3 HWS
  obtain ⟨j, pre, e, hjn, rfl, HPRE, HE, hj, HB, HK, HH, HAW, HWS⟩ := hrel
  by_cases hlt : j < n
  ·
   have hdk : decide ((j : Int) < (n : Int)) = true := by simp; omega
   have hdk' : decide (j < n) = true := by simp; omega
   obtain ⟨b0, o0, x, e2, hl0, x0, x1, hx, _, _⟩ := HH.out.at_ hlt
   have haw := HAW.out (by omega)
   have hqe := HQE.out (by omega)
   subst e2
   have haw2' : Away bl (some ⟨b0, o0, none⟩) wr := haw
   have haw2 := haw _ rfl
   have hqe2 := hqe _ rfl
   dsimp only at haw2 hqe2
   have i1 : (0 : Int) ≤ (j : Int) := by omega
   have i2 : (j : Int) < (n : Int) := by omega
   obtain ⟨q1, q2⟩ := HP.out wr HK.out
   have hmx := HAM.out x (List.mem_of_getElem? hx)
   have HMX := Lib.hid hmx
   have HX := Lib.hid hx
   have HJN := Lib.hid hlt
   obtain ⟨W1, hW1⟩ : ∃ X, X = wr.alloc (.cells #[.int .i64 x.1, .int .i64 x.2] 30) := ⟨_, rfl⟩
   have hb1 : RowKit.Below wr.heap.size wr W1 := by rw [hW1]; exact below_alloc _ _
   have hhb : W1.heap[wr.heap.size]? = some (.cells #[.int .i64 x.1, .int .i64 x.2] 30 (0, 0)) := by rw [hW1]; exact World.alloc_heap_new _ _
   have hpewr : pe < wr.heap.size := HB.out.lt
   have hpnl : pn < wr.heap.size := by have := HK.out.size; omega
   have hblr : bl < wr.heap.size := by have := HK.out.size; omega
   have hbg : ∀ d os, Calls Try.prog 43 #[.pointer (some ⟨N, 0, none⟩), .agg #[.int .i64 x.1, .int .i64 x.2]] (grow (redrawn W1 d) os) fun e w' => e = .returned (.int .i64 (bgG wss x)) ∧ RowKit.Below (grow (redrawn W1 d) os).heap.size (grow (redrawn W1 d) os) w' := fun d os => begin15_any N ln cl al wss x _ ((q2.below hb1).below (below_regrown W1 d os)) hmx
   have k1 : ∀ d os, (grow (redrawn W1 d) os).cell? ⟨pn, 0, none⟩ = some (.pointer (some ⟨N, 0, none⟩)) := cell_regrown ((hb1.cell (p := ⟨pn, 0, none⟩) hpnl).trans q1)
   have k2 : ∀ d os, (grow (redrawn W1 d) os).cell? ⟨pe, 0, none⟩ = some (.int .i64 e) := cell_regrown ((hb1.cell (p := ⟨pe, 0, none⟩) hpewr).trans HB.out.cell)
   have k3 : ∀ d os, (grow (redrawn W1 d) os).cell? ⟨wr.heap.size, 0, none⟩ = some (.int .i64 x.1) := cell_regrown (by simp [World.cell?, hhb])
   have k4 : ∀ d os, (grow (redrawn W1 d) os).cell? ⟨wr.heap.size, 1, none⟩ = some (.int .i64 x.2) := cell_regrown (by simp [World.cell?, hhb])
   obtain ⟨bg, hbge⟩ : ∃ b, bgG wss x = b := ⟨_, rfl⟩
   rw [hbge] at hbg
   have HBG := Lib.hid hbge
   obtain ⟨RR, hRR⟩ : ∃ R, decide (bg < e) = R := ⟨_, rfl⟩
   have HRR := Lib.hid hRR
   have HW1 := Lib.hid hW1
   have HHB := Lib.hid hhb
   have HB1 := Lib.hid hb1
   clear hx hmx hbge hW1 hhb hb1 haw hqe q1 q2 hlt
   gi_wp2
   rw [← HW1.out]
   clear x0 x1 HW1
   refine wpIn_wide.2 ?_
   refine wp_region_quiet_below mixed (by kernel_rfl) ?_
   iterate 2 (go_big_quiet_step (fail))
   go_big_quiet_step (exact grown_below (hbg _ _))
   iterate 2 (go_big_quiet_step (fail))
   refine wpQuiet_nil ?_
   rintro _ ⟨⟨dq, osq⟩, rfl⟩
   have hb2 := below_regrown W1 dq osq
   obtain ⟨W2, hW2⟩ : ∃ X, X = grow (redrawn W1 dq) osq := ⟨_, rfl⟩
   rw [← hW2] at hb2 ⊢
   have hbw2 : RowKit.Below wr.heap.size wr W2 := HB1.out.trans (hb2.mono HB1.out.size)
   have hj2 := abides_x hJ hj hbw2
   have HB2 : Hid (Boxed W2 pe 3 (.int .i64 e)) := (hbw2.block pe hpewr).trans HB.out
   have HK2 : Hid (KeepL bl pe w W2) := HK.out.body (KpL.of_below hbw2 hblr)
   have HHA2 := Lib.hid (KpL.hts (KpL.of_below hbw2 hblr) HH.out haw2')
   have HHB2 : Hid (W2.heap[wr.heap.size]? = some (.cells #[.int .i64 x.1, .int .i64 x.2] 30 (0, 0))) := (hb2.block _ (Array.getElem?_eq_some_iff.1 HHB.out).1).trans HHB.out
   have HWS2 : Hid (W.heap.size ≤ W2.heap.size) := Nat.le_trans HWS.out hbw2.size
   have hone := chG_one HPRE.out HX.out
   rw [HBG.out, ← HE.out] at hone
   clear hW2 hb2 hbg k1 k2 k3 k4 hbw2 hj
   clear hRR
   cases RR with
   | true =>
    have hlow : bg < e := by have h := HRR.out; simpa using h
    rw [if_pos hlow] at hone
    have HONE := Lib.hid hone
    clear hone hlow
    gi_wp2
    go_roundw
    case rel => exact ⟨j + 1, pre, e, HJN.out, by go_num, HONE.out.symm, HE, hj2, HB2, HK2, HHA2.out.1, fun _ => HHA2.out.2, HWS2⟩
    case measure =>
     have := HJN.out
     simp [intOf]
     omega
   | false =>
    have hlow : ¬ bg < e := by have h := HRR.out; simpa using h
    rw [if_neg hlow] at hone
    have HONE := Lib.hid hone
    clear hone hlow
    have f0 := HB2.out.cell
    have f1 := HB2.out.frozen
    have f2 := HB2.out.lt
    have g0 : W2.cell? ⟨wr.heap.size, 0, none⟩ = some (.int .i64 x.1) := by simp [World.cell?, HHB2.out]
    obtain ⟨W3, hW3⟩ : ∃ X, X = W2.setCell ⟨pe, 0, none⟩ (.int .i64 x.1) := ⟨_, rfl⟩
    have hB3 : Boxed W3 pe 3 (.int .i64 x.1) := by rw [hW3]; exact HB2.out.set _
    have hg3 : W2.grownBy W3 (some pe) := by
     rw [hW3]
     exact ⟨rfl, rfl, rfl, by simp, fun k _ hk => Below.heap_setCell W2 ⟨pe, 0, none⟩ _ k (fun e => hk (by rw [e]))⟩
    have hj3 : J pre W3 := by rw [hW3]; exact abides_xp hJ hj2 0 (.int .i64 x.1) rfl
    have hbl2 : bl < W2.heap.size := by have := HK2.out.size; omega
    have hK3 : KeepL bl pe w W3 := HK2.out.own hg3 d3 hbl2
    have hHB3 : W3.heap[wr.heap.size]? = some (.cells #[.int .i64 x.1, .int .i64 x.2] 30 (0, 0)) := (hg3.block _ (Array.getElem?_eq_some_iff.1 HHB2.out).1 (fun e => by have := Option.some.inj e; omega)).trans HHB2.out
    have hA3 : Away bl (some ⟨b0, o0, none⟩) W3 := by
     intro q hq
     obtain ⟨a1, a2, a3⟩ := HHA2.out.2 q hq
     refine ⟨a1, ?_, Nat.lt_of_lt_of_le a3 hg3.size⟩
     have e3 : rowAt bl W3 = rowAt bl W2 := by
      unfold rowAt
      rw [World.cell?_of_block (a := ⟨bl, 0, none⟩) (hg3.block bl hbl2 (fun e => d3 (Option.some.inj e)))]
     rw [e3]
     exact a2
    have hH3 : Hts W3 (some ⟨b0, o0, none⟩) n A := HHA2.out.1.keptB hg3.size (fun _ q hq => by
     cases hq
     exact hg3.block b0 (HHA2.out.2 _ rfl).2.2 (fun e => hqe2 (Option.some.inj e)))
    have hplen : pre.length < 1000001 := by
     have h1 := (chG_sub (wss := wss) e0 (A.take j)).length_le
     rw [HPRE.out]
     rw [List.length_take] at h1
     omega
    have hbl3 : bl < W3.heap.size := by have := hg3.size; omega
    obtain ⟨fn, tmps, assign, body, hyl, hRo⟩ := hY pre x W3 HMX.out hj3 hplen
    have y0 : W3.cell? ⟨wr.heap.size, 0, none⟩ = some (.int .i64 x.1) := by simp [World.cell?, hHB3]
    have y1 : W3.cell? ⟨wr.heap.size, 1, none⟩ = some (.int .i64 x.2) := by simp [World.cell?, hHB3]
    have HB3' := Lib.hid hB3
    have HK3' := Lib.hid hK3
    have HH3' := Lib.hid hH3
    have HA3' := Lib.hid hA3
    have HWS3 : Hid (W.heap.size ≤ W3.heap.size) := Nat.le_trans HWS2.out hg3.size
    have HPRF : Hid (∃ r, chG wss e0 (srtG wss l) = (pre ++ [x]) ++ r) := by
     rw [Hid, HAE.out, ← HONE.out]
     refine ⟨chG wss (endG e0 (chG wss e0 (A.take (j + 1)))) (A.drop (j + 1)), ?_⟩
     rw [← chG_app, List.take_append_drop]
    have HW3 := Lib.hid hW3
    dsimp only [htEnc] at hyl
    clear hB3 hg3 hj3 hK3 hHB3 hA3 hH3 hplen hW3 hj2
    rw [HW3.out] at hyl hRo y0 y1
    gi_wp2
    refine hRo.mono ?_
    rintro ee W4 (⟨rfl, hJ4, hk4⟩ | ⟨rfl, hJx4⟩)
    ·
     rw [← HW3.out] at hk4
     have hB4 : Boxed W4 pe 3 (.int .i64 x.1) := hk4.2.1 pe _ _ _ HB3'.out (Ne.symm d3) (fun e => by have := (HK3'.out.row _ e).1; omega)
     have HHA4 := Lib.hid (hk4.hts HH3'.out HA3'.out)
     have hK4 := HK3'.out.body hk4
     have HB4 := Lib.hid hB4
     have HK4 := Lib.hid hK4
     have HWS4 : Hid (W.heap.size ≤ W4.heap.size) := Nat.le_trans HWS3.out hk4.1
     clear hB4 hK4 hk4
     gi_wp2
     go_roundw
     case rel => exact ⟨j + 1, pre ++ [x], x.1, HJN.out, by go_num, HONE.out.symm, (endG_one e0 pre x).symm, hJ4, HB4, HK4, HHA4.out.1, fun _ => HHA4.out.2, HWS4⟩
     case measure =>
      have := HJN.out
      simp [intOf]
      omega
    ·
     gi_wp2
     refine bodyPost_ret (results_none rfl _ _ _) rfl ?_
     exact ⟨⟨_, rfl⟩, .inr ⟨_, HPRF.out, hJx4⟩⟩
  ·
   obtain rfl : j = n := by omega
   have hdk : decide ((j : Int) < (j : Int)) = false := by simp
   have HF : Hid (pre = chG wss e0 A) := by
    have h := HPRE.out
    rwa [List.take_of_length_le (by rw [HAL.out]; exact Nat.le_refl _)] at h
   clear hlt
   gi_wp2
   go_end0
   exact ⟨⟨_, rfl⟩, .inl ⟨pre, by rw [HAE.out]; exact HF.out, hj⟩⟩
theorem chosen15_stops (bl pl pn pe N n c ln cl : Nat) (al a : Option Addr) (e0 : Int) (wss : List (List Int)) (l : List HitP) (m : Nat) (w : World) (hbl : bl < w.heap.size) (hrow : ∀ r, rowAt bl w ≠ some r)
  (h1 : w.heap[pl]? = some (.cells #[.slice a n c] 25 (0, 0))) (h2 : w.heap[pn]? = some (.cells #[.pointer (some ⟨N, 0, none⟩)] 72 (0, 0))) (h3 : Boxed w pe 3 (.int .i64 e0))
  (hH : Hts w a n l) (hn : n ≤ 1000000) (hN : Ln w N al ln cl wss) (hm : ∀ x ∈ l, mayG wss x = true)
  (hd : bl ≠ pl ∧ bl ≠ pn ∧ bl ≠ pe ∧ pe ≠ pl ∧ pe ≠ pn) (hdN : N ≠ bl ∧ N ≠ pe) (hda : n ≠ 0 → ∀ q, a = some q → q.block ≠ bl ∧ q.block ≠ pe) (hdl : ln ≠ 0 → ∀ q, al = some q → q.block ≠ bl ∧ q.block ≠ pe) :
  SeqStopsX Fence.wide m Try.prog 39 #[.pointer (some ⟨pl, 0, none⟩), .pointer (some ⟨pn, 0, none⟩), .pointer (some ⟨pe, 0, none⟩)] htEnc (KpL bl) (fun r _ _ => r = pe) (fun hs _ => hs = chG wss e0 (srtG wss l)) (fun pre => ∃ r, chG wss e0 (srtG wss l) = pre ++ r) 1000001 w := fun lo J Jx W hb hJ hJx hY h0 => chosen15_stopsP bl pl pn pe N n c ln cl al a e0 wss l m w hbl hrow h1 h2 h3 hH hn hN hm hd hdN hda hdl lo J Jx W hb hJ hJx (fun pre x W1 _ hj hl => hY pre x W1 hj hl) h0
/-- The same, over hits that may be. -/
abbrev HitM (wss : List (List Int)) := { x : HitP // mayG wss x = true }
theorem chosen15_stopsM (bl pl pn pe N n c ln cl : Nat) (al a : Option Addr) (e0 : Int) (wss : List (List Int)) (l : List HitP) (m : Nat) (w : World) (hbl : bl < w.heap.size) (hrow : ∀ r, rowAt bl w ≠ some r)
  (h1 : w.heap[pl]? = some (.cells #[.slice a n c] 25 (0, 0))) (h2 : w.heap[pn]? = some (.cells #[.pointer (some ⟨N, 0, none⟩)] 72 (0, 0))) (h3 : Boxed w pe 3 (.int .i64 e0))
  (hH : Hts w a n l) (hn : n ≤ 1000000) (hN : Ln w N al ln cl wss) (hm : ∀ x ∈ l, mayG wss x = true)
  (hd : bl ≠ pl ∧ bl ≠ pn ∧ bl ≠ pe ∧ pe ≠ pl ∧ pe ≠ pn) (hdN : N ≠ bl ∧ N ≠ pe) (hda : n ≠ 0 → ∀ q, a = some q → q.block ≠ bl ∧ q.block ≠ pe) (hdl : ln ≠ 0 → ∀ q, al = some q → q.block ≠ bl ∧ q.block ≠ pe) :
  SeqStopsX Fence.wide m Try.prog 39 #[.pointer (some ⟨pl, 0, none⟩), .pointer (some ⟨pn, 0, none⟩), .pointer (some ⟨pe, 0, none⟩)] (fun x : HitM wss => htEnc x.1) (KpL bl) (fun r _ _ => r = pe) (fun hs _ => hs.map Subtype.val = chG wss e0 (srtG wss l)) (fun pre => ∃ r, chG wss e0 (srtG wss l) = pre.map Subtype.val ++ r) 1000001 w := by
 intro lo J Jx W hb hJ hJx hY h0
 have key := chosen15_stopsP bl pl pn pe N n c ln cl al a e0 wss l m w hbl hrow h1 h2 h3 hH hn hN hm hd hdN hda hdl lo (fun p V => ∃ q : List (HitM wss), q.map Subtype.val = p ∧ J q V) (fun p V => ∃ q : List (HitM wss), q.map Subtype.val = p ∧ Jx q V) W hb
  (fun s V V' row ⟨q, hq, hs⟩ hg hr => ⟨q, hq, hJ q V V' row hs hg hr⟩) (fun s V V' row ⟨q, hq, hs⟩ hg hr => ⟨q, hq, hJx q V V' row hs hg hr⟩)
  (fun pre x W1 hx ⟨q, hq, hj⟩ hl => by
   have h := hY q ⟨x, hx⟩ W1 hj (by rw [← hq, List.length_map] at hl; exact hl)
   refine h.mono ?_
   rintro e W' (⟨he, hj', hk⟩ | ⟨he, hj'⟩)
   · exact .inl ⟨he, ⟨_, by rw [List.map_append, hq]; rfl, hj'⟩, hk⟩
   · exact .inr ⟨he, ⟨_, by rw [List.map_append, hq]; rfl, hj'⟩⟩)
  ⟨[], rfl, h0⟩
 refine key.mono ?_
 rintro e W' ⟨hv, ⟨xs, hx, q, hq, hj⟩ | ⟨pre, ⟨r, hr⟩, q, hq, hj⟩⟩
 · exact ⟨hv, .inl ⟨q, by show q.map Subtype.val = _; rw [hq, hx], hj⟩⟩
 · exact ⟨hv, .inr ⟨q, ⟨r, by rw [hr, hq]⟩, hj⟩⟩
end Go.Proofs.Ytglfdclpjmhoiaa

/- Greedy (layer 15): what is chosen, gathered; words measured; walked. -/

namespace Go.Proofs.Ytglfdclpjmhoiaa
open Go.RowKit Go.Sort
attribute [local go_sem] Oper.semAt_some
attribute [local simp] wide_fn wide_depth
attribute [local go_sem] wide_fn wide_depth

set_option maxRecDepth 100000 in
set_option maxHeartbeats 8000000 in
theorem appendSeqC_any {gf : Nat} {lb : Array Value} {Pb : Nat → World → World → Prop} {S : List HitP → World → Prop} {Sp : List HitP → Prop} {N n₀ : Nat} (w : World)
  (eg : ∀ args w, (callFunc gf args).run Try.prog w = .ok (.enter gf args) w)
  (hps0 : ∀ W1, W1 = w.alloc (.cells #[.slice none 0 0] 25) → SeqStopsX Fence.wide 8 Try.prog gf lb htEnc (KpL w.heap.size) Pb S Sp N W1) (hPb : ∀ r W W', Pb r W W' → r < w.heap.size) (hSk : ∀ (xs : List HitP) (W : World) (l : Nat) (o o' : Obj), w.heap.size ≤ l → W.heap[l]? = some o → o.isCells = false → S xs W → S xs (W.putObj l o'))
  (hn0 : n₀ ≤ w.heap.size) (hPn : ∀ r W W', Pb r W W' → n₀ ≤ r) (hN : N ≤ 1000000000) (hSl : ∀ xs W, S xs W → xs.length ≤ 1000000000) :
  Calls Try.prog 38 #[.slice none 0 0, .func (.func gf) #[] lb] w fun e w' => ∃ v xs W, e = .returned v ∧ S xs W ∧ (∃ D, w.heap.size ≤ D ∧ w' = W.putObj D (.deferred none)) ∧ OwnH w' w.heap.size v xs ∧ Below n₀ w w' := by
 obtain ⟨i0, hi, hz0, hz1, hz2⟩ := info_parts hit_info
 obtain ⟨W1, hW⟩ : ∃ W, W = w.alloc (.cells #[.slice none 0 0] 25) := ⟨_, rfl⟩
 have hBw : Below w.heap.size w W1 := by rw [hW]; exact below_alloc _ _
 have bS : Boxed W1 w.heap.size 25 (.slice none 0 0) := by rw [hW]; exact Boxed.new _ _ _
 have hs1 : W1.heap.size = w.heap.size + 1 := by rw [hW]; simp
 have hps1 := hps0 W1 hW
 refine calls_of_wp_M Try.func38 rfl ?_
 simp only [Try.ntmps38, List.size_toArray, List.length_cons, List.length_nil, Nat.reduceAdd, Nat.reduceSub, Array.replicate_succ, Array.replicate_zero, List.push_toArray, List.append_toArray, List.nil_append, List.cons_append]
 go_upto_region 1 with fail
 rw [← hW]
 clear hW hps0
 go_wp2
 obtain ⟨g, hg⟩ : ∃ g, w.heap.size = g := ⟨_, rfl⟩
 rw [hg] at bS hs1 hBw hps1 hPb hSk hn0 ⊢
 have HG := Lib.hid hg
 apply rangeX rfl eg hps1 (fun r W W' hr => by have := hPb r W W' hr; omega) (fun xs W l o o' hl => hSk xs W l o o' (by omega)) KpL.t ?hKb (fun _ => rfl)
  (fun pre V => HoldsG g g pre V ∧ Below n₀ w V ∧ W1.heap.size ≤ V.heap.size)
  (fun _ _ _ => False)
 case hKb => exact KpL.b (by omega)
 case wA => exact fun x W => W.alloc (.cells #[.int .i64 x.1, .int .i64 x.2] 30)
 case hwA => exact fun x W => below_alloc _ _
 case hKg => exact fun x W hW => KpL.of_below (below_alloc _ _) (by omega)
 case hI => exact OwnsX.and (holdsG_owns (Nat.le_refl _) hPb id) (OwnsX.and (OwnsX.below (by omega) (by omega) hPn) (OwnsX.size _ _ _))
 case hIx => exact fun _ _ _ _ _ hs _ _ => hs
 case h0 => exact ⟨⟨_, bS, World.ownsRow_nil _ _ _ _⟩, hBw.mono hn0, Nat.le_refl _⟩
 case hassign =>
  intro l x W K hK
  unfold htEnc
  gi_wp2
  exact hK
 case hbody =>
  rintro l pre x Wb V hCE ⟨⟨v, hv, hown⟩, hBe, hsz⟩ hlen
  try dsimp only
  have hbx := hCE.2 Wb.heap.size _ _ _ (World.alloc_heap_new Wb (.cells #[.int .i64 x.1, .int .i64 x.2] 30))
  have k0 : V.cell? ⟨Wb.heap.size, 0, none⟩ = some (.int .i64 x.1) := by simp [World.cell?, hbx]
  have k1 : V.cell? ⟨Wb.heap.size, 1, none⟩ = some (.int .i64 x.2) := by simp [World.cell?, hbx]
  have k2 : Wb.heap.size < V.heap.size := (Array.getElem?_eq_some_iff.1 hbx).1
  obtain ⟨m, hm⟩ : ∃ m, pre.length = m := ⟨_, rfl⟩
  have hml : m ≤ 1000000001 := by omega
  unfold OwnH at hown
  rw [hm] at hown
  have HMM := Lib.hid hm
  clear hm
  obtain ⟨av, cv, rfl, hcv, hsl⟩ := SlK.own hown
  have c2 := hv.cell
  have hbl := hv.lt
  clear hbx
  gi_wp2_with (gi_at_builtin; refine wpListIn_append_slK _ rfl _ _ 25 rfl g 30 i0 (.agg #[.int .i64 0, .int .i64 0]) 2 16 Try.underlying25 hi hz0 hz1 hz2 rfl (by decide) _ _ _ rfl (hown.alloc _) (some ⟨V.heap.size, 0, none⟩) 1 1 [.int .i64 x.1, .int .i64 x.2] rfl (slkG_hit V x) (by simp [Value.oneCell']) (by unfold maxLen; omega) (by omega) (by simp; omega) ?_; intro v' w5 hown' hgrow hat; obtain ⟨g', cap', rfl⟩ := ownsRow_succ hown'; obtain ⟨b1, b2, b3, b4, b5⟩ := hv.appended (of_decide_eq_true (by kernel_rfl)) hown (by omega) (Nat.le_refl _) hown' hgrow; have d1 := b1.cell; have d2 := b1.frozen; have d3 := b1.lt; have hkp := kpl_append hv b1 hgrow hat hown')
  refine ⟨b4.from _, hkp, ⟨_, b2, ?_⟩, hBe.trans (b5.mono (by omega)), Nat.le_trans hsz (by have := b5.size; simpa using this)⟩
  ·
   unfold OwnH
   rw [List.length_append, HMM.out, hcells_append]
   exact b3
 case hstop => exact fun _ _ _ _ _ _ h _ => h.elim
 case hdone =>
  rintro D xs V hD hS ⟨⟨v, hv, hown⟩, hBe, hsz⟩ hD2
  have hxl := hSl xs V hS
  obtain ⟨m, hm⟩ : ∃ m, xs.length = m := ⟨_, rfl⟩
  unfold OwnH at hown
  rw [hm] at hown hxl
  have HMM := Lib.hid hm
  clear hm
  obtain ⟨av, cv, rfl, hcv, hsl⟩ := SlK.own hown
  have c2 := hv.cell
  have hrow := ownsRow_putObj hown (.deferred none) hD2 rfl
  have HS := Lib.hid hS
  clear hown hS
  go_wp2
  refine endM rfl hD2 (results_tmp rfl _ _ _) ⟨_, xs, V, rfl, HS.out, ⟨D, by omega, rfl⟩, ?_, put_below hBe (by omega) (by omega) _⟩
  unfold OwnH
  rw [HMM.out, HG.out]
  exact hrow

set_option maxRecDepth 100000 in
set_option maxHeartbeats 4000000 in
theorem collectC_any {gf : Nat} {lb : Array Value} {Pb : Nat → World → World → Prop} {S : List HitP → World → Prop} {Sp : List HitP → Prop} {N n₀ : Nat} (w : World)
  (eg : ∀ args w, (callFunc gf args).run Try.prog w = .ok (.enter gf args) w)
  (hps0 : ∀ W1, W1 = w.alloc (.cells #[.slice none 0 0] 25) → SeqStopsX Fence.wide 8 Try.prog gf lb htEnc (KpL w.heap.size) Pb S Sp N W1) (hPb : ∀ r W W', Pb r W W' → r < w.heap.size) (hSk : ∀ (xs : List HitP) (W : World) (l : Nat) (o o' : Obj), w.heap.size ≤ l → W.heap[l]? = some o → o.isCells = false → S xs W → S xs (W.putObj l o'))
  (hn0 : n₀ ≤ w.heap.size) (hPn : ∀ r W W', Pb r W W' → n₀ ≤ r) (hN : N ≤ 1000000000) (hSl : ∀ xs W, S xs W → xs.length ≤ 1000000000) :
  Calls Try.prog 26 #[.func (.func gf) #[] lb] w fun e w' => ∃ v xs W, e = .returned v ∧ S xs W ∧ (∃ D, w.heap.size ≤ D ∧ w' = W.putObj D (.deferred none)) ∧ OwnH w' w.heap.size v xs ∧ Below n₀ w w' := by
 have HC := Lib.hid (appendSeqC_any w eg hps0 hPb hSk hn0 hPn hN hSl)
 clear hps0 hPb hSk hPn hSl
 go_enter Try.func26, Try.ntmps26
 go_wp2_with fail
 refine HC.out.mono ?_
 rintro e w1 ⟨v, xs, W, rfl, hS, hD, hv, hb⟩
 go_wp2
 go_ret
 exact ⟨v, xs, W, rfl, hS, hD, hv, hb⟩
end Go.Proofs.Ytglfdclpjmhoiaa

/- Greedy (layer 15): what is chosen, gathered; words measured; walked. -/

namespace Go.Proofs.Ytglfdclpjmhoiaa
open Go.RowKit Go.Sort

theorem i64_infoG : (Try.prog.info? 3).map (fun i => (i.zero, i.size, i.bytes)) = some (some (.int .i64 0), 1, 8) := by kernel_rfl
theorem row_ltG {w : World} {base n size : Nat} {e : TypeId} {v : Value} {xs : List Value} (h : w.ownsRow base e size v n xs) : ∀ k, v.ownBlock = some k → base ≤ k ∧ k < w.heap.size := fun k hk => by
 rcases h.2 with ⟨rfl, _⟩ | ⟨g, cap, cur, rfl, hg, hh, _⟩
 · cases hk
 ·
  cases hk
  exact ⟨hg, (Array.getElem?_eq_some_iff.1 hh).1⟩
theorem slk_newG (W : World) (z : Int) : SlK 1 (W.alloc (.cells #[.int .i64 z] 3)) (some ⟨W.heap.size, 0, none⟩) 1 [.int .i64 z] :=
 ⟨rfl, .inr ⟨_, _, rfl, by simp, fun i u hu => by
  have := cells_new (w := W) #[.int .i64 z] 3 rfl i u (by simpa using hu)
  rwa [add_plain] at this⟩⟩
/-- What is chosen of hits that may be, gathered behind the call that lays the iterator. -/
theorem collectChosen_any (N n c ln cl : Nat) (al a : Option Addr) (e0 : Int) (wss : List (List Int)) (l : List HitP) (w W : World) (hW : W = ((w.alloc (.cells #[.pointer (some ⟨N, 0, none⟩)] 72)).alloc (.cells #[.int .i64 e0] 3)).alloc (.cells #[.slice a n c] 25))
  (hH : Hts w a n l) (hn : n ≤ 1000000) (hN : Ln w N al ln cl wss) (hm : ∀ x ∈ l, mayG wss x = true) :
  Calls Try.prog 26 #[.func (.func 39) #[] #[.pointer (some ⟨w.heap.size + 1 + 1, 0, none⟩), .pointer (some ⟨w.heap.size, 0, none⟩), .pointer (some ⟨w.heap.size + 1, 0, none⟩)]] W fun e w' => ∃ v, e = .returned v ∧ OwnH w' W.heap.size v (chG wss e0 (srtG wss l)) ∧ Below w.heap.size w w' := by
 have hs : W.heap.size = w.heap.size + 1 + 1 + 1 := by rw [hW]; simp
 have hB : Below w.heap.size w W := by rw [hW]; exact ((below_alloc _ _).alloc (by simp) _).alloc (by simp; omega) _
 have hO : Bx w.heap.size [.cells #[.pointer (some ⟨N, 0, none⟩)] 72, .cells #[.int .i64 e0] 3, .cells #[.slice a n c] 25] W := by rw [hW]; exact (((Bx.nil _ w).snoc _ rfl).snoc _ (by simp)).snoc _ (by simp)
 have hln : (chG wss e0 (srtG wss l)).length ≤ 1000000 := by
  have h1 := (chG_sub (wss := wss) e0 (srtG wss l)).length_le
  rw [(srtG_perm l).length_eq, hH.len] at h1
  omega
 have hblk : n ≠ 0 → ∀ q, a = some q → q.block < w.heap.size := fun h0 q hq => by
  obtain ⟨b, off, x, e, hlt, _⟩ := hH.at_ (k := 0) (by omega)
  rw [e] at hq
  cases hq
  exact hlt
 have hblk2 : ln ≠ 0 → ∀ q, al = some q → q.block < w.heap.size := fun h0 q hq => by
  obtain ⟨b, off, x, e, hlt, _⟩ := sl1_at hN.row (k := 0) (by omega)
  rw [e] at hq
  cases hq
  exact hlt
 have hNl := hN.lt
 refine (collectC_any W (enters_of Try.func39 (by kernel_rfl) rfl) (Pb := fun r _ _ => r = w.heap.size + 1) (S := fun hs _ => hs = chG wss e0 (srtG wss l)) (Sp := fun pre => ∃ r, chG wss e0 (srtG wss l) = pre ++ r) (N := 1000001) (n₀ := w.heap.size) ?_ (fun r _ _ h => by omega) (fun _ _ _ _ _ _ _ _ h => h) (by omega) (fun r _ _ h => by omega) (by omega) (fun xs _ h => by rw [h]; omega)).mono ?_
 ·
  intro W1 hW1
  have hB1 : Below W.heap.size W W1 := by rw [hW1]; exact below_alloc _ _
  have hO1 := hO.below hB1
  have hBB := hB.trans (hB1.mono hB.size)
  have hs1 : W1.heap.size = W.heap.size + 1 := by rw [hW1]; simp
  refine chosen15_stops W.heap.size (w.heap.size + 1 + 1) w.heap.size (w.heap.size + 1) N n c ln cl al a e0 wss l 8 W1 (by omega) ?_ (hO1 2 _ rfl) (hO1 0 _ rfl) (hO1 1 _ rfl) (hH.below hBB) hn (hN.below hBB) hm ⟨by omega, by omega, by omega, by omega, by omega⟩ ⟨by omega, by omega⟩ (fun h0 q hq => by have := hblk h0 q hq; omega) (fun h0 q hq => by have := hblk2 h0 q hq; omega)
  intro r hr
  have hx : W1.heap[W.heap.size]? = some (.cells #[.slice none 0 0] 25 (0, 0)) := by rw [hW1]; exact World.alloc_heap_new _ _
  unfold rowAt at hr
  simp [World.cell?, hx, Value.ownBlock] at hr
 ·
  rintro e w' ⟨v, xs, _, rfl, rfl, _, ho, hb⟩
  exact ⟨v, rfl, ho, hB.trans ((⟨hb.os, hb.tape, hb.output, hb.size, fun k hk => hb.block k hk⟩ : Below w.heap.size W w'))⟩
end Go.Proofs.Ytglfdclpjmhoiaa
