/- Parts of the proof, one behind the other: S2, S3, S4, S5, S6, S7, S8, D1, D2, D3, Ep. No condition but what each theorem states. -/
import Derived.Maps.Own
import Derived.Maps.OwnOps
import Derived.Maps.OwnIn
import Derived.Maps.Views
import Derived.DeepKeys5
import Derived.Lib.MinMax
import Derived.Lib.OwnKind
import Derived.Deep.AppendLies
import Derived.Deep.DrawnRows
import Derived.Deep.RegionHeld3
import Derived.Deep.RegionLaw
import Derived.Lib.SmallJoins
import Derived.Test.YtglfdclpjmhoiaaZG1
set_option linter.unusedVariables false

/- How many nodes words have (layer 5): walked to the code's own way to count. -/

namespace Go.Proofs.Ytglfdclpjmhoiaa
open Go.RowKit Go.Sort Go.Maps
attribute [local go_sem] Oper.semAt_some
attribute [local simp] wide_fn wide_depth
attribute [local go_sem] wide_fn wide_depth

theorem laidOut5 : laidOutB Try.prog = true := by kernel_rfl
theorem edge_law : Keyed Try.prog 128 := Keyed.of_law (deep_law_laid laidOut5 (m := Try.prog.types.size + 1) (of_decide_eq_true (by kernel_rfl)) (of_decide_eq_true (by kernel_rfl)) (by kernel_rfl) (by kernel_rfl))
theorem zero_int (w : World) : (zeroValue 3).run Try.prog w = .ok (.int .i64 0) w := by kernel_rfl
theorem ekey (n c : Int) (hn : -9223372036854775808 ≤ n ∧ n ≤ 9223372036854775807) (hc : 0 ≤ c ∧ c ≤ 255) : ∃ kl, keyOf Try.prog 128 (.agg #[.int .i64 n, .int .u8 c]) = some kl := by
 have hk : Try.prog.keyType 128 = true := by kernel_rfl
 have h0 : 0 < Try.prog.types.size := of_decide_eq_true (by kernel_rfl)
 obtain ⟨m, hm⟩ : ∃ m, Try.prog.types.size + 1 = m + 1 + 1 := ⟨Try.prog.types.size - 1, by omega⟩
 have e1 : Try.prog.cellsOf 128 = 2 := by kernel_rfl
 have e2 : Try.prog.cellsOf 3 = 1 := by kernel_rfl
 have e3 : Try.prog.cellsOf 5 = 1 := by kernel_rfl
 have w1 : (Lit.int .i64 n).wf = true := by simp [Lit.wf, IntKind.min, IntKind.max, IntKind.signed, IntKind.bits]; omega
 have w2 : (Lit.int .u8 c).wf = true := by simp [Lit.wf, IntKind.min, IntKind.max, IntKind.signed, IntKind.bits]; omega
 unfold keyOf
 rw [Try.underlying128, hm]
 refine ⟨.string (keyBytes [.int .i64 n, .int .u8 c]), ?_⟩
 simp [hk, Value.formed, Value.cells, Program.keyLits, Try.underlying128, Try.underlying3, Try.underlying5, e1, e2, e3, w1, w2]

/-- The map's reading against the code's own way to count. -/
def KM (D : DataW Unit) (f : Int × Int → Option Int) : Prop := IsMap D ∧ ∀ n c kl, 0 ≤ n → n ≤ 2000000 → 0 ≤ c → c ≤ 255 → keyOf Try.prog 128 (.agg #[.int .i64 n, .int .u8 c]) = some kl →
 Maps.has D kl = (f (n, c)).isSome ∧ ∀ m, f (n, c) = some m → D.atKey kl (.lit (.int .i64 0)) = .lit (.int .i64 m)
theorem KM.start : KM (.map []) (fun _ => none) := ⟨isMap_empty, fun n c kl _ _ _ _ _ => ⟨rfl, fun m h => by cases h⟩⟩
theorem KM.put {D : DataW Unit} {f : Int × Int → Option Int} (h : KM D f) {n c m : Int} {kl : Lit} (hk : keyOf Try.prog 128 (.agg #[.int .i64 n, .int .u8 c]) = some kl) :
  KM (D.put kl (.lit (.int .i64 m))) (fun q => if q = (n, c) then some m else f q) := by
 have hkk := edge_law.key hk
 refine ⟨h.1.put _ _, fun n' c' kl' a1 a2 a3 a4 hk' => ?_⟩
 by_cases e : kl' = kl
 ·
  subst e
  have := edge_law.inj hk' hk
  simp only [Value.agg.injEq, Array.mk.injEq, List.cons.injEq, Value.int.injEq, true_and, and_true] at this
  obtain ⟨rfl, rfl⟩ := this
  refine ⟨by rw [has_put_same h.1 hkk]; simp, fun k hm => ?_⟩
  simp only [if_true] at hm
  obtain rfl := Option.some.inj hm
  rw [atKey_put_same h.1 hkk]
 ·
  have hne : ¬ ((n', c') = (n, c)) := by
   intro e2
   simp only [Prod.mk.injEq] at e2
   obtain ⟨rfl, rfl⟩ := e2
   rw [hk] at hk'
   exact e (Option.some.inj hk').symm
  simp only [if_neg hne]
  obtain ⟨h1, h2⟩ := h.2 n' c' kl' a1 a2 a3 a4 hk'
  refine ⟨by rw [has_put_other e, h1], fun k hm => ?_⟩
  rw [atKey_put_other e, h2 k hm]

theorem km_own {W : World} {b n g : Nat} {D : DataW Unit} {P : Program} {k : TypeId} {R : Value → Option (DataW Unit × List MemPlace)} (h : W.ownsMap P k R b n D) (hne : b ≠ g) (u : Value) : (W.setCell ⟨g, 0, none⟩ u).ownsMap P k R b n D :=
 h.kept (grownBy_setCell' W g u) (fun e => hne (by injection e))
theorem km_from {B b : Nat} {P : Program} {k : TypeId} {R : Value → Option (DataW Unit × List MemPlace)} (hb : b < B) {β : Type} (f : β → Nat) (p : β → DataW Unit → Prop) : OwnFrom B (fun s W => ∃ D, W.ownsMap P k R b (f s) D ∧ p s D) :=
 fun s A C row ⟨D, h, hp⟩ hg hr => ⟨D, h.kept hg (fun e => by have := (hr _ e.symm).1; omega), hp⟩
theorem new_at {W : World} {k : Nat} (h : W.heap.size = k) (t : TypeId) (v : Value) : Boxed (W.alloc (.cells #[v] t)) k t v := h ▸ Boxed.new W t v
theorem grown_set (W : World) (g : Nat) (u : Value) : W.grownBy (W.setCell ⟨g, 0, none⟩ u) (some g) := grownBy_setCell' W g u
/-- Blocks n, n + 2 and n + 3 may have turned, and new ones been laid. -/
structure Tn (n : Nat) (W W' : World) : Prop where
 os : W'.os = W.os
 tape : W'.tape = W.tape
 output : W'.output = W.output
 size : W.heap.size ≤ W'.heap.size
 block : ∀ k, k < W.heap.size → k < n ∨ n + 1 + 1 + 1 < k ∨ k = n + 1 → W'.heap[k]? = W.heap[k]?
theorem Tn.refl (n : Nat) (W : World) : Tn n W W := ⟨rfl, rfl, rfl, Nat.le_refl _, fun _ _ _ => rfl⟩
theorem Tn.grown {n : Nat} {A B C : World} {row : Option Nat} (h : Tn n A B) (hg : B.grownBy C row) (hr : ∀ k, row = some k → k = n ∨ k = n + 1 + 1 ∨ k = n + 1 + 1 + 1) : Tn n A C :=
 ⟨hg.os.trans h.os, hg.tape.trans h.tape, hg.output.trans h.output, Nat.le_trans h.size hg.size, fun k hk ho => (hg.block k (Nat.lt_of_lt_of_le hk h.size) (fun e => by have := hr k e.symm; omega)).trans (h.block k hk ho)⟩
theorem Tn.below {n : Nat} {w A B : World} (h : Tn n A B) (hb : Below n w A) (hn : n ≤ A.heap.size) : Below n w B :=
 ⟨h.os.trans hb.os, h.tape.trans hb.tape, h.output.trans hb.output, Nat.le_trans hb.size h.size, fun k hk => (h.block k (Nat.lt_of_lt_of_le hk hn) (.inl hk)).trans (hb.block k hk)⟩
theorem Tn.keeps {n B : Nat} {A C : World} (h : Tn n A C) (hB : n + 1 + 1 + 1 < B) : KeepsFrom B A C :=
 ⟨h.size, fun k o hk ho _ => (h.block k (Array.getElem?_eq_some_iff.1 ho).1 (.inr (.inl (by omega)))).trans ho⟩

set_option maxRecDepth 100000 in
set_option maxHeartbeats 4000000 in
theorem nodes_any (fold : Bool) (a : Option Addr) (la ca : Nat) (wss : List (List Int)) (w : World) (hA : Wds w a la wss) (hla : la ≤ 1000000) (hM : ∀ x ∈ wss, x.length ≤ 1000000) (hT : (begL fold wss).length ≤ 1000000) :
    Calls Try.prog 76 #[.bool fold, .slice a la ca] w fun e w' => e = .returned (.int .i64 (nrun (begL fold wss)).many) ∧ Below w.heap.size w w' := by
  have hmm := @run_makeMap Try.prog
  refine calls_of_wp_M Try.func76 rfl ?_
  simp only [Try.ntmps76, List.size_toArray, List.length_cons, List.length_nil, Nat.reduceAdd, Nat.reduceSub, Array.replicate_succ, Array.replicate_zero, List.push_toArray, List.append_toArray, List.nil_append, List.cons_append]
  go_wp2_with (go_at_call 89; refine (beginnings_any _ _ _ _ _).mono ?_; rintro e w' ⟨rfl, rfl⟩)
  obtain ⟨W3, hW3⟩ : ∃ W3, W3 = ((((((w.alloc (.map #[] 0)).alloc (.cells #[.map (some w.heap.size)] 123)).alloc (.cells #[.int .i64 1] 3)).alloc (.cells #[.int .i64 0] 3)).alloc (.cells #[.bool fold] 4)).alloc (.cells #[.slice a la ca] 22)) := ⟨_, rfl⟩
  rw [← hW3]
  have m0 : W3.ownsMap Try.prog 128 (plainElem Try.prog 3) w.heap.size 0 (.map [] : DataW Unit) := by
    rw [hW3]
    exact (((((World.ownsMap_made w Try.prog 128 (plainElem Try.prog 3)).alloc _).alloc _).alloc _).alloc _).alloc _
  have b1 : Boxed W3 (w.heap.size + 1) 123 (.map (some w.heap.size)) := by
    rw [hW3]
    exact ((((new_at (by simp) _ _).alloc _).alloc _).alloc _).alloc _
  have b2 : Boxed W3 (w.heap.size + 1 + 1) 3 (.int .i64 1) := by
    rw [hW3]
    exact (((new_at (by simp) _ _).alloc _).alloc _).alloc _
  have b3 : Boxed W3 (w.heap.size + 1 + 1 + 1) 3 (.int .i64 0) := by
    rw [hW3]
    exact ((new_at (by simp) _ _).alloc _).alloc _
  have b4 : Boxed W3 (w.heap.size + 1 + 1 + 1 + 1) 4 (.bool fold) := by
    rw [hW3]
    exact (new_at (by simp) _ _).alloc _
  have b5 : Boxed W3 (w.heap.size + 1 + 1 + 1 + 1 + 1) 22 (.slice a la ca) := by
    rw [hW3]
    exact new_at (by simp) _ _
  have hB3 : Below w.heap.size w W3 := by
    rw [hW3]
    exact ((((((Below.refl _ _).alloc (Nat.le_refl _) _).alloc (by simp) _).alloc (by simp; omega) _).alloc (by simp; omega) _).alloc (by simp; omega) _).alloc (by simp; omega) _
  have hs3 : W3.heap.size = w.heap.size + 1 + 1 + 1 + 1 + 1 + 1 := by rw [hW3]; simp
  clear hW3
  apply rangeF rfl (enters_of Try.func97 (by kernel_rfl) rfl) (beg_stops fold a la ca (w.heap.size + 1 + 1 + 1 + 1 + 1) (w.heap.size + 1 + 1 + 1 + 1) wss 8 w W3 (fun k => k < w.heap.size ∨ k = w.heap.size + 1 + 1 + 1 + 1 + 1 ∨ k = w.heap.size + 1 + 1 + 1 + 1) hA hB3 (fun k hk => .inl hk) (.inr (.inl rfl)) (.inr (.inr rfl)) (by intro k hk; omega) hla hM b5 b4)
    keepOn_t (keepOn_b (by intro k hk; omega)) (fun _ => rfl)
    (fun pre W => Boxed W (w.heap.size + 1) 123 (.map (some w.heap.size)) ∧ Boxed W (w.heap.size + 1 + 1) 3 (.int .i64 (nrun (pre.map Subtype.val)).many) ∧ Boxed W (w.heap.size + 1 + 1 + 1) 3 (.int .i64 (nrun (pre.map Subtype.val)).node) ∧
      (∃ D : DataW Unit, W.ownsMap Try.prog 128 (plainElem Try.prog 3) w.heap.size pre.length D ∧ KM D (nrun (pre.map Subtype.val)).f) ∧ Below w.heap.size w W ∧ W3.heap.size ≤ W.heap.size)
    (fun _ _ _ => False)
  case hI => exact OwnFrom.and (Own.from (boxed_own _ _ _) _) (OwnFrom.and (Own.from (boxed_own _ _ _) _) (OwnFrom.and (Own.from (boxed_own _ _ _) _) (OwnFrom.and (km_from (by omega) _ (fun (pre : List BgP) D => KM D (nrun (pre.map Subtype.val)).f)) (OwnFrom.and (ownFrom_below (Nat.le_refl _) (by omega)) (own_size _ _)))))
  case hIx => exact fun _ _ _ _ _ hs _ _ => hs
  case h0 => exact ⟨b1, b2, b3, ⟨_, m0, KM.start⟩, hB3, Nat.le_refl _⟩
  case hassign =>
    intro l x W K hK
    unfold bgEnc
    gi_wp2
    exact hK
  case hbody =>
    rintro l pre ⟨⟨first, c⟩, hc0, hc1⟩ W ⟨hb1, hb2, hb3, ⟨D, hown, hkm⟩, hB, hs⟩ hlen
    dsimp only at hc0 hc1 ⊢
    obtain ⟨g1, g2, g3, g4, _⟩ := nrun_bd (pre.map Subtype.val)
    rw [List.length_map] at g2 g4
    have wfm : (Lit.int .i64 (nrun (pre.map Subtype.val)).many).wf = true := by simp [Lit.wf, IntKind.min, IntKind.max, IntKind.signed, IntKind.bits]; omega
    cases first with
      | true =>
        have hownV : (W.setCell ⟨w.heap.size + 1 + 1 + 1, 0, none⟩ (.int .i64 0)).ownsMap Try.prog 128 (plainElem Try.prog 3) w.heap.size pre.length D := km_own hown (by omega) _
        have hb1V : Boxed (W.setCell ⟨w.heap.size + 1 + 1 + 1, 0, none⟩ (.int .i64 0)) (w.heap.size + 1) 123 (.map (some w.heap.size)) := hb1.other (by omega) _
        have hb2V : Boxed (W.setCell ⟨w.heap.size + 1 + 1 + 1, 0, none⟩ (.int .i64 0)) (w.heap.size + 1 + 1) 3 (.int .i64 (nrun (pre.map Subtype.val)).many) := hb2.other (by omega) _
        have hb3V : Boxed (W.setCell ⟨w.heap.size + 1 + 1 + 1, 0, none⟩ (.int .i64 0)) (w.heap.size + 1 + 1 + 1) 3 (.int .i64 0) := hb3.set _
        have hgV : W.grownBy (W.setCell ⟨w.heap.size + 1 + 1 + 1, 0, none⟩ (.int .i64 0)) (some (w.heap.size + 1 + 1 + 1)) := grown_set _ _ _
        have hsV : W.heap.size ≤ (W.setCell ⟨w.heap.size + 1 + 1 + 1, 0, none⟩ (.int .i64 0)).heap.size := hgV.size
        have hcc := hc1
        obtain ⟨kl, hkl⟩ := ekey 0 c (by omega) ⟨hc0, hc1⟩
        obtain ⟨hhas, hat0⟩ := hkm.2 0 c kl (by omega) (by omega) hc0 hc1 hkl
        have q1 := hb1V.alloc (.cells #[.int .i64 0, .int .u8 c] 128)
        have q2 := hb2V.alloc (.cells #[.int .i64 0, .int .u8 c] 128)
        have q3 := hb3V.alloc (.cells #[.int .i64 0, .int .u8 c] 128)
        have hcb1 := hb1.cell
        have hc2 := hb2.cell
        have hc3 := hb3.cell
        have hf2 := hb2.frozen
        have hf3 := hb3.frozen
        have r1 := q1.cell
        have r2 := q2.cell
        have r3 := q3.cell
        have s2 := q2.frozen
        have s3 := q3.frozen
        have HST := Lib.hid (nrun_snoc (pre.map Subtype.val) (true, c))
        cases hf : (nrun (pre.map Subtype.val)).f (0, c) with
        | some m =>
          have HF := Lib.hid hf
          rw [hf] at hhas
          have hat1 := hat0 m hf
          clear hf hat0
          gi_wp2_with (gi_at_lookup; refine wpListIn_lookup_own_ok_int _ rfl _ _ 123 rfl 128 3 .i64 edge_law Try.underlying123 Try.underlying3 (zero_int _) w.heap.size pre.length D rfl (hownV.alloc _) _ kl rfl hkl ?_; intro c' hat hwc; rw [hhas])
          obtain rfl : c' = m := by
            have hh := hat.symm.trans hat1
            simpa using hh
          have HN : Hid (nrun ((pre ++ [(⟨(true, c), hc0, hcc⟩ : BgP)]).map Subtype.val) = { nrun (pre.map Subtype.val) with node := c' }) := by
            rw [List.map_append, List.map_cons, List.map_nil, HST.out, nstep_found (by simpa using HF.out)]
            rfl
          have T := (((Tn.refl w.heap.size W).grown hgV (fun k e => by first | (cases e; omega) | cases e)).grown (World.grownBy_alloc _ (.cells #[.int .i64 0, .int .u8 c] 128) none) (fun k e => by cases e)).grown (grown_set _ (w.heap.size + 1 + 1 + 1) (.int .i64 c')) (fun k e => by cases e; omega)
          refine ⟨T.keeps (by omega), fun k hk => T.block k (by omega) (by omega), ?_⟩
          dsimp only
          rw [HN.out]
          exact ⟨q1.other (by omega) _, q2.other (by omega) _, q3.set _, ⟨D, by rw [List.length_append]; exact (km_own (hownV.alloc _) (by omega) _).mono (Nat.le_succ _), hkm⟩, T.below hB (by omega), by have := T.size; omega⟩
        | none =>
          have HF := Lib.hid hf
          rw [hf] at hhas
          clear hf hat0
          gi_wp2_with (first
            | (gi_at_lookup; refine wpListIn_lookup_own_ok_int _ rfl _ _ 123 rfl 128 3 .i64 edge_law Try.underlying123 Try.underlying3 (zero_int _) w.heap.size pre.length D rfl (hownV.alloc _) _ kl rfl hkl ?_; intro c' hat hwc; rw [hhas])
            | (gi_at_mapUpdate; refine wpListIn_mapUpdate_own _ rfl _ _ _ 123 rfl 128 3 edge_law Try.underlying123 _ w.heap.size pre.length D rfl (hownV.alloc _) (by unfold maxLen; omega) _ _ kl rfl rfl hkl _ [] (plainElem_int Try.underlying3 wfm) ?_; intro w5 hown5 hgrow5
               have q1' := q1.kept hgrow5 (by intro e; injection e; omega)
               have q2' := q2.kept hgrow5 (by intro e; injection e; omega)
               have q3' := q3.kept hgrow5 (by intro e; injection e; omega)
               have t2 := q2'.cell
               have t3 := q3'.cell
               have u2 := q2'.frozen
               have u3 := q3'.frozen)
            | gi_in)
          have HN : Hid (nrun ((pre ++ [(⟨(true, c), hc0, hcc⟩ : BgP)]).map Subtype.val) = { f := fun q => if q = (0, c) then some (nrun (pre.map Subtype.val)).many else (nrun (pre.map Subtype.val)).f q, many := (nrun (pre.map Subtype.val)).many + 1, node := (nrun (pre.map Subtype.val)).many }) := by
            rw [List.map_append, List.map_cons, List.map_nil, HST.out, nstep_new (by simpa using HF.out)]
            rfl
          have T := (((((Tn.refl w.heap.size W).grown hgV (fun k e => by first | (cases e; omega) | cases e)).grown (World.grownBy_alloc _ (.cells #[.int .i64 0, .int .u8 c] 128) none) (fun k e => by cases e)).grown hgrow5 (fun k e => by cases e; omega)).grown (grown_set _ (w.heap.size + 1 + 1) (.int .i64 ((nrun (pre.map Subtype.val)).many + 1))) (fun k e => by cases e; omega)).grown (grown_set _ (w.heap.size + 1 + 1 + 1) (.int .i64 (nrun (pre.map Subtype.val)).many)) (fun k e => by cases e; omega)
          refine ⟨T.keeps (by omega), fun k hk => T.block k (by omega) (by omega), ?_⟩
          dsimp only
          rw [HN.out]
          exact ⟨(q1'.other (by omega) _).other (by omega) _, (q2'.set _).other (by omega) _, (q3'.other (by omega) _).set _, ⟨_, by rw [List.length_append]; exact km_own (km_own hown5 (by omega) _) (by omega) _, hkm.put hkl⟩, T.below hB (by omega), by have := T.size; omega⟩
      | false =>
        have hownV : W.ownsMap Try.prog 128 (plainElem Try.prog 3) w.heap.size pre.length D := hown
        have hb1V : Boxed W (w.heap.size + 1) 123 (.map (some w.heap.size)) := hb1
        have hb2V : Boxed W (w.heap.size + 1 + 1) 3 (.int .i64 (nrun (pre.map Subtype.val)).many) := hb2
        have hb3V : Boxed W (w.heap.size + 1 + 1 + 1) 3 (.int .i64 (nrun (pre.map Subtype.val)).node) := hb3
        have hgV : W.grownBy W (some (w.heap.size + 1 + 1 + 1)) := World.grownBy.refl W _
        have hsV : W.heap.size ≤ W.heap.size := hgV.size
        have hcc := hc1
        obtain ⟨kl, hkl⟩ := ekey (nrun (pre.map Subtype.val)).node c (by omega) ⟨hc0, hc1⟩
        obtain ⟨hhas, hat0⟩ := hkm.2 (nrun (pre.map Subtype.val)).node c kl (by omega) (by omega) hc0 hc1 hkl
        have q1 := hb1V.alloc (.cells #[.int .i64 (nrun (pre.map Subtype.val)).node, .int .u8 c] 128)
        have q2 := hb2V.alloc (.cells #[.int .i64 (nrun (pre.map Subtype.val)).node, .int .u8 c] 128)
        have q3 := hb3V.alloc (.cells #[.int .i64 (nrun (pre.map Subtype.val)).node, .int .u8 c] 128)
        have hcb1 := hb1.cell
        have hc2 := hb2.cell
        have hc3 := hb3.cell
        have hf2 := hb2.frozen
        have hf3 := hb3.frozen
        have r1 := q1.cell
        have r2 := q2.cell
        have r3 := q3.cell
        have s2 := q2.frozen
        have s3 := q3.frozen
        have HST := Lib.hid (nrun_snoc (pre.map Subtype.val) (false, c))
        cases hf : (nrun (pre.map Subtype.val)).f ((nrun (pre.map Subtype.val)).node, c) with
        | some m =>
          have HF := Lib.hid hf
          rw [hf] at hhas
          have hat1 := hat0 m hf
          clear hf hat0
          gi_wp2_with (gi_at_lookup; refine wpListIn_lookup_own_ok_int _ rfl _ _ 123 rfl 128 3 .i64 edge_law Try.underlying123 Try.underlying3 (zero_int _) w.heap.size pre.length D rfl (hownV.alloc _) _ kl rfl hkl ?_; intro c' hat hwc; rw [hhas])
          obtain rfl : c' = m := by
            have hh := hat.symm.trans hat1
            simpa using hh
          have HN : Hid (nrun ((pre ++ [(⟨(false, c), hc0, hcc⟩ : BgP)]).map Subtype.val) = { nrun (pre.map Subtype.val) with node := c' }) := by
            rw [List.map_append, List.map_cons, List.map_nil, HST.out, nstep_found (by simpa using HF.out)]
            rfl
          have T := (((Tn.refl w.heap.size W).grown hgV (fun k e => by first | (cases e; omega) | cases e)).grown (World.grownBy_alloc _ (.cells #[.int .i64 (nrun (pre.map Subtype.val)).node, .int .u8 c] 128) none) (fun k e => by cases e)).grown (grown_set _ (w.heap.size + 1 + 1 + 1) (.int .i64 c')) (fun k e => by cases e; omega)
          refine ⟨T.keeps (by omega), fun k hk => T.block k (by omega) (by omega), ?_⟩
          dsimp only
          rw [HN.out]
          exact ⟨q1.other (by omega) _, q2.other (by omega) _, q3.set _, ⟨D, by rw [List.length_append]; exact (km_own (hownV.alloc _) (by omega) _).mono (Nat.le_succ _), hkm⟩, T.below hB (by omega), by have := T.size; omega⟩
        | none =>
          have HF := Lib.hid hf
          rw [hf] at hhas
          clear hf hat0
          gi_wp2_with (first
            | (gi_at_lookup; refine wpListIn_lookup_own_ok_int _ rfl _ _ 123 rfl 128 3 .i64 edge_law Try.underlying123 Try.underlying3 (zero_int _) w.heap.size pre.length D rfl (hownV.alloc _) _ kl rfl hkl ?_; intro c' hat hwc; rw [hhas])
            | (gi_at_mapUpdate; refine wpListIn_mapUpdate_own _ rfl _ _ _ 123 rfl 128 3 edge_law Try.underlying123 _ w.heap.size pre.length D rfl (hownV.alloc _) (by unfold maxLen; omega) _ _ kl rfl rfl hkl _ [] (plainElem_int Try.underlying3 wfm) ?_; intro w5 hown5 hgrow5
               have q1' := q1.kept hgrow5 (by intro e; injection e; omega)
               have q2' := q2.kept hgrow5 (by intro e; injection e; omega)
               have q3' := q3.kept hgrow5 (by intro e; injection e; omega)
               have t2 := q2'.cell
               have t3 := q3'.cell
               have u2 := q2'.frozen
               have u3 := q3'.frozen)
            | gi_in)
          have HN : Hid (nrun ((pre ++ [(⟨(false, c), hc0, hcc⟩ : BgP)]).map Subtype.val) = { f := fun q => if q = ((nrun (pre.map Subtype.val)).node, c) then some (nrun (pre.map Subtype.val)).many else (nrun (pre.map Subtype.val)).f q, many := (nrun (pre.map Subtype.val)).many + 1, node := (nrun (pre.map Subtype.val)).many }) := by
            rw [List.map_append, List.map_cons, List.map_nil, HST.out, nstep_new (by simpa using HF.out)]
            rfl
          have T := (((((Tn.refl w.heap.size W).grown hgV (fun k e => by first | (cases e; omega) | cases e)).grown (World.grownBy_alloc _ (.cells #[.int .i64 (nrun (pre.map Subtype.val)).node, .int .u8 c] 128) none) (fun k e => by cases e)).grown hgrow5 (fun k e => by cases e; omega)).grown (grown_set _ (w.heap.size + 1 + 1) (.int .i64 ((nrun (pre.map Subtype.val)).many + 1))) (fun k e => by cases e; omega)).grown (grown_set _ (w.heap.size + 1 + 1 + 1) (.int .i64 (nrun (pre.map Subtype.val)).many)) (fun k e => by cases e; omega)
          refine ⟨T.keeps (by omega), fun k hk => T.block k (by omega) (by omega), ?_⟩
          dsimp only
          rw [HN.out]
          exact ⟨(q1'.other (by omega) _).other (by omega) _, (q2'.set _).other (by omega) _, (q3'.other (by omega) _).set _, ⟨_, by rw [List.length_append]; exact km_own (km_own hown5 (by omega) _) (by omega) _, hkm.put hkl⟩, T.below hB (by omega), by have := T.size; omega⟩
  case hdone =>
    rintro D xs W hD hS ⟨hb1, hb2, hb3, hm, hB, hs⟩ hK
    have hc2 := hb2.cell
    go_wp2
    refine endM rfl hK (results_tmp rfl _ _ _) ⟨?_, put_below hB (by omega) (Nat.le_refl _) _⟩
    rw [← hS]
    rfl
  case hstop => exact fun _ _ _ _ _ _ h _ => h.elim

end Go.Proofs.Ytglfdclpjmhoiaa

/- What there is of a list's words, and the errors that are asked (layer 5), walked. -/

namespace Go.Proofs.Ytglfdclpjmhoiaa
open Go.RowKit Go.Sort

/-- The list that is looked at, as it lies. -/
abbrev lookV (W Bs Lg Sh : Int) (f sl : Value) : Array Value := #[.int .i64 W, .int .i64 Bs, .int .i64 Lg, .int .i64 Sh, f, sl]
theorem look_cells {w : World} {b : Nat} {t : TypeId} {W Bs Lg Sh : Int} {f sl : Value} (h : w.heap[b]? = some (.cells (lookV W Bs Lg Sh f sl) t (0, 0))) :
  w.cell? ⟨b, 0, none⟩ = some (.int .i64 W) ∧ w.cell? ⟨b, 1, none⟩ = some (.int .i64 Bs) ∧ w.cell? ⟨b, 2, none⟩ = some (.int .i64 Lg) ∧ w.cell? ⟨b, 3, none⟩ = some (.int .i64 Sh) ∧ w.cell? ⟨b, 4, none⟩ = some f ∧ w.cell? ⟨b, 5, none⟩ = some sl ∧
  w.frozen? ⟨b, 0, none⟩ = false ∧ w.frozen? ⟨b, 1, none⟩ = false ∧ w.frozen? ⟨b, 2, none⟩ = false ∧ w.frozen? ⟨b, 3, none⟩ = false := by
 simp [World.cell?, World.frozen?, h]
theorem set_at {w : World} {b i : Nat} {cs : Array Value} {t : TypeId} (h : w.heap[b]? = some (.cells cs t (0, 0))) (u : Value) : (w.setCell ⟨b, i, none⟩ u).heap[b]? = some (.cells (cs.setIfInBounds i u) t (0, 0)) := by
 simp [World.setCell, Array.getElem?_modify, h]
theorem grown_set2 (W : World) (g i : Nat) (u : Value) : W.grownBy (W.setCell ⟨g, i, none⟩ u) (some g) :=
 ⟨rfl, rfl, rfl, by simp [World.setCell], fun k _ hne => Below.heap_setCell W ⟨g, i, none⟩ u k (by intro e; exact hne (by rw [e]))⟩

set_option maxHeartbeats 1000000 in
theorem count_any (b : Nat) (W Bs Lg Sh : Int) (f sl : Value) (a : Option Addr) (l c : Nat) (w : World) (hb : w.heap[b]? = some (.cells (lookV W Bs Lg Sh f sl) 98 (0, 0)))
  (h1 : 0 ≤ W) (h2 : W ≤ 1000000) (h3 : 0 ≤ Bs) (h4 : Bs ≤ 1000000000000) (h5 : l ≤ 1000000) :
  Calls Try.prog 63 #[.pointer (some ⟨b, 0, none⟩), .slice a l c] w fun e w' => (∃ v, e = .returned v) ∧
   w'.heap[b]? = some (.cells (lookV (W + 1) (Bs + l) (max Lg l) (if W = 0 ∨ (l : Int) < Sh then l else Sh) f sl) 98 (0, 0)) ∧ w.grownBy w' (some b) := by
 obtain ⟨c0, c1, c2, c3, c4, c5, f0, f1, f2, f3⟩ := look_cells hb
 obtain ⟨M, hM⟩ : ∃ M, (if W = 0 ∨ (l : Int) < Sh then (l : Int) else Sh) = M := ⟨_, rfl⟩
 have HM : Hid ((if W = 0 ∨ (l : Int) < Sh then (l : Int) else Sh) = M) := hM
 rw [hM]
 clear hM
 by_cases hW : W = 0
 ·
  subst hW
  obtain rfl : (l : Int) = M := by rw [← HM.out, if_pos (.inl rfl)]
  go_enter Try.func63, Try.ntmps63
  go_wp2
  go_end0
  refine ⟨⟨_, rfl⟩, ?_, (((grown_set2 _ _ _ _).trans (grown_set2 _ _ _ _)).trans (grown_set2 _ _ _ _)).trans (grown_set2 _ _ _ _)⟩
  simpa using set_at (i := 1) (set_at (i := 0) (set_at (i := 2) (set_at (i := 3) hb (.int .i64 l)) (.int .i64 (max Lg l))) (.int .i64 1)) (.int .i64 (Bs + l))
 ·
  by_cases hS : (l : Int) < Sh
  ·
   obtain rfl : (l : Int) = M := by rw [← HM.out, if_pos (.inr hS)]
   go_enter Try.func63, Try.ntmps63
   go_wp2
   go_end0
   refine ⟨⟨_, rfl⟩, ?_, (((grown_set2 _ _ _ _).trans (grown_set2 _ _ _ _)).trans (grown_set2 _ _ _ _)).trans (grown_set2 _ _ _ _)⟩
   simpa using set_at (i := 1) (set_at (i := 0) (set_at (i := 2) (set_at (i := 3) hb (.int .i64 l)) (.int .i64 (max Lg l))) (.int .i64 (W + 1))) (.int .i64 (Bs + l))
  ·
   obtain rfl : Sh = M := by rw [← HM.out, if_neg (by omega)]
   go_enter Try.func63, Try.ntmps63
   go_wp2
   go_end0
   refine ⟨⟨_, rfl⟩, ?_, ((grown_set2 _ _ _ _).trans (grown_set2 _ _ _ _)).trans (grown_set2 _ _ _ _)⟩
   simpa using set_at (i := 1) (set_at (i := 0) (set_at (i := 2) hb (.int .i64 (max Lg l))) (.int .i64 (W + 1))) (.int .i64 (Bs + l))

/-- The six questions. -/
def askFn : Nat → FuncId
 | 0 => 70
 | 1 => 71
 | 2 => 72
 | 3 => 73
 | 4 => 74
 | _ => 75
theorem askFn_enters (k : Nat) (args : Array Value) (w : World) : Sem.run Try.prog (callFunc (askFn k) args) w = .ok (.enter (askFn k) args) w := by
 unfold askFn
 split
 · exact enters_of Try.func70 (by kernel_rfl) rfl args w
 · exact enters_of Try.func71 (by kernel_rfl) rfl args w
 · exact enters_of Try.func72 (by kernel_rfl) rfl args w
 · exact enters_of Try.func73 (by kernel_rfl) rfl args w
 · exact enters_of Try.func74 (by kernel_rfl) rfl args w
 · exact enters_of Try.func75 (by kernel_rfl) rfl args w

section
variable (p b : Nat) (W Bs Lg Sh : Int) (fold : Bool) (a : Option Addr) (la ca : Nat) (w : World) (hp : Boxed w p 110 (.pointer (some ⟨b, 0, none⟩))) (hb : w.heap[b]? = some (.cells (lookV W Bs Lg Sh (.bool fold) (.slice a la ca)) 98 (0, 0)))
include hp hb
theorem ask1_any : Calls Try.prog 70 #[.pointer (some ⟨p, 0, none⟩)] w fun e w' => e = .returned (.bool (decide (W = 0))) ∧ w = w' := by
 have cp := hp.cell
 obtain ⟨c0, c1, c2, c3, c4, c5, f0, f1, f2, f3⟩ := look_cells hb
 go_enter Try.func70, Try.ntmps70
 go_wp2
 go_ret
 exact ⟨rfl, rfl⟩
theorem ask2_any : Calls Try.prog 71 #[.pointer (some ⟨p, 0, none⟩)] w fun e w' => e = .returned (.bool (decide (W > 64))) ∧ w = w' := by
 have cp := hp.cell
 obtain ⟨c0, c1, c2, c3, c4, c5, f0, f1, f2, f3⟩ := look_cells hb
 go_enter Try.func71, Try.ntmps71
 go_wp2
 go_ret
 exact ⟨rfl, rfl⟩
theorem ask3_any : Calls Try.prog 72 #[.pointer (some ⟨p, 0, none⟩)] w fun e w' => e = .returned (.bool (decide (Sh = 0))) ∧ w = w' := by
 have cp := hp.cell
 obtain ⟨c0, c1, c2, c3, c4, c5, f0, f1, f2, f3⟩ := look_cells hb
 go_enter Try.func72, Try.ntmps72
 go_wp2
 go_ret
 exact ⟨rfl, rfl⟩
theorem ask4_any : Calls Try.prog 73 #[.pointer (some ⟨p, 0, none⟩)] w fun e w' => e = .returned (.bool (decide (Lg > 32))) ∧ w = w' := by
 have cp := hp.cell
 obtain ⟨c0, c1, c2, c3, c4, c5, f0, f1, f2, f3⟩ := look_cells hb
 go_enter Try.func73, Try.ntmps73
 go_wp2
 go_ret
 exact ⟨rfl, rfl⟩
theorem ask5_any : Calls Try.prog 74 #[.pointer (some ⟨p, 0, none⟩)] w fun e w' => e = .returned (.bool (decide (Bs > 600))) ∧ w = w' := by
 have cp := hp.cell
 obtain ⟨c0, c1, c2, c3, c4, c5, f0, f1, f2, f3⟩ := look_cells hb
 go_enter Try.func74, Try.ntmps74
 go_wp2
 go_ret
 exact ⟨rfl, rfl⟩
theorem ask6_any (wss : List (List Int)) (hA : Wds w a la wss) (hla : la ≤ 1000000) (hM : ∀ x ∈ wss, x.length ≤ 1000000) (hT : (begL fold wss).length ≤ 1000000) :
  Calls Try.prog 75 #[.pointer (some ⟨p, 0, none⟩)] w fun e w' => e = .returned (.bool (decide ((nrun (begL fold wss)).many > 400))) ∧ Below w.heap.size w w' := by
 have cp := hp.cell
 obtain ⟨c0, c1, c2, c3, c4, c5, f0, f1, f2, f3⟩ := look_cells hb
 have kp := cell_regrown cp
 have k4 := cell_regrown c4
 have k5 := cell_regrown c5
 have cN : ∀ d os, Calls Try.prog 76 #[.bool fold, .slice a la ca] (grow (redrawn w d) os) fun e w'' => e = .returned (.int .i64 (nrun (begL fold wss)).many) ∧ ∃ p : Regrown, w'' = grow (redrawn w p.d) p.os :=
  fun d os => Calls.regrown_of (nodes_any fold a la ca wss _ (hA.below (below_regrown w d os)) hla hM hT)
 go_enter Try.func75, Try.ntmps75
 go_wp2
 refine wp_region_quiet_below mixed (by kernel_rfl) ?_
 repeat (go_big_quiet_step (exact cN _ _))
 refine wpQuiet_nil ?_
 rintro _ ⟨⟨dq, osq⟩, rfl⟩
 go_wp2
 go_ret
 exact ⟨rfl, below_regrown _ dq osq⟩
end

end Go.Proofs.Ytglfdclpjmhoiaa

/- Which error a list of words has (layer 5), walked. -/

namespace Go.Proofs.Ytglfdclpjmhoiaa
open Go.RowKit Go.Sort
attribute [local go_sem] run_store_fn

theorem ask_any (k p b : Nat) (W Bs Lg Sh : Int) (fold : Bool) (a : Option Addr) (la ca : Nat) (w : World) (hp : Boxed w p 110 (.pointer (some ⟨b, 0, none⟩))) (hb : w.heap[b]? = some (.cells (lookV W Bs Lg Sh (.bool fold) (.slice a la ca)) 98 (0, 0)))
  (wss : List (List Int)) (hA : Wds w a la wss) (hla : la ≤ 1000000) (hM : ∀ x ∈ wss, x.length ≤ 1000000) (hT : (begL fold wss).length ≤ 1000000) :
  Calls Try.prog (askFn k) #[.pointer (some ⟨p, 0, none⟩)] w fun e w' => e = .returned (.bool (askB W Bs Lg Sh (nrun (begL fold wss)).many k)) ∧ Below w.heap.size w w' := by
 have same : ∀ {f : FuncId} {v : Value}, Calls Try.prog f #[.pointer (some ⟨p, 0, none⟩)] w (fun e w' => e = .returned v ∧ w = w') → Calls Try.prog f #[.pointer (some ⟨p, 0, none⟩)] w (fun e w' => e = .returned v ∧ Below w.heap.size w w') :=
  fun h => h.mono fun e w' ⟨h1, h2⟩ => ⟨h1, by rw [← h2]; exact Below.refl _ _⟩
 match k with
 | 0 => exact same (ask1_any p b W Bs Lg Sh fold a la ca w hp hb)
 | 1 => exact same (ask2_any p b W Bs Lg Sh fold a la ca w hp hb)
 | 2 => exact same (ask3_any p b W Bs Lg Sh fold a la ca w hp hb)
 | 3 => exact same (ask4_any p b W Bs Lg Sh fold a la ca w hp hb)
 | 4 => exact same (ask5_any p b W Bs Lg Sh fold a la ca w hp hb)
 | _ + 5 => exact ask6_any p b W Bs Lg Sh fold a la ca w hp hb wss hA hla hM hT

def askCells (p : Nat) : Array Value := #[.int .i64 50, .func (.func (askFn 0)) #[] #[.pointer (some ⟨p, 0, none⟩)], .int .i64 51, .func (.func (askFn 1)) #[] #[.pointer (some ⟨p, 0, none⟩)], .int .i64 52, .func (.func (askFn 2)) #[] #[.pointer (some ⟨p, 0, none⟩)],
 .int .i64 53, .func (.func (askFn 3)) #[] #[.pointer (some ⟨p, 0, none⟩)], .int .i64 54, .func (.func (askFn 4)) #[] #[.pointer (some ⟨p, 0, none⟩)], .int .i64 55, .func (.func (askFn 5)) #[] #[.pointer (some ⟨p, 0, none⟩)]]

set_option maxHeartbeats 1000000 in
theorem asks_any (b : Nat) (w : World) :
  Calls Try.prog 64 #[.pointer (some ⟨b, 0, none⟩)] w fun e w' => e = .returned (.slice (some ⟨w.heap.size + 1, 0, none⟩) 6 6) ∧
   w' = (w.alloc (.cells #[.pointer (some ⟨b, 0, none⟩)] 110)).alloc (.cells (askCells w.heap.size) 103) := by
 go_enter Try.func64, Try.ntmps64
 go_wp2
 go_ret
 exact ⟨rfl, rfl⟩

theorem ask_cells {w : World} {sb p : Nat} (h : w.heap[sb]? = some (.cells (askCells p) 103 (0, 0))) {k : Nat} (hk : k < 6) :
  w.cell? ⟨sb, k * 2, none⟩ = some (.int .i64 (50 + k)) ∧ w.cell? ⟨sb, k * 2 + 1, none⟩ = some (.func (.func (askFn k)) #[] #[.pointer (some ⟨p, 0, none⟩)]) := by
 have : k = 0 ∨ k = 1 ∨ k = 2 ∨ k = 3 ∨ k = 4 ∨ k = 5 := by omega
 rcases this with rfl | rfl | rfl | rfl | rfl | rfl <;> simp [World.cell?, h, askCells]

set_option maxHeartbeats 4000000 in
theorem check_any (fold : Bool) (a : Option Addr) (la ca : Nat) (wss : List (List Int)) (w : World) (hA : Wds w a la wss) (hla : la ≤ 1000000) (hM : ∀ x ∈ wss, x.length ≤ 1000000) (hT : (begL fold wss).length ≤ 1000000) :
  Calls Try.prog 52 #[.bool fold, .slice a la ca] w fun e w' => e = .returned (.int .i64 (checkP fold wss)) ∧ Below w.heap.size w w' := by
 have HL := Lib.hid hA.len
 go_enter Try.func52, Try.ntmps52
 go_wp2
 go_loopw [15] (fun i wr => ∃ k : Nat, k ≤ la ∧ i = .int .i64 k ∧ Below w.heap.size w wr ∧ wr.heap[w.heap.size]? = some (.cells (lookV (cnt (wss.take k)).1 (cnt (wss.take k)).2.1 (cnt (wss.take k)).2.2.1 (cnt (wss.take k)).2.2.2 (.bool fold) (.slice a la ca)) 98 (0, 0))) (fun i _ => la - (intOf i).toNat)
 case atStart => exact ⟨0, Nat.zero_le _, rfl, (Below.refl _ _).alloc (Nat.le_refl _) _, World.alloc_heap_new _ _⟩
 case round =>
  obtain ⟨k, hk, rfl, hBe, hlk⟩ := hrel
  by_cases hlt : k < la
  ·
   obtain ⟨bb, off, a', l, c, x, rfl, hbl, hcell, hx, hX, hlc⟩ := (hA.below hBe).at_ hlt
   have hxl : l ≤ 1000000 := by have := mem_bd hM hx; rw [hX.len] at this; exact this
   obtain ⟨g1, g2, g3⟩ := cnt_bd (M := 1000000) (wss.take k) (fun y hy => hM y (List.mem_of_mem_take hy))
   have hkl : ((wss.take k).length : Int) = k := by rw [List.length_take, HL.out]; omega
   rw [hkl] at g1 g3
   have HX := Lib.hid hx
   have HC := Lib.hid hX.len
   clear hx hkl
   go_wp2_with fail
   refine (count_any w.heap.size _ _ _ _ (.bool fold) (.slice (some ⟨bb, off, none⟩) la ca) a' l c wr hlk (by omega) (by omega) g2 (by omega) hxl).mono ?_
   rintro e w1 ⟨⟨v, rfl⟩, hlk1, hg1⟩
   have hB1 : Below w.heap.size w w1 := hBe.grown hg1 (by have := hBe.size; omega) (fun k e => by cases e; exact Nat.le_refl _)
   have HN : Hid (cnt (wss.take (k + 1)) = cstep (cnt (wss.take k)) x) := by rw [take_step HX.out, cnt_snoc]; rfl
   go_wp2
   go_roundw
   case rel =>
    refine ⟨k + 1, by omega, by go_num, hB1, ?_⟩
    rw [HN.out]
    simp only [cstep, HC.out]
    exact hlk1
   case measure => simp [intOf]; omega
  ·
   obtain rfl : k = la := by omega
   have hfull : wss.take k = wss := List.take_of_length_le (by have := HL.out; omega)
   rw [hfull] at hlk
   clear hfull
   have hsz1 : w.heap.size < wr.heap.size := (Array.getElem?_eq_some_iff.1 hlk).1
   have hAr := hA.below hBe
   go_wp2_with (go_at_call 64; refine (asks_any _ _).mono ?_; rintro e w' ⟨rfl, rfl⟩)
   obtain ⟨W2, hW2⟩ : ∃ W2, W2 = (wr.alloc (.cells #[.pointer (some ⟨w.heap.size, 0, none⟩)] 110)).alloc (.cells (askCells wr.heap.size) 103) := ⟨_, rfl⟩
   have hB2 : Below w.heap.size w W2 := by rw [hW2]; exact (hBe.alloc (by omega) _).alloc (by simp; omega) _
   have hBx : Below wr.heap.size wr W2 := by rw [hW2]; exact ((Below.refl _ _).alloc (Nat.le_refl _) _).alloc (by simp) _
   have hp2 : Boxed W2 wr.heap.size 110 (.pointer (some ⟨w.heap.size, 0, none⟩)) := by rw [hW2]; exact (Boxed.new _ _ _).alloc _
   have hs2 : W2.heap[wr.heap.size + 1]? = some (.cells (askCells wr.heap.size) 103 (0, 0)) := by
    rw [hW2]
    have := World.alloc_heap_new (wr.alloc (.cells #[.pointer (some ⟨w.heap.size, 0, none⟩)] 110)) (.cells (askCells wr.heap.size) 103)
    rwa [World.size_alloc] at this
   have hlk2 : W2.heap[w.heap.size]? = _ := (hBx.block _ hsz1).trans hlk
   have hA2 := hAr.below hBx
   have hz2 : W2.heap.size = wr.heap.size + 2 := by rw [hW2]; simp
   rw [← hW2]
   clear hW2 hBx hAr
   obtain ⟨pb, hpb⟩ : ∃ pb, wr.heap.size = pb := ⟨_, rfl⟩
   rw [hpb] at hp2 hs2 hz2 ⊢
   clear hpb
   go_loopw [25] (fun i wq => ∃ j : Nat, j ≤ 6 ∧ i = .int .i64 j ∧ Below W2.heap.size W2 wq ∧ Hid (∀ n, n < j → askB (cnt wss).1 (cnt wss).2.1 (cnt wss).2.2.1 (cnt wss).2.2.2 (nrun (begL fold wss)).many n = false)) (fun i _ => 6 - (intOf i).toNat)
   case atStart => exact ⟨0, by omega, rfl, Below.refl _ _, fun n hn => by omega⟩
   case round =>
    obtain ⟨j, hj, rfl, hBq, HJ⟩ := hrel
    have hBw : Below w.heap.size w wr := hB2.trans (hBq.mono hB2.size)
    by_cases hj6 : j < 6
    ·
     obtain ⟨d0, d1⟩ := ask_cells ((hBq.block _ (Array.getElem?_eq_some_iff.1 hs2).1).trans hs2) hj6
     have he := askFn_enters j
     go_wp2_with fail
     have hpq : Boxed wr pb 110 (.pointer (some ⟨w.heap.size, 0, none⟩)) := (hBq.block _ hp2.lt).trans hp2
     have hlq : wr.heap[w.heap.size]? = _ := (hBq.block _ (Array.getElem?_eq_some_iff.1 hlk2).1).trans hlk2
     have hnew := World.alloc_heap_new wr (.cells #[.int .i64 (50 + (j : Int)), .func (.func (askFn j)) #[] #[.pointer (some ⟨pb, 0, none⟩)]] 103)
     refine (ask_any j pb w.heap.size _ _ _ _ fold a k ca _ (hpq.alloc _) ((Below.heap_alloc _ _ _ (Array.getElem?_eq_some_iff.1 hlq).1).trans hlq) wss ((hA2.below hBq).below ((Below.refl _ _).alloc (Nat.le_refl _) _)) hla hM hT).mono ?_
     rintro e w5 ⟨rfl, hb5⟩
     have hB5 : Below W2.heap.size W2 w5 := (hBq.alloc hBq.size _).trans (hb5.mono (by have := hBq.size; simp; omega))
     have hB5w : Below w.heap.size w w5 := hB2.trans (hB5.mono hB2.size)
     have hn5 : w5.heap[wr.heap.size]? = _ := (hb5.block _ (Array.getElem?_eq_some_iff.1 hnew).1).trans hnew
     have q0 : w5.cell? ⟨wr.heap.size, 0, none⟩ = some (.int .i64 (50 + (j : Int))) := by simp [World.cell?, hn5]
     cases e : askB (cnt wss).1 (cnt wss).2.1 (cnt wss).2.2.1 (cnt wss).2.2.2 (nrun (begL fold wss)).many j with
     | true =>
      have HC : Hid (checkP fold wss = 50 + (j : Int)) := firstAsk_hit hj6 HJ e
      go_wp2
      go_ret
      exact ⟨by rw [HC.out]; rfl, hB5w⟩
     | false =>
      have HJ2 : Hid (∀ n, n < j + 1 → askB (cnt wss).1 (cnt wss).2.1 (cnt wss).2.2.1 (cnt wss).2.2.2 (nrun (begL fold wss)).many n = false) := by
       intro n hn
       by_cases h : n = j
       · rw [h]; exact e
       · exact HJ n (by omega)
      go_wp2
      go_roundw
      case rel => exact ⟨j + 1, by omega, by go_num, hB5, HJ2⟩
      case measure => simp [intOf]; omega
    ·
     obtain rfl : j = 6 := by omega
     have HC : Hid (checkP fold wss = 0) := firstAsk_none HJ
     go_wp2
     go_ret
     exact ⟨by rw [HC.out]; rfl, hBw⟩

end Go.Proofs.Ytglfdclpjmhoiaa

/- A word's number, two sets that are the same (layer 5), walked. -/

namespace Go.Proofs.Ytglfdclpjmhoiaa
open Go.RowKit Go.Sort

abbrev setV (fold : Bool) (a : Option Addr) (la ca : Nat) : Array Value := #[.bool fold, .slice a la ca]

set_option maxHeartbeats 1000000 in
theorem number_any (fold : Bool) (a b : Option Addr) (la ca lb cb : Nat) (xs : List Int) (wss : List (List Int)) (w : World) (hA : Bys w a la xs) (hB : Wds w b lb wss) (hlb : lb ≤ 1000000) (hM : ∀ x ∈ wss, x.length ≤ 1000000) :
  Calls Try.prog 53 #[.agg (setV fold b lb cb), .slice a la ca] w fun e w' => e = .returned (.tuple #[.int .i64 (if whichL fold xs wss < 0 then 0 else whichL fold xs wss), .bool (decide (0 ≤ whichL fold xs wss))]) ∧ Below w.heap.size w w' := by
 have hbd := whichL_bd fold xs wss
 have hA1 := hA.below ((Below.refl _ _).alloc (Nat.le_refl _) (.cells (setV fold b lb cb) 24))
 have hB1 := hB.below ((Below.refl _ _).alloc (Nat.le_refl _) (.cells (setV fold b lb cb) 24))
 obtain ⟨n, hn⟩ : ∃ n, whichL fold xs wss = n := ⟨_, rfl⟩
 have HN : Hid (whichL fold xs wss = n) := hn
 rw [hn] at hbd ⊢
 clear hn
 have hBz : ∀ w1, Below (w.alloc (.cells (setV fold b lb cb) 24)).heap.size (w.alloc (.cells (setV fold b lb cb) 24)) w1 → Below w.heap.size w w1 := fun w1 hb => ((Below.refl _ _).alloc (Nat.le_refl _) _).trans (hb.mono (by simp))
 by_cases h : n < 0
 ·
  rw [if_pos h, decide_eq_false (by omega)]
  go_enter Try.func53, Try.ntmps53
  go_wp2_with fail
  refine (which_any fold a b la ca lb cb xs wss _ hA1 hB1 hlb hM).mono ?_
  rintro e w1 ⟨rfl, hb⟩
  rw [HN.out]
  go_wp2
  go_ret2
  exact ⟨rfl, hBz _ hb⟩
 ·
  rw [if_neg h, decide_eq_true (by omega)]
  go_enter Try.func53, Try.ntmps53
  go_wp2_with fail
  refine (which_any fold a b la ca lb cb xs wss _ hA1 hB1 hlb hM).mono ?_
  rintro e w1 ⟨rfl, hb⟩
  rw [HN.out]
  go_wp2
  go_ret2
  exact ⟨rfl, hBz _ hb⟩

theorem equal_any (a b : Option Addr) (la ca lb cb : Nat) (xs ys : List Int) (w : World) (hA : Bys w a la xs) (hB : Bys w b lb ys) :
  Calls Try.prog 55 #[.slice a la ca, .slice b lb cb] w fun e w' => e = .returned (.bool (decide (xs = ys))) ∧ w = w' := by
 have c1 := conv_bys hA
 have c2 := conv_bys hB
 go_enter Try.func55, Try.ntmps55
 go_wp2
 go_ret
 refine ⟨?_, rfl⟩
 show Ending.returned (.bool ((strOfNums xs).toList == (strOfNums ys).toList)) = _
 rw [str_beq hA.2 hB.2]

/-- Two sets that are the same: lists of the same words. -/
def sameS (f g : Bool) (wss vss : List (List Int)) : Bool := f == g && decide (wss = vss)
theorem sameS_no {f g : Bool} {wss vss : List (List Int)} (h : f ≠ g ∨ wss.length ≠ vss.length) : sameS f g wss vss = false := by
 rcases h with h | h
 · cases f <;> cases g <;> simp_all [sameS]
 ·
  have : wss ≠ vss := fun e => h (by rw [e])
  simp [sameS, this]

set_option maxHeartbeats 1000000 in
theorem sames_any (f g : Bool) (a b : Option Addr) (la ca lb cb : Nat) (wss vss : List (List Int)) (w : World) (hA : Wds w a la wss) (hB : Wds w b lb vss) (hla : la ≤ 1000000) :
  Calls Try.prog 36 #[.agg (setV f a la ca), .agg (setV g b lb cb)] w fun e w' => e = .returned (.bool (sameS f g wss vss)) ∧ Below w.heap.size w w' := by
 have hBx : Below w.heap.size w ((w.alloc (.cells (setV f a la ca) 24)).alloc (.cells (setV g b lb cb) 24)) := ((Below.refl _ _).alloc (Nat.le_refl _) _).alloc (by simp) _
 have HA := Lib.hid hA.len
 have HB := Lib.hid hB.len
 by_cases hfg : f = g
 ·
  subst hfg
  by_cases hl : la = lb
  ·
   subst hl
   have hA1 := hA.below hBx
   have hB1 := hB.below hBx
   clear hA hB
   go_enter Try.func36, Try.ntmps36
   go_wp2
   go_loop [24] (fun i => ∃ k : Nat, k ≤ la ∧ i = .int .i64 k ∧ Hid (wss.take k = vss.take k)) (fun i => la - (intOf i).toNat)
   case atStart => exact ⟨0, Nat.zero_le _, rfl, by simp [Hid]⟩
   case round =>
    obtain ⟨k, hk, rfl, HK⟩ := hrel
    by_cases hlt : k < la
    ·
     obtain ⟨bb, off, a', l, c, x, rfl, hbl, hcell, hx, hX, hlc⟩ := hA1.at_ hlt
     obtain ⟨bb2, off2, a2, l2, c2, y, rfl, hbl2, hcell2, hy, hY, hlc2⟩ := hB1.at_ hlt
     go_wp2_with fail
     refine (equal_any a' a2 l c l2 c2 x y _ hX hY).mono ?_
     rintro e w1 ⟨rfl, rfl⟩
     have HX := Lib.hid hx
     have HY := Lib.hid hy
     clear hx hy
     by_cases h : x = y
     ·
      rw [decide_eq_true h]
      have HS : Hid (wss.take (k + 1) = vss.take (k + 1)) := by rw [take_step HX.out, take_step HY.out, HK.out, h]; rfl
      clear h
      go_wp2
      go_round
      case rel => exact ⟨k + 1, by omega, by go_num, HS⟩
      case measure => simp [intOf]; omega
     ·
      rw [decide_eq_false h]
      have HS : Hid (sameS f f wss vss = false) := by
       have : wss ≠ vss := fun e => by
        have h1 := HX.out
        rw [e, HY.out] at h1
        exact h (Option.some.inj h1).symm
       simp [Hid, sameS, this]
      clear h
      go_wp2
      go_ret
      exact ⟨by rw [HS.out]; rfl, hBx⟩
    ·
     obtain rfl : k = la := by omega
     have HS : Hid (sameS f f wss vss = true) := by
      have h := HK.out
      rw [List.take_of_length_le (by rw [HA.out]; exact Nat.le_refl _), List.take_of_length_le (by rw [HB.out]; exact Nat.le_refl _)] at h
      simp [Hid, sameS, h]
     go_wp2
     go_ret
     exact ⟨by rw [HS.out]; rfl, hBx⟩
  ·
   have HS : Hid (sameS f f wss vss = false) := sameS_no (.inr (by rw [HA.out, HB.out]; exact hl))
   have hne : ((la : Int) != (lb : Int)) = true := by simp; omega
   go_enter Try.func36, Try.ntmps36
   go_wp2
   all_goals
    go_ret
    exact ⟨by rw [HS.out]; rfl, hBx⟩
 ·
  have HS : Hid (sameS f g wss vss = false) := sameS_no (.inl hfg)
  have hne : (f != g) = true := by simp [hfg]
  go_enter Try.func36, Try.ntmps36
  go_wp2
  all_goals
   go_ret
   exact ⟨by rw [HS.out]; rfl, hBx⟩

end Go.Proofs.Ytglfdclpjmhoiaa

/- A row of texts that the call makes, each in memory of its own. -/

namespace Go.Proofs.Ytglfdclpjmhoiaa
open Go.RowKit Go.Sort

theorem own_far {w : World} {B size n g : Nat} {e t : TypeId} {v : Value} {xs : List Value} {cs : Array Value} {fz : Nat × Nat} (h : w.ownsRow B e size v n xs) (hg : w.heap[g]? = some (.cells cs t fz)) (hne : t ≠ e) : v.ownBlock ≠ some g := by
 intro hv
 obtain ⟨c, f, hc⟩ := Lib.ownsRow_kind h g hv
 rw [hc] at hg
 injection hg with hg
 injection hg with _ ht
 exact hne ht.symm
theorem own_below_ {w w' : World} {B size n : Nat} {e : TypeId} {v : Value} {xs : List Value} (h : w.ownsRow B e size v n xs) (hb : Below w.heap.size w w') : w'.ownsRow B e size v n xs :=
 h.kept (row := none) (grownBy_of_below hb) (by cases v.ownBlock <;> simp)

/-- A row of texts that the call made. -/
def OwnW (w : World) (base : Nat) (v : Value) (wss : List (List Int)) : Prop :=
 ∃ es : List Value, w.ownsRow base 62 1 v wss.length es ∧ es.length = wss.length ∧ ∀ (i : Nat) (e : Value) (xs : List Int), es[i]? = some e → wss[i]? = some xs → OwnB w base e xs.length xs ∧ ∀ x ∈ xs, 0 ≤ x ∧ x ≤ 255
theorem OwnW.nil (w : World) (base : Nat) : OwnW w base (.slice none 0 0) [] := ⟨[], World.ownsRow_nil _ _ _ _, rfl, fun i e xs h => by simp at h⟩
theorem OwnW.below {w w' : World} {base : Nat} {v : Value} {wss : List (List Int)} (h : OwnW w base v wss) (hb : Below w.heap.size w w') : OwnW w' base v wss := by
 obtain ⟨es, h1, h2, h3⟩ := h
 exact ⟨es, own_below_ h1 hb, h2, fun i e xs he hx => ⟨own_below_ (h3 i e xs he hx).1 hb, (h3 i e xs he hx).2⟩⟩
/-- .. a store into a block of another kind leaves it. -/
theorem OwnW.turned {w w' : World} {base g : Nat} {v : Value} {wss : List (List Int)} {cs : Array Value} {t : TypeId} {fz : Nat × Nat} (h : OwnW w base v wss) (hb : w.grownBy w' (some g)) (hg : w.heap[g]? = some (.cells cs t fz)) (h1 : t ≠ 62) (h2 : t ≠ 5) : OwnW w' base v wss := by
 obtain ⟨es, e1, e2, e3⟩ := h
 exact ⟨es, e1.kept hb (.inr (own_far e1 hg h1)), e2, fun i e xs he hx => ⟨(e3 i e xs he hx).1.kept hb (.inr (own_far (e3 i e xs he hx).1 hg h2)), (e3 i e xs he hx).2⟩⟩
theorem OwnW.wds {w : World} {base : Nat} {v : Value} {wss : List (List Int)} (h : OwnW w base v wss) : ∃ a c, v = .slice a wss.length c ∧ wss.length ≤ c ∧ Wds w a wss.length wss := by
 obtain ⟨es, h1, h2, h3⟩ := h
 have hv : ∀ (i : Nat) (e : Value), es[i]? = some e → ∃ a l c xs, e = Value.slice a l c ∧ wss[i]? = some xs ∧ Bys w a l xs ∧ l ≤ c := by
  intro i e he
  have hi := (List.getElem?_eq_some_iff.1 he).1
  obtain ⟨xs, hx⟩ : ∃ xs, wss[i]? = some xs := ⟨wss[i]'(by omega), by simp⟩
  obtain ⟨ho, hb⟩ := h3 i e xs he hx
  obtain ⟨a, c, e1, hc, hB⟩ := own_bys ho hb
  exact ⟨a, _, c, xs, e1, hx, hB, hc⟩
 let f : Value → Option Addr × Nat × Nat := fun e => match e with | .slice a l c => (a, l, c) | _ => (none, 0, 0)
 have hmap : (es.map f).map (fun v => Value.slice v.1 v.2.1 v.2.2) = es := by
  apply List.ext_getElem?
  intro i
  rw [List.map_map, List.getElem?_map]
  cases he : es[i]? with
  | none => rfl
  | some e =>
   obtain ⟨a, l, c, xs, rfl, _⟩ := hv i e he
   rfl
 obtain ⟨a, c, e1, hc, hs⟩ := own_sl1 (enc := fun v : Option Addr × Nat × Nat => Value.slice v.1 v.2.1 v.2.2) (xs := es.map f) (by rw [hmap]; exact h1)
 refine ⟨a, c, e1, hc, es.map f, hs, by rw [List.length_map, h2], fun i v xs hvv hx => ?_⟩
 rw [List.getElem?_map, Option.map_eq_some_iff] at hvv
 obtain ⟨e, he, rfl⟩ := hvv
 obtain ⟨a', l, c', xs', rfl, hx', hB, hl⟩ := hv i e he
 rw [hx] at hx'
 obtain rfl := Option.some.inj hx'
 exact ⟨hB, hl⟩
theorem OwnW.step {W w' : World} {base : Nat} {v v' e : Value} {wss : List (List Int)} {xs : List Int} {es : List Value} (h1 : W.ownsRow base 62 1 v wss.length es) (h2 : es.length = wss.length)
  (h3 : ∀ (i : Nat) (e : Value) (xs : List Int), es[i]? = some e → wss[i]? = some xs → OwnB W base e xs.length xs ∧ ∀ x ∈ xs, 0 ≤ x ∧ x ≤ 255)
  (he : OwnB W base e xs.length xs) (hx : ∀ x ∈ xs, 0 ≤ x ∧ x ≤ 255) (hown : w'.ownsRow base 62 1 v' (wss.length + 1) (es ++ [e])) (hg : W.grownBy w' v.ownBlock) : OwnW w' base v' (wss ++ [xs]) := by
 have far : ∀ {e : Value} {n : Nat} {xs : List Int}, OwnB W base e n xs → e.ownBlock = none ∨ e.ownBlock ≠ v.ownBlock := by
  intro e n xs ho
  cases hv : v.ownBlock with
  | none => cases e.ownBlock <;> simp
  | some g =>
   right
   obtain ⟨c, fz, hc⟩ := Lib.ownsRow_kind h1 g hv
   exact own_far ho hc (of_decide_eq_true (by kernel_rfl))
 refine ⟨es ++ [e], by rw [List.length_append]; exact hown, by simp [h2], fun i e' ys he' hy => ?_⟩
 rw [List.getElem?_append] at he' hy
 by_cases hi : i < es.length
 ·
  rw [if_pos hi] at he'
  rw [if_pos (by omega)] at hy
  obtain ⟨ho, hb⟩ := h3 i e' ys he' hy
  exact ⟨ho.kept hg (far ho), hb⟩
 ·
  rw [if_neg hi] at he'
  rw [if_neg (by omega)] at hy
  have hi0 : i - es.length = 0 := by
   have := (List.getElem?_eq_some_iff.1 he').1
   simp at this
   omega
  rw [hi0] at he'
  rw [show i - wss.length = 0 by omega] at hy
  simp at he' hy
  subst he' hy
  exact ⟨he.kept hg (far he), hx⟩

/-- Words, each once, folded. -/
def addW (fold : Bool) (acc : List (List Int)) (x : List Int) : List (List Int) := if whichL fold x acc < 0 then acc ++ [foldL fold x] else acc
def makeL (fold : Bool) (wss : List (List Int)) : List (List Int) := wss.foldl (addW fold) []
theorem makeL_snoc (fold : Bool) (l : List (List Int)) (x : List Int) : makeL fold (l ++ [x]) = addW fold (makeL fold l) x := by simp [makeL, List.foldl_append]
theorem makeL_len (fold : Bool) (l : List (List Int)) : (makeL fold l).length ≤ l.length := by
 obtain ⟨n, hn⟩ : ∃ n, l.length = n := ⟨_, rfl⟩
 induction n generalizing l with
 | zero => obtain rfl := List.eq_nil_of_length_eq_zero hn; simp [makeL]
 | succ n ih =>
  obtain ⟨l', x, rfl⟩ : ∃ l' x, l = l' ++ [x] := ⟨l.dropLast, l.getLast (by intro h; simp [h] at hn), (List.dropLast_concat_getLast _).symm⟩
  have := ih l' (by simpa using hn)
  rw [makeL_snoc]
  unfold addW
  split <;> simp <;> omega
theorem makeL_mem {fold : Bool} {M : Nat} (l : List (List Int)) (h : ∀ x ∈ l, x.length ≤ M) : ∀ x ∈ makeL fold l, x.length ≤ M := by
 obtain ⟨n, hn⟩ : ∃ n, l.length = n := ⟨_, rfl⟩
 induction n generalizing l with
 | zero => obtain rfl := List.eq_nil_of_length_eq_zero hn; simp [makeL]
 | succ n ih =>
  obtain ⟨l', x, rfl⟩ : ∃ l' x, l = l' ++ [x] := ⟨l.dropLast, l.getLast (by intro h; simp [h] at hn), (List.dropLast_concat_getLast _).symm⟩
  have ih' := ih l' (fun y hy => h y (by simp [hy])) (by simpa using hn)
  rw [makeL_snoc]
  unfold addW
  split
  ·
   intro y hy
   rcases List.mem_append.1 hy with hy | hy
   · exact ih' y hy
   · simp at hy; rw [hy, foldL_length]; exact h x (by simp)
  · exact ih'

end Go.Proofs.Ytglfdclpjmhoiaa

/- A set of words (layer 5), made: walked. -/

namespace Go.Proofs.Ytglfdclpjmhoiaa
open Go.RowKit Go.Sort

theorem results_set {fn : Func} {p u : Tmp} {tmps : Array Value} {W : World} {B : Nat} {x y : Value} (h : fn.results = #[.cell p 24, .tmp u]) (hp : tmps.getD p undef = .pointer (some ⟨B, 0, none⟩)) (hB : W.heap[B]? = some (.cells #[x, y] 24 (0, 0))) :
  (results fn tmps).run Try.prog W = .ok (.tuple #[.agg #[x, y], tmps.getD u undef]) W := by
 have hl : (loadVar 24 ⟨B, 0, none⟩).run Try.prog W = .ok (.agg #[x, y]) W := run_loadVar_row W B 24 24 #[x, y] (0, 0) _ hB Try.underlying24 rfl (by kernel_rfl)
 rw [results_cell_tmp h, hp]
 simp [asAddr, hl, Result.andThen]

set_option maxHeartbeats 1000000 in
theorem make_no (fold : Bool) (a : Option Addr) (la ca : Nat) (wss : List (List Int)) (w : World) (hA : Wds w a la wss) (hla : la ≤ 1000000) (hM : ∀ x ∈ wss, x.length ≤ 1000000) (hT : (begL fold wss).length ≤ 1000000) (hc : checkP fold wss ≠ 0) :
  Calls Try.prog 35 #[.bool fold, .slice a la ca] w fun e w' => e = .returned (.tuple #[.agg (setV false none 0 0), .int .i64 (checkP fold wss)]) ∧ Below w.heap.size w w' := by
 have hA1 := hA.below ((Below.refl _ _).alloc (Nat.le_refl _) (.cells (setV false none 0 0) 24))
 obtain ⟨n, hn⟩ : ∃ n, checkP fold wss = n := ⟨_, rfl⟩
 have HN : Hid (checkP fold wss = n) := hn
 rw [hn] at hc ⊢
 clear hn
 go_enter Try.func35, Try.ntmps35
 go_wp2_with fail
 refine (check_any fold a la ca wss _ hA1 hla hM hT).mono ?_
 rintro e w1 ⟨rfl, hb⟩
 rw [HN.out]
 have hz : w1.heap[w.heap.size]? = some (.cells (setV false none 0 0) 24 (0, 0)) := (hb.block _ (by simp)).trans (World.alloc_heap_new _ _)
 have hB1 : Below w.heap.size w w1 := ((Below.refl _ _).alloc (Nat.le_refl _) _).trans (hb.mono (by simp))
 have z0 : w1.cell? ⟨w.heap.size, 0, none⟩ = some (.bool false) := by simp [World.cell?, hz]
 have z1 : w1.cell? ⟨w.heap.size, 1, none⟩ = some (.slice none 0 0) := by simp [World.cell?, hz]
 have y0 : w1.frozen? ⟨w.heap.size, 0, none⟩ = false := by simp [World.frozen?, hz]
 have y1 : w1.frozen? ⟨w.heap.size, 1, none⟩ = false := by simp [World.frozen?, hz]
 go_wp2
 have hz2 := set_at (i := 1) (set_at (i := 0) hz (.bool false)) (.slice none 0 0)
 refine bodyPost_ret (results_set rfl rfl (by simpa using hz2)) rfl ?_
 exact ⟨rfl, (hB1.setCell (Nat.le_refl _) _).setCell (Nat.le_refl _) _⟩

theorem copied_c (fold : Bool) (a : Option Addr) (la ca : Nat) (xs : List Int) (w : World) (hA : Bys w a la xs) (hla : la ≤ 1000000) :
  Calls Try.prog 54 #[.bool fold, .slice a la ca] w fun e w' => ∃ a1 c1, e = .returned (.slice a1 la c1) ∧ OwnB w' w.heap.size (.slice a1 la c1) la (foldL fold xs) ∧ Below w.heap.size w w' :=
 (copied_any fold a la ca xs w hA hla).mono fun e w' ⟨v, he, hown, hb⟩ => by
  obtain ⟨a1, c1, rfl, _, h⟩ := own_bys hown (foldL_bd hA.2)
  exact ⟨a1, c1, he, hown, hb⟩
theorem OwnB_mono {w : World} {b b' n : Nat} {v : Value} {xs : List Int} (h : OwnB w b v n xs) (hb : b' ≤ b) : OwnB w b' v n xs := Go.Joins.ownsRow_le h hb
theorem words_info : (Try.prog.info? 62).map (fun i => (i.zero, i.size, i.bytes)) = some (some (.slice none 0 0), 1, 24) := by kernel_rfl

set_option maxRecDepth 100000 in
set_option maxHeartbeats 4000000 in
theorem make_yes (fold : Bool) (a : Option Addr) (la ca : Nat) (wss : List (List Int)) (w : World) (hA : Wds w a la wss) (hla : la ≤ 1000000) (hM : ∀ x ∈ wss, x.length ≤ 1000000) (hT : (begL fold wss).length ≤ 1000000) (hc : checkP fold wss = 0) :
    Calls Try.prog 35 #[.bool fold, .slice a la ca] w fun e w' => ∃ v, e = .returned (.tuple #[.agg #[.bool fold, v], .int .i64 0]) ∧ OwnW w' w.heap.size v (makeL fold wss) ∧ Below w.heap.size w w' := by
  have hA1 := hA.below ((Below.refl _ _).alloc (Nat.le_refl _) (.cells (setV false none 0 0) 24))
  have HN : Hid (checkP fold wss = 0) := hc
  have HL := Lib.hid hA.len
  clear hc
  go_enter Try.func35, Try.ntmps35
  go_wp2_with fail
  refine (check_any fold a la ca wss _ hA1 hla hM hT).mono ?_
  rintro e w1 ⟨rfl, hb⟩
  rw [HN.out]
  have hz : w1.heap[w.heap.size]? = some (.cells (setV false none 0 0) 24 (0, 0)) := (hb.block _ (by simp)).trans (World.alloc_heap_new _ _)
  have hB1 : Below w.heap.size w w1 := ((Below.refl _ _).alloc (Nat.le_refl _) _).trans (hb.mono (by simp))
  have hlt1 : w.heap.size < w1.heap.size := (Array.getElem?_eq_some_iff.1 hz).1
  go_wp2
  go_loopw [23] (fun i wr => ∃ (k : Nat) (v : Value), k ≤ la ∧ i = .int .i64 k ∧ Below w.heap.size w wr ∧ wr.heap[w.heap.size]? = some (.cells (setV false none 0 0) 24 (0, 0)) ∧ wr.heap[w1.heap.size]? = some (.cells #[.bool fold, v] 24 (0, 0)) ∧ OwnW wr w.heap.size v (makeL fold (wss.take k))) (fun i _ => la - (intOf i).toNat)
  case atStart => exact ⟨0, .slice none 0 0, Nat.zero_le _, rfl, hB1.alloc (by omega) _, (Below.heap_alloc _ _ _ hlt1).trans hz, World.alloc_heap_new _ _, by simpa [makeL] using OwnW.nil _ _⟩
  case round =>
    obtain ⟨k, v, hk, rfl, hBe, hzr, hsr, hown⟩ := hrel
    by_cases hlt : k < la
    · obtain ⟨bb, off, a', l, c, x, rfl, hbl, hcell, hx, hX, hlc⟩ := (hA.below hBe).at_ hlt
      have hxl : l ≤ 1000000 := by have := mem_bd hM hx; rw [hX.len] at this; exact this
      obtain ⟨av, cv, rfl, hcv, hW⟩ := hown.wds
      have s0 : wr.cell? ⟨w1.heap.size, 0, none⟩ = some (.bool fold) := by simp [World.cell?, hsr]
      have s1 : wr.cell? ⟨w1.heap.size, 1, none⟩ = some (.slice av (makeL fold (wss.take k)).length cv) := by simp [World.cell?, hsr]
      have hml : (makeL fold (wss.take k)).length ≤ 1000000 := by have := makeL_len fold (wss.take k); have := List.length_take_le k wss; omega
      have HX := Lib.hid hx
      clear hx
      go_wp2_with fail
      refine (number_any fold a' av l c _ cv x (makeL fold (wss.take k)) wr hX hW hml (makeL_mem _ (fun y hy => hM y (List.mem_of_mem_take hy)))).mono ?_
      rintro e w2 ⟨rfl, hb2⟩
      have hB2 : Below w.heap.size w w2 := hBe.trans (hb2.mono hBe.size)
      have hz2 : w2.heap[w.heap.size]? = _ := (hb2.block _ (Array.getElem?_eq_some_iff.1 hzr).1).trans hzr
      have hs2 : w2.heap[w1.heap.size]? = _ := (hb2.block _ (Array.getElem?_eq_some_iff.1 hsr).1).trans hsr
      have hown2 := hown.below hb2
      clear hown hW hsr hzr s0 s1 hcell
      have HM : Hid (makeL fold (wss.take (k + 1)) = addW fold (makeL fold (wss.take k)) x) := by rw [take_step HX.out, makeL_snoc]; rfl
      obtain ⟨q, hq⟩ : ∃ q, whichL fold x (makeL fold (wss.take k)) = q := ⟨_, rfl⟩
      have HQ : Hid (whichL fold x (makeL fold (wss.take k)) = q) := hq
      rw [hq]
      clear hq
      by_cases hq0 : 0 ≤ q
      · rw [if_neg (by omega), decide_eq_true hq0]
        have HF : Hid (makeL fold (wss.take (k + 1)) = makeL fold (wss.take k)) := by
          rw [HM.out]
          unfold addW
          rw [HQ.out, if_neg (by omega)]
          rfl
        go_wp2
        go_roundw
        case rel => exact ⟨k + 1, _, by omega, by go_num, hB2, hz2, hs2, by rw [HF.out]; exact hown2⟩
        case measure => simp [intOf]; omega
      · rw [if_pos (by omega), decide_eq_false hq0]
        have HF : Hid (makeL fold (wss.take (k + 1)) = makeL fold (wss.take k) ++ [foldL fold x]) := by
          rw [HM.out]
          unfold addW
          rw [HQ.out, if_pos (by omega)]
          rfl
        obtain ⟨i0, hi, hi0, hi1, hi2⟩ := info_parts words_info
        have s1 : w2.cell? ⟨w1.heap.size, 1, none⟩ = some (.slice av (makeL fold (wss.take k)).length cv) := by simp [World.cell?, hs2]
        obtain ⟨es, e1, e2, e3⟩ := hown2
        have hX2 : ∀ n, Bys (w2.drewN n) a' l x := fun n => (hX.below hb2).below ⟨rfl, rfl, rfl, Nat.le_refl _, fun _ _ => rfl⟩
        have hd : ∀ n, Below w2.heap.size w2 (w2.drewN n) := fun n => ⟨rfl, rfl, rfl, Nat.le_refl _, fun _ _ => rfl⟩
        obtain ⟨m, hm⟩ : ∃ m, (makeL fold (wss.take k)).length = m := ⟨_, rfl⟩
        rw [hm] at s1 hs2 e1 e2 hml ⊢
        have HMM := Lib.hid hm
        clear hm
        go_wp2
        have hXd : Bys w2.drew a' l x := hX2 1
        have hdd : Below w2.heap.size w2 w2.drew := hd 1
        go_region_law (first
          | (go_simp; go_at_call 54; refine (copied_c fold a' l c x w2.drew hXd hxl).mono ?_; rintro e w3 ⟨a3, c3, rfl, hown3, hb3⟩
             have hB3 : Below w2.heap.size w2 w3 := hdd.trans hb3
             have e13 := own_below_ e1 hB3
             have hs3 : w3.heap[w1.heap.size]? = some (.cells #[.bool fold, .slice av m cv] 24 (0, 0)) := (hB3.block _ (Array.getElem?_eq_some_iff.1 hs2).1).trans hs2
             have s13 : w3.cell? ⟨w1.heap.size, 1, none⟩ = some (.slice av m cv) := by simp [World.cell?, hs3]
             have hl3 : w1.heap.size < w3.heap.size := (Array.getElem?_eq_some_iff.1 hs3).1
             have hl3b : w1.heap.size ≠ w3.heap.size := by omega
             have hl3c : w3.heap.size ≠ w1.heap.size := by omega
             have s14 : (w3.alloc (.cells #[.slice a3 l c3] 62)).cell? ⟨w1.heap.size, 1, none⟩ = some (.slice av m cv) := by rw [World.cell?_alloc_lt _ _ _ hl3]; exact s13
             have hne := own_far e13 hs3 (of_decide_eq_true (by kernel_rfl))
             have hB3w : Below w.heap.size w w3 := hB2.trans (hB3.mono hB2.size)
             dsimp only)
          | (refine step_append_lies _ (by rfl) _ _ 22 (by rfl) w.heap.size 62 i0 (.slice none 0 0) 1 24 Try.underlying22 hi hi0 hi1 hi2 rfl (by decide) (.slice av m cv) m es (by rfl) (e13.alloc _) ⟨w3.heap.size, 0, none⟩ 1 1 [.slice a3 l c3] (by rfl) rfl (cell_one_new _ _ _) (by simp [Value.oneCell']) (by decide) (by unfold maxLen; omega) (by omega) (by have := hB3w.size; simp; omega) _ rfl ?_
             intro g5 c5 w5 hown' hgrow hat hl5
             have hs5 : w5.heap[w1.heap.size]? = some (.cells #[.bool fold, .slice av m cv] 24 (0, 0)) := (hgrow.block _ (by simp; have := (Array.getElem?_eq_some_iff.1 hs3).1; omega) (Ne.symm hne)).trans ((Below.heap_alloc _ _ _ (Array.getElem?_eq_some_iff.1 hs3).1).trans hs3)
             have q0 : w5.cell? ⟨w1.heap.size, 1, none⟩ = some (.slice av m cv) := by simp [World.cell?, hs5]
             have q1 : w5.frozen? ⟨w1.heap.size, 1, none⟩ = false := by simp [World.frozen?, hs5]))
        all_goals
          go_wp2
          have hB5 : Below w.heap.size w w5 := (hB3w.alloc (by have := hB3w.size; omega) _).grown hgrow (by simp; have := hB3w.size; omega) (fun j hj => (e13.lt j hj).1)
          have hz5 : w5.heap[w.heap.size]? = some (.cells (setV false none 0 0) 24 (0, 0)) := by
            have h3 : w3.heap[w.heap.size]? = _ := (hB3.block _ (Array.getElem?_eq_some_iff.1 hz2).1).trans hz2
            exact (hgrow.block _ (by simp; have := (Array.getElem?_eq_some_iff.1 h3).1; omega) (Ne.symm (own_far e13 h3 (of_decide_eq_true (by kernel_rfl))))).trans ((Below.heap_alloc _ _ _ (Array.getElem?_eq_some_iff.1 h3).1).trans h3)
          go_roundw
          case rel =>
            refine ⟨k + 1, _, by omega, by go_num, hB5.setCell (by show w.heap.size ≤ w1.heap.size; omega) _, (Below.heap_setCell w5 ⟨w1.heap.size, 1, none⟩ _ _ (by simp; omega)).trans hz5, by simpa using set_at (i := 1) hs5 (.slice (some ⟨g5, 0, none⟩) (m + 1) c5), ?_⟩
            rw [HF.out]
            have hst := OwnW.step (wss := makeL fold (wss.take k)) (xs := foldL fold x) (e := .slice a3 l c3) (es := es) (v := .slice av m cv) (by rw [HMM.out]; exact e13.alloc _) (by rw [HMM.out]; exact e2)
              (fun i e xs he hx => ⟨own_below_ (own_below_ (e3 i e xs he hx).1 hB3) ((Below.refl _ _).alloc (Nat.le_refl _) _), (e3 i e xs he hx).2⟩) (by rw [foldL_length, hX.len]; exact (OwnB_mono (hown3.alloc _) (by have := hB2.size; simpa using this))) (foldL_bd hX.2) (by rw [HMM.out]; exact hown') hgrow
            exact hst.turned (grown_set2 w5 w1.heap.size 1 _) hs5 (of_decide_eq_true (by kernel_rfl)) (of_decide_eq_true (by kernel_rfl))
          case measure => simp [intOf]; omega
    · obtain rfl : k = la := by omega
      have HF : Hid (wss.take k = wss) := List.take_of_length_le (by have := HL.out; omega)
      have s0 : wr.cell? ⟨w1.heap.size, 0, none⟩ = some (.bool fold) := by simp [World.cell?, hsr]
      obtain ⟨av, cv, rfl, hcv, hW⟩ := hown.wds
      have s1 : wr.cell? ⟨w1.heap.size, 1, none⟩ = some (.slice av (makeL fold (wss.take k)).length cv) := by simp [World.cell?, hsr]
      have z0 : wr.cell? ⟨w.heap.size, 0, none⟩ = some (.bool false) := by simp [World.cell?, hzr]
      have z1 : wr.cell? ⟨w.heap.size, 1, none⟩ = some (.slice none 0 0) := by simp [World.cell?, hzr]
      have y0 : wr.frozen? ⟨w.heap.size, 0, none⟩ = false := by simp [World.frozen?, hzr]
      have y1 : wr.frozen? ⟨w.heap.size, 1, none⟩ = false := by simp [World.frozen?, hzr]
      go_wp2
      have hz2 := set_at (i := 1) (set_at (i := 0) hzr (.bool fold)) (.slice av (makeL fold (wss.take k)).length cv)
      refine bodyPost_ret (results_set rfl rfl (by simpa using hz2)) rfl ?_
      refine ⟨_, rfl, ?_, (hBe.setCell (Nat.le_refl _) _).setCell (Nat.le_refl _) _⟩
      have ho := (hown.turned (grown_set2 wr w.heap.size 0 (.bool fold)) hzr (of_decide_eq_true (by kernel_rfl)) (of_decide_eq_true (by kernel_rfl))).turned (grown_set2 _ w.heap.size 1 (.slice av (makeL fold (wss.take k)).length cv)) (set_at (i := 0) hzr (.bool fold)) (of_decide_eq_true (by kernel_rfl)) (of_decide_eq_true (by kernel_rfl))
      rw [HF.out] at ho ⊢
      exact ho

end Go.Proofs.Ytglfdclpjmhoiaa

/- Which sets may be (layer 5), walked. -/

namespace Go.Proofs.Ytglfdclpjmhoiaa
open Go.RowKit Go.Sort

def rightP (fold : Bool) (wss : List (List Int)) : Bool := decide (checkP fold wss = 0) && decide (makeL fold wss = wss)

set_option maxHeartbeats 1000000 in
theorem pright_any (fold : Bool) (a : Option Addr) (la ca : Nat) (wss : List (List Int)) (w : World) (hA : Wds w a la wss) (hla : la ≤ 1000000) (hM : ∀ x ∈ wss, x.length ≤ 1000000) (hT : (begL fold wss).length ≤ 1000000) :
  Calls Try.prog 23 #[.agg (setV fold a la ca)] w fun e w' => e = .returned (.bool (rightP fold wss)) ∧ Below w.heap.size w w' := by
 have hB0 : Below w.heap.size w (w.alloc (.cells (setV fold a la ca) 24)) := (Below.refl _ _).alloc (Nat.le_refl _) _
 have hA1 := hA.below hB0
 have hnew := World.alloc_heap_new w (.cells (setV fold a la ca) 24)
 by_cases hc : checkP fold wss = 0
 ·
  have HR : Hid (rightP fold wss = sameS fold fold (makeL fold wss) wss) := by simp [Hid, rightP, sameS, hc]
  go_enter Try.func23, Try.ntmps23
  go_wp2_with fail
  refine (make_yes fold a la ca wss _ hA1 hla hM hT hc).mono ?_
  rintro e w1 ⟨v, rfl, hown, hb⟩
  have hB1 : Below w.heap.size w w1 := hB0.trans (hb.mono (by simp))
  obtain ⟨av, cv, rfl, hcv, hW⟩ := hown.wds
  have h1 : w1.heap[w.heap.size]? = _ := (hb.block _ (by simp)).trans hnew
  have hs1 : w.heap.size < w1.heap.size := (Array.getElem?_eq_some_iff.1 h1).1
  have c0 : w1.cell? ⟨w.heap.size, 0, none⟩ = some (.bool fold) := by simp [World.cell?, h1]
  have c1 : w1.cell? ⟨w.heap.size, 1, none⟩ = some (.slice a la ca) := by simp [World.cell?, h1]
  have hlen : (makeL fold wss).length ≤ 1000000 := by have := makeL_len fold wss; have := hA.len; omega
  have hne : w.heap.size ≠ w1.heap.size := by omega
  have hB2 : Below w1.heap.size w1 (w1.alloc (.cells (setV fold av (makeL fold wss).length cv) 24)) := (Below.refl _ _).alloc (Nat.le_refl _) _
  have hW2 := hW.below hB2
  have hA2 := (hA.below hB1).below hB2
  clear hc
  go_wp2_with fail
  refine (sames_any fold fold av a _ cv la ca (makeL fold wss) wss _ hW2 hA2 hlen).mono ?_
  rintro e w3 ⟨rfl, hb3⟩
  go_wp2
  go_ret
  exact ⟨by rw [HR.out]; rfl, hB1.trans ((hB2.trans (hb3.mono (by simp))).mono hB1.size)⟩
 ·
  have HR : Hid (rightP fold wss = false) := by simp [Hid, rightP, hc]
  obtain ⟨n, hn⟩ : ∃ n, checkP fold wss = n := ⟨_, rfl⟩
  have HC := Lib.hid hc
  have HN : Hid (checkP fold wss = n) := hn
  rw [hn] at hc
  clear hn
  have hnb : (n == 0) = false := by simp [hc]
  go_enter Try.func23, Try.ntmps23
  go_wp2_with fail
  refine (make_no fold a la ca wss _ hA1 hla hM hT HC.out).mono ?_
  rintro e w1 ⟨rfl, hb⟩
  rw [HN.out]
  have hB1 : Below w.heap.size w w1 := hB0.trans (hb.mono (by simp))
  go_wp2
  go_ret
  exact ⟨by rw [HR.out]; rfl, hB1.alloc hB1.size _⟩

end Go.Proofs.Ytglfdclpjmhoiaa

/- The document's functions of sets (layer 5), the small ones: walked. -/

namespace Go.Proofs.Ytglfdclpjmhoiaa
open Go.RowKit Go.Sort

def gsum (wss : List (List Int)) : Int := (wss.map fun w => min (w.length : Int) 4000).sum
def greatP (wss : List (List Int)) : Bool := decide (wss.length > 80 ∨ gsum wss > 3000)
theorem gsum_snoc (l : List (List Int)) (x : List Int) : gsum (l ++ [x]) = gsum l + min (x.length : Int) 4000 := by simp [gsum]
theorem gsum_nonneg : ∀ (l : List (List Int)), 0 ≤ gsum l
 | [] => by simp [gsum]
 | x :: l => by
  have := gsum_nonneg l
  simp only [gsum, List.map_cons, List.sum_cons] at this ⊢
  omega
theorem gsum_append (l m : List (List Int)) : gsum (l ++ m) = gsum l + gsum m := by simp [gsum]
theorem gsum_take (l : List (List Int)) (k : Nat) : gsum (l.take k) ≤ gsum l := by
 have h := gsum_append (l.take k) (l.drop k)
 rw [List.take_append_drop] at h
 have := gsum_nonneg (l.drop k)
 omega

set_option maxHeartbeats 2000000 in
theorem great3_any (a : Option Addr) (la ca : Nat) (wss : List (List Int)) (w : World) (hA : Wds w a la wss) :
  Calls Try.prog 18 #[.slice a la ca] w fun e w' => e = .returned (.bool (greatP wss)) ∧ w = w' := by
 have HL := Lib.hid hA.len
 obtain ⟨G, hG⟩ : ∃ G, greatP wss = G := ⟨_, rfl⟩
 have HG : Hid (greatP wss = G) := hG
 rw [hG]
 clear hG
 go_enter Try.func18, Try.ntmps18
 go_wp2
 go_loop [3, 4] (fun s i => ∃ (k : Nat) (n : Int), k ≤ la ∧ k ≤ 81 ∧ i = .int .i64 k ∧ s = .int .i64 n ∧ 0 ≤ n ∧ n ≤ 7000 ∧ Hid (n = gsum (wss.take k))) (fun _ i => la - (intOf i).toNat)
 case atStart => exact ⟨0, 0, Nat.zero_le _, by omega, rfl, rfl, by omega, by omega, by simp [Hid, gsum]⟩
 case round =>
  obtain ⟨k, n, hk, hk81, rfl, rfl, hn0, hn1, HN⟩ := hrel
  have fin : ¬ (k < la ∧ k ≤ 80 ∧ n ≤ 3000) → la ≤ 80 → Hid (G = decide (n > 3000)) := by
   intro h1 h2
   have hlen := HL.out
   have ht := gsum_take wss k
   rw [Hid, ← HG.out]
   unfold greatP
   by_cases hn : n > 3000
   ·
    rw [decide_eq_true hn, decide_eq_true]
    right
    have := HN.out
    omega
   ·
    have hkl : k = la := by omega
    rw [decide_eq_false hn, decide_eq_false]
    rintro (h | h)
    · omega
    ·
     have h3 := HN.out
     rw [List.take_of_length_le (by omega)] at h3
     omega
  have fin2 : 80 < la → Hid (G = true) := by
   intro h
   rw [Hid, ← HG.out]
   exact decide_eq_true (.inl (by have := HL.out; omega))
  have HF := Lib.hid fin
  have HF2 := Lib.hid fin2
  clear fin fin2
  by_cases hlt : k < la
  ·
   by_cases h80 : k ≤ 80
   ·
    by_cases hn3 : n ≤ 3000
    ·
     obtain ⟨bb, off, a', l, c, x, rfl, hbl, hcell, hx, hX, hlc⟩ := hA.at_ hlt
     have HS : Hid (n + min (l : Int) 4000 = gsum (wss.take (k + 1))) := by rw [Hid, take_step hx, gsum_snoc, hX.len, HN.out]
     clear hx hX
     have hm0 : 0 ≤ min (l : Int) 4000 := by omega
     have hm1 : min (l : Int) 4000 ≤ 4000 := by omega
     go_wp2
     go_round
     case rel => exact ⟨k + 1, _, by omega, by omega, by go_num, rfl, by omega, by omega, HS⟩
     case measure => simp [intOf]; omega
    ·
     by_cases h8 : la ≤ 80
     ·
      have hE := HF.out (by omega) h8
      go_wp2
      go_ret
      exact ⟨by rw [hE.out]; simp; try omega, rfl⟩
     ·
      have hE := HF2.out (by omega)
      go_wp2
      go_ret
      exact ⟨by rw [hE.out]; simp; try omega, rfl⟩
   ·
    have hE := HF2.out (by omega)
    go_wp2
    go_ret
    exact ⟨by rw [hE.out]; simp; try omega, rfl⟩
  ·
   by_cases h8 : la ≤ 80
   ·
    have hE := HF.out (by omega) h8
    go_wp2
    go_ret
    exact ⟨by rw [hE.out]; simp; try omega, rfl⟩
   ·
    have hE := HF2.out (by omega)
    go_wp2
    go_ret
    exact ⟨by rw [hE.out]; simp; try omega, rfl⟩

theorem great5_any (fold : Bool) (a : Option Addr) (la ca : Nat) (wss : List (List Int)) (w : World) (hA : Wds w a la wss) :
  Calls Try.prog 5 #[.agg (setV fold a la ca)] w fun e w' => e = .returned (.bool (greatP wss)) ∧ Below w.heap.size w w' := by
 have hB0 : Below w.heap.size w (w.alloc (.cells (setV fold a la ca) 24)) := (Below.refl _ _).alloc (Nat.le_refl _) _
 have hA1 := hA.below hB0
 go_enter Try.func5, Try.ntmps5
 go_wp2_with fail
 refine (great3_any a la ca wss _ hA1).mono ?_
 rintro e w1 ⟨rfl, rfl⟩
 go_wp2
 go_ret
 exact ⟨rfl, hB0⟩

end Go.Proofs.Ytglfdclpjmhoiaa

/- The document's functions of sets (layer 5): what two texts have in common. -/

namespace Go.Proofs.Ytglfdclpjmhoiaa
open Go.RowKit Go.Sort

def commonL : List Int → List Int → Nat
 | x :: xs, y :: ys => if x = y then commonL xs ys + 1 else 0
 | _, _ => 0
theorem commonL_stop : ∀ {k : Nat} {xs ys : List Int}, k ≤ xs.length → k ≤ ys.length → xs.take k = ys.take k → (k = xs.length ∨ k = ys.length ∨ ∃ x y, xs[k]? = some x ∧ ys[k]? = some y ∧ x ≠ y) → commonL xs ys = k
 | 0, [], ys, _, _, _, _ => by simp [commonL]
 | 0, x :: xs, [], _, _, _, _ => by simp [commonL]
 | 0, x :: xs, y :: ys, _, _, _, h => by
  rcases h with h | h | ⟨a, b, ha, hb, hab⟩
  · simp at h
  · simp at h
  ·
   simp at ha hb
   subst ha hb
   simp [commonL, hab]
 | k + 1, [], ys, h, _, _, _ => by simp at h
 | k + 1, x :: xs, [], _, h, _, _ => by simp at h
 | k + 1, x :: xs, y :: ys, h1, h2, h3, h4 => by
  simp only [List.take_succ_cons, List.cons.injEq] at h3
  have ih := commonL_stop (k := k) (xs := xs) (ys := ys) (by simpa using h1) (by simpa using h2) h3.2 (by simpa using h4)
  simp [commonL, h3.1, ih]

set_option maxHeartbeats 2000000 in
theorem common_any (a b : Option Addr) (la ca lb cb : Nat) (xs ys : List Int) (w : World) (hA : Bys w a la xs) (hB : Bys w b lb ys) (hla : la ≤ 1000000) (hlb : lb ≤ 1000000) :
  Calls Try.prog 61 #[.slice a la ca, .slice b lb cb] w fun e w' => e = .returned (.int .i64 (commonL xs ys)) ∧ Below w.heap.size w w' := by
 have HX := Lib.hid hA.len
 have HY := Lib.hid hB.len
 go_enter Try.func61, Try.ntmps61
 go_wp2
 go_loopw [5] (fun i wr => ∃ k : Nat, k ≤ la ∧ k ≤ lb ∧ i = .int .i64 k ∧ Hid (xs.take k = ys.take k) ∧ Below w.heap.size w wr) (fun i _ => la - (intOf i).toNat)
 case atStart => exact ⟨0, Nat.zero_le _, Nat.zero_le _, rfl, by simp [Hid], Below.refl _ _⟩
 case round =>
  obtain ⟨k, hka, hkb, rfl, HK, hBn⟩ := hrel
  have hBd : ∀ n, Below w.heap.size w (wr.drewN n) := fun n => hBn.trans ⟨rfl, rfl, rfl, Nat.le_refl _, fun _ _ => rfl⟩
  have stop : (k = la ∨ k = lb ∨ ∃ x y, xs[k]? = some x ∧ ys[k]? = some y ∧ x ≠ y) → Hid (commonL xs ys = k) := fun h => commonL_stop (by have := HX.out; omega) (by have := HY.out; omega) HK (by rw [HX.out, HY.out]; exact h)
  have HS := Lib.hid stop
  clear stop
  by_cases h1 : k < la
  ·
   by_cases h2 : k < lb
   ·
    obtain ⟨x, hx⟩ : ∃ x, xs[k]? = some x := ⟨xs[k]'(by rw [HX.out]; exact h1), by simp⟩
    obtain ⟨y, hy⟩ : ∃ y, ys[k]? = some y := ⟨ys[k]'(by rw [HY.out]; exact h2), by simp⟩
    obtain ⟨ba, oa, rfl, hba, hca⟩ := (hA.below hBn).1.2.resolve_left (by omega)
    obtain ⟨bb, ob, rfl, hbb, hcb⟩ := (hB.below hBn).1.2.resolve_left (by omega)
    have cx := hca k x hx
    have cy := hcb k y hy
    have HX2 := Lib.hid hx
    have HY2 := Lib.hid hy
    clear hx hy hca hcb
    by_cases hxy : x = y
    ·
     subst hxy
     have HK2 : Hid (xs.take (k + 1) = ys.take (k + 1)) := by rw [take_step HX2.out, take_step HY2.out, HK.out]; rfl
     go_wp2
     go_quiet (fail)
     go_wp2
     go_roundw
     case rel => exact ⟨k + 1, by omega, by omega, by go_num, HK2, hBd _⟩
     case measure => simp [intOf]; omega
    ·
     have HE := HS.out (.inr (.inr ⟨x, y, HX2.out, HY2.out, hxy⟩))
     go_wp2
     go_quiet (fail)
     go_wp2
     go_ret
     exact ⟨by rw [HE.out]; rfl, hBd _⟩
   ·
    obtain rfl : k = lb := by omega
    have HE := HS.out (.inr (.inl rfl))
    go_wp2
    go_quiet (fail)
    go_wp2
    go_ret
    exact ⟨by rw [HE.out]; rfl, hBd _⟩
  ·
   obtain rfl : k = la := by omega
   have HE := HS.out (.inl rfl)
   go_wp2
   go_quiet (fail)
   go_wp2
   go_ret
   exact ⟨by rw [HE.out]; rfl, hBd _⟩

end Go.Proofs.Ytglfdclpjmhoiaa

/- How many nodes words have, by the document (layer 5): walked. -/

namespace Go.Proofs.Ytglfdclpjmhoiaa
open Go.RowKit Go.Sort

def oldR (fold : Bool) (pre : List (List Int)) (x : List Int) : Int := pre.foldl (fun m y => max m (commonL (foldL fold x) (foldL fold y) : Int)) 0
def nodesG (fold : Bool) : List (List Int) → List (List Int) → Int → Int
 | _, [], n => n
 | pre, x :: rest, n => nodesG fold (pre ++ [x]) rest (n + x.length - oldR fold pre x)
def nodesR (fold : Bool) (wss : List (List Int)) : Int := nodesG fold [] wss 1
theorem oldR_snoc (fold : Bool) (pre : List (List Int)) (x y : List Int) : oldR fold (pre ++ [y]) x = max (oldR fold pre x) (commonL (foldL fold x) (foldL fold y) : Int) := by simp [oldR, List.foldl_append]
theorem nodesG_snoc (fold : Bool) : ∀ (rest pre : List (List Int)) (x : List Int) (n : Int), nodesG fold pre (rest ++ [x]) n = nodesG fold pre rest n + x.length - oldR fold (pre ++ rest) x
 | [], pre, x, n => by simp [nodesG]
 | y :: rest, pre, x, n => by
  rw [List.cons_append, nodesG, nodesG, nodesG_snoc fold rest (pre ++ [y]) x]
  simp
theorem nodesR_snoc (fold : Bool) (l : List (List Int)) (x : List Int) : nodesR fold (l ++ [x]) = nodesR fold l + x.length - oldR fold l x := by
 unfold nodesR
 rw [nodesG_snoc, List.nil_append]
theorem commonL_le : ∀ (xs ys : List Int), commonL xs ys ≤ xs.length
 | [], _ => by simp [commonL]
 | _ :: _, [] => by simp [commonL]
 | x :: xs, y :: ys => by
  have := commonL_le xs ys
  unfold commonL
  split <;> simp <;> omega
theorem oldR_bd (fold : Bool) (x : List Int) (pre : List (List Int)) : 0 ≤ oldR fold pre x ∧ oldR fold pre x ≤ x.length := by
 obtain ⟨n, hn⟩ : ∃ n, pre.length = n := ⟨_, rfl⟩
 induction n generalizing pre with
 | zero => obtain rfl := List.eq_nil_of_length_eq_zero hn; simp [oldR]
 | succ n ih =>
  obtain ⟨l', y, rfl⟩ : ∃ l' y, pre = l' ++ [y] := ⟨pre.dropLast, pre.getLast (by intro h; simp [h] at hn), (List.dropLast_concat_getLast _).symm⟩
  have h1 := ih l' (by simpa using hn)
  have h2 := commonL_le (foldL fold x) (foldL fold y)
  rw [foldL_length] at h2
  rw [oldR_snoc]
  omega
theorem nodesR_bd {fold : Bool} {M : Nat} (l : List (List Int)) (h : ∀ x ∈ l, x.length ≤ M) : 1 ≤ nodesR fold l ∧ nodesR fold l ≤ 1 + l.length * (M : Int) := by
 obtain ⟨n, hn⟩ : ∃ n, l.length = n := ⟨_, rfl⟩
 induction n generalizing l with
 | zero => obtain rfl := List.eq_nil_of_length_eq_zero hn; simp [nodesR, nodesG]
 | succ n ih =>
  obtain ⟨l', x, rfl⟩ : ∃ l' x, l = l' ++ [x] := ⟨l.dropLast, l.getLast (by intro h; simp [h] at hn), (List.dropLast_concat_getLast _).symm⟩
  have h1 := ih l' (fun y hy => h y (by simp [hy])) (by simpa using hn)
  have h2 := oldR_bd fold x l'
  have hx := h x (by simp)
  rw [nodesR_snoc]
  have e : ((l' ++ [x]).length : Int) * (M : Int) = l'.length * (M : Int) + M := by
   rw [List.length_append, List.length_cons, List.length_nil, Int.natCast_add, Int.add_mul]; simp
  rw [e]
  omega

theorem text_c (fold : Bool) (a : Option Addr) (la ca : Nat) (xs : List Int) (w : World) (hA : Bys w a la xs) (hla : la ≤ 1000000) :
  Calls Try.prog 34 #[.bool fold, .slice a la ca] w fun e w' => ∃ a1 c1, e = .returned (.slice a1 la c1) ∧ Bys w' a1 la (foldL fold xs) ∧ Below w.heap.size w w' :=
 (text_any fold a la ca xs w hA hla).mono fun e w' ⟨v, he, hown, hb⟩ => by
  obtain ⟨a1, c1, rfl, _, h⟩ := own_bys hown (foldL_bd hA.2)
  exact ⟨a1, c1, he, h, hb⟩

set_option maxRecDepth 100000 in
set_option maxHeartbeats 4000000 in
theorem rnodes_any (fold : Bool) (a : Option Addr) (la ca : Nat) (wss : List (List Int)) (w : World) (hA : Wds w a la wss) (hla : la ≤ 1000000) (hM : ∀ x ∈ wss, x.length ≤ 1000000) :
    Calls Try.prog 49 #[.bool fold, .slice a la ca] w fun e w' => e = .returned (.int .i64 (nodesR fold wss)) ∧ Below w.heap.size w w' := by
  have HL := Lib.hid hA.len
  have HM := Lib.hid hM
  have HA := Lib.hid hA
  clear hA hM
  go_enter Try.func49, Try.ntmps49
  go_wp2
  go_loopw [5, 6] (fun s i wr => ∃ (k : Nat) (n : Int), k ≤ la ∧ i = .int .i64 k ∧ s = .int .i64 n ∧ Hid (n = nodesR fold (wss.take k)) ∧ Below w.heap.size w wr) (fun _ i _ => la - (intOf i).toNat)
  case atStart => exact ⟨0, 1, Nat.zero_le _, rfl, rfl, by simp [Hid, nodesR, nodesG], Below.refl _ _⟩
  case round =>
    obtain ⟨k, n, hk, rfl, rfl, HN, hBe⟩ := hrel
    by_cases hlt : k < la
    · obtain ⟨bb, off, a', l, c, x, rfl, hbl, hcell0, hx, hX, hlc⟩ := HA.out.at_ hlt
      have hxl : l ≤ 1000000 := by have := mem_bd HM.out hx; rw [hX.len] at this; exact this
      have HX := Lib.hid hx
      have HXX := Lib.hid hX
      have hcell : ∀ v : World, Below w.heap.size w v → v.cell? ⟨bb, off + k, none⟩ = some (.slice a' l c) := fun v hv => (hv.cell (p := ⟨bb, off + k, none⟩) hbl).trans hcell0
      have HCL := Lib.hid hcell
      clear hx hX hcell hcell0
      go_wp2
      go_loopw [7, 8] (fun o i wr => ∃ (j : Nat) (m : Int), j ≤ k ∧ i = .int .i64 j ∧ o = .int .i64 m ∧ Hid (m = oldR fold (wss.take j) x) ∧ Below w.heap.size w wr) (fun _ i _ => k - (intOf i).toNat)
      case atStart => exact ⟨0, 0, Nat.zero_le _, rfl, rfl, by simp [Hid, oldR], hBe⟩
      case round =>
        clear hBe
        obtain ⟨j, m, hj, rfl, rfl, HO, hBe⟩ := hrel
        by_cases hjk : j < k
        · obtain ⟨b2, off2, a2, l2, c2, y, e2, hbl2, hcell2, hy, hY, hlc2⟩ := HA.out.at_ (show j < la by omega)
          simp only [Option.some.injEq, Addr.mk.injEq, and_true] at e2
          obtain ⟨rfl, rfl⟩ := e2
          have hyl : l2 ≤ 1000000 := by have := mem_bd HM.out hy; rw [hY.len] at this; exact this
          have HCL2 : Hid (∀ v : World, Below w.heap.size w v → v.cell? ⟨bb, off + j, none⟩ = some (.slice a2 l2 c2)) := fun v hv => (hv.cell (p := ⟨bb, off + j, none⟩) hbl2).trans hcell2
          have HS : Hid (max m (commonL (foldL fold x) (foldL fold y) : Int) = oldR fold (wss.take (j + 1)) x) := by
            rw [Hid, HO.out, take_step (show wss[j]? = some y from hy), oldR_snoc]
          have HYY := Lib.hid hY
          clear hcell2 hy hY
          have hXd : Bys wr.drew a' l x := HXX.out.below (hBe.trans ⟨rfl, rfl, rfl, Nat.le_refl _, fun _ _ => rfl⟩)
          have hBd : Below w.heap.size w wr.drew := hBe.trans ⟨rfl, rfl, rfl, Nat.le_refl _, fun _ _ => rfl⟩
          have k1 := HCL.out wr hBe
          have k2 := HCL2.out wr hBe
          have i1 : (0 : Int) ≤ (j : Int) := by omega
          have i2 : (j : Int) < (la : Int) := by omega
          have i3 : (0 : Int) ≤ (k : Int) := by omega
          have i4 : (k : Int) < (la : Int) := by omega
          go_wp2
          go_region_held3 (fun w' => w'.cell? ⟨bb, off + k, none⟩ = some (.slice a' l c) ∧ w'.cell? ⟨bb, off + j, none⟩ = some (.slice a2 l2 c2)) (go_keep) (first
            | (go_at_call 34; refine (text_c fold a' l c x wr.drew hXd hxl).mono ?_; rintro e w1 ⟨a1, c1, rfl, h12, hb1⟩
               have hBe1 : Below w.heap.size w w1 := hBd.trans (hb1.mono hBd.size)
               have d1 := HCL.out w1 hBe1
               have d2 := HCL2.out w1 hBe1
               have hY1 := HYY.out.below hBe1
               clear hXd)
            | (go_at_call 34; refine (text_c fold a2 l2 c2 y w1 hY1 hyl).mono ?_; rintro e w2 ⟨a3, c3, rfl, h22, hb2⟩
               have hBe2 : Below w.heap.size w w2 := hBe1.trans (hb2.mono hBe1.size)
               have d3 := HCL.out w2 hBe2
               have d4 := HCL2.out w2 hBe2
               have h12b := h12.below hb2
               clear hY1)
            | (go_at_call 61; refine (common_any a1 a3 l c1 l2 c3 _ _ w2 h12b h22 hxl hyl).mono ?_; rintro e w3 ⟨rfl, hb3⟩
               have hBe3 : Below w.heap.size w w3 := hBe2.trans (hb3.mono hBe2.size)
               have d5 := HCL.out w3 hBe3
               have d6 := HCL2.out w3 hBe3))
          all_goals
            go_wp2
            go_roundw
            case rel => exact ⟨j + 1, _, by omega, by go_num, rfl, HS, hBe3⟩
            case measure => simp [intOf]; omega
        · obtain rfl : j = k := by omega
          have hob := oldR_bd fold x (wss.take j)
          have hnb := nodesR_bd (fold := fold) (M := 1000000) (wss.take j) (fun y hy => HM.out y (List.mem_of_mem_take hy))
          rw [← HO.out, HXX.out.len] at hob
          rw [← HN.out, List.length_take] at hnb
          have hnb2 : n ≤ 1 + 1000000 * 1000000 := by omega
          have HS : Hid (n + (l : Int) - m = nodesR fold (wss.take (j + 1))) := by rw [Hid, take_step HX.out, nodesR_snoc, HXX.out.len, ← HN.out, ← HO.out]
          have k1 := HCL.out wr hBe
          have hn1 := hnb.1
          clear hnb
          go_wp2
          go_roundw
          case rel => exact ⟨j + 1, _, by omega, by go_num, rfl, HS, hBe⟩
          case measure => simp [intOf]; omega
    · obtain rfl : k = la := by omega
      have HF : Hid (n = nodesR fold wss) := by
        have h := HN.out
        rwa [List.take_of_length_le (by have := HL.out; omega)] at h
      go_wp2
      go_ret
      exact ⟨by rw [← HF.out]; rfl, hBe⟩

end Go.Proofs.Ytglfdclpjmhoiaa

/- The code's way to count nodes tells what the document's does: paths. -/

namespace Go.Proofs.Ytglfdclpjmhoiaa

/-- The paths that there are, and the one at which one is. -/
def pstep (s : List (List Int) × List Int) (p : Bool × Int) : List (List Int) × List Int :=
 let q := (if p.1 then [] else s.2) ++ [p.2]
 (if q ∈ s.1 then s.1 else s.1 ++ [q], q)
def prun (l : List (Bool × Int)) : List (List Int) × List Int := l.foldl pstep ([[]], [])
theorem prun_snoc (l : List (Bool × Int)) (p : Bool × Int) : prun (l ++ [p]) = pstep (prun l) p := by simp [prun, List.foldl_append]

structure Rep (s : NSt) (ps : List (List Int)) (p : List Int) : Prop where
 many : s.many = ps.length
 nodup : ps.Nodup
 root : ps[0]? = some []
 closed : ∀ (q : List Int) (c : Int), q ++ [c] ∈ ps → q ∈ ps
 at_ : ∃ n : Nat, s.node = n ∧ ps[n]? = some p
 down : ∀ (i c m : Int), s.f (i, c) = some m → ∃ (a b : Nat) (q : List Int), i = a ∧ m = b ∧ ps[a]? = some q ∧ ps[b]? = some (q ++ [c])
 up : ∀ (a b : Nat) (q : List Int) (c : Int), ps[a]? = some q → ps[b]? = some (q ++ [c]) → s.f ((a : Int), c) = some (b : Int)

theorem nodup_at {ps : List (List Int)} (h : ps.Nodup) {a b : Nat} {q : List Int} (ha : ps[a]? = some q) (hb : ps[b]? = some q) : a = b := by
 have h1 := (List.getElem?_eq_some_iff.1 ha)
 have h2 := (List.getElem?_eq_some_iff.1 hb)
 obtain ⟨l1, e1⟩ := h1
 obtain ⟨l2, e2⟩ := h2
 exact (List.getElem_inj h).1 (e1.trans e2.symm)

theorem rep_step {s : NSt} {ps : List (List Int)} {p : List Int} (h : Rep s ps p) (x : Bool × Int) : Rep (nstep s x) (pstep (ps, p) x).1 (pstep (ps, p) x).2 := by
 obtain ⟨n0, hn0, hp0⟩ := h.at_
 obtain ⟨n, r, hn, hr, hq⟩ : ∃ (n : Nat) (r : List Int), (if x.1 then 0 else s.node) = (n : Int) ∧ ps[n]? = some r ∧ (if x.1 then [] else p) = r := by
  cases x.1 with
  | true => exact ⟨0, [], rfl, h.root, rfl⟩
  | false => exact ⟨n0, p, hn0, hp0, rfl⟩
 have hps : pstep (ps, p) x = (if r ++ [x.2] ∈ ps then ps else ps ++ [r ++ [x.2]], r ++ [x.2]) := by
  unfold pstep
  simp only [hq]
 rw [hps]
 by_cases hm : r ++ [x.2] ∈ ps
 ·
  obtain ⟨b, hb⟩ := List.getElem?_of_mem hm
  have hf := h.up n b r x.2 hr hb
  have hs : nstep s x = { s with node := (b : Int) } := nstep_found (by rw [hn]; exact hf)
  rw [hs, if_pos hm]
  exact ⟨h.many, h.nodup, h.root, h.closed, ⟨b, rfl, hb⟩, h.down, h.up⟩
 ·
  have hf : s.f ((n : Int), x.2) = none := by
   cases e : s.f ((n : Int), x.2) with
   | none => rfl
   | some m =>
    obtain ⟨a, b, q, h1, h2, h3, h4⟩ := h.down _ _ _ e
    have : n = a := by omega
    subst this
    rw [hr] at h3
    obtain rfl := Option.some.inj h3
    exact absurd (List.mem_of_getElem? h4) hm
  have hs := nstep_new (s := s) (p := x) (by rw [hn]; exact hf)
  rw [hs, if_neg hm, hn]
  have hlt : ∀ {i : Nat} {q : List Int}, ps[i]? = some q → (ps ++ [r ++ [x.2]])[i]? = some q := by
   intro i q hi
   rw [List.getElem?_append_left (List.getElem?_eq_some_iff.1 hi).1, hi]
  have hlast : (ps ++ [r ++ [x.2]])[ps.length]? = some (r ++ [x.2]) := by simp
  refine ⟨?_, ?_, hlt h.root, ?_, ⟨ps.length, h.many, hlast⟩, ?_, ?_⟩
  · simp [h.many]
  ·
   rw [List.nodup_append]
   refine ⟨h.nodup, by simp, ?_⟩
   intro a ha b hb
   simp at hb
   rw [hb]
   exact fun e => hm (e ▸ ha)
  ·
   intro q c hq
   rcases List.mem_append.1 hq with hq | hq
   · exact List.mem_append_left _ (h.closed q c hq)
   ·
    simp at hq
    rw [hq.1]
    exact List.mem_append_left _ (List.mem_of_getElem? hr)
  ·
   intro i c m hi
   dsimp only at hi
   by_cases e : (i, c) = ((n : Int), x.2)
   ·
    rw [if_pos e] at hi
    simp only [Prod.mk.injEq] at e
    obtain ⟨rfl, rfl⟩ := e
    refine ⟨n, ps.length, r, rfl, ?_, hlt hr, hlast⟩
    rw [← Option.some.inj hi, h.many]
   ·
    rw [if_neg e] at hi
    obtain ⟨a, b, q, h1, h2, h3, h4⟩ := h.down i c m hi
    exact ⟨a, b, q, h1, h2, hlt h3, hlt h4⟩
  ·
   intro a b q c ha hb
   dsimp only
   rw [List.getElem?_append] at ha hb
   by_cases hbl : b < ps.length
   ·
    rw [if_pos hbl] at hb
    by_cases hal : a < ps.length
    ·
     rw [if_pos hal] at ha
     rw [if_neg]
     · exact h.up a b q c ha hb
     ·
      intro e
      simp only [Prod.mk.injEq] at e
      obtain ⟨e1, rfl⟩ := e
      have : a = n := by omega
      subst this
      rw [hr] at ha
      obtain rfl := Option.some.inj ha
      exact hm (List.mem_of_getElem? hb)
    ·
     exfalso
     rw [if_neg hal] at ha
     have h0 : a - ps.length = 0 := by have := (List.getElem?_eq_some_iff.1 ha).1; simp at this; omega
     rw [h0] at ha
     simp at ha
     subst ha
     exact hm (h.closed _ _ (List.mem_of_getElem? hb))
   ·
    rw [if_neg hbl] at hb
    have h0 : b - ps.length = 0 := by have := (List.getElem?_eq_some_iff.1 hb).1; simp at this; omega
    rw [h0] at hb
    simp at hb
    obtain ⟨h1, h2⟩ := hb
    subst h1 h2
    by_cases hal : a < ps.length
    ·
     rw [if_pos hal] at ha
     have := nodup_at h.nodup ha hr
     subst this
     rw [if_pos rfl, h.many, show b = ps.length by omega]
    ·
     exfalso
     rw [if_neg hal] at ha
     have h0 : a - ps.length = 0 := by have := (List.getElem?_eq_some_iff.1 ha).1; simp at this; omega
     rw [h0] at ha
     simp at ha

end Go.Proofs.Ytglfdclpjmhoiaa
