/- How many nodes words have (layer 5): walked to the code's own way to count. -/
import Derived.Test.YtmpmjkbjnklgfaaS1
import Derived.Maps.Own
import Derived.Maps.OwnOps
import Derived.Maps.OwnIn
import Derived.Maps.Views
import Derived.DeepKeys5
import Derived.Test.YtmpmjkbjnklgfaaL3
namespace Go.Proofs.Ytmpmjkbjnklgfaa
open Go.RowKit Go.Sort Go.Maps
set_option linter.unusedVariables false
attribute [local go_sem] Oper.semAt_some
attribute [local simp] wide_fn wide_depth
attribute [local go_sem] wide_fn wide_depth

theorem laidOut5 : laidOutB Try.prog = true := by kernel_rfl
theorem edge_law : Keyed Try.prog 230 := Keyed.of_law (deep_law_laid laidOut5 (m := Try.prog.types.size + 1) (of_decide_eq_true (by kernel_rfl)) (of_decide_eq_true (by kernel_rfl)) (by kernel_rfl) (by kernel_rfl))
theorem zero_int (w : World) : (zeroValue 3).run Try.prog w = .ok (.int .i64 0) w := by kernel_rfl
theorem ekey (n c : Int) (hn : -9223372036854775808 ≤ n ∧ n ≤ 9223372036854775807) (hc : 0 ≤ c ∧ c ≤ 255) : ∃ kl, keyOf Try.prog 230 (.agg #[.int .i64 n, .int .u8 c]) = some kl := by
  have hk : Try.prog.keyType 230 = true := by kernel_rfl
  have h0 : 0 < Try.prog.types.size := of_decide_eq_true (by kernel_rfl)
  obtain ⟨m, hm⟩ : ∃ m, Try.prog.types.size + 1 = m + 1 + 1 := ⟨Try.prog.types.size - 1, by omega⟩
  have e1 : Try.prog.cellsOf 230 = 2 := by kernel_rfl
  have e2 : Try.prog.cellsOf 3 = 1 := by kernel_rfl
  have e3 : Try.prog.cellsOf 5 = 1 := by kernel_rfl
  have w1 : (Lit.int .i64 n).wf = true := by simp [Lit.wf, IntKind.min, IntKind.max, IntKind.signed, IntKind.bits]; omega
  have w2 : (Lit.int .u8 c).wf = true := by simp [Lit.wf, IntKind.min, IntKind.max, IntKind.signed, IntKind.bits]; omega
  unfold keyOf
  rw [Try.underlying230, hm]
  refine ⟨.string (keyBytes [.int .i64 n, .int .u8 c]), ?_⟩
  simp [hk, Value.formed, Value.cells, Program.keyLits, Try.underlying230, Try.underlying3, Try.underlying5, e1, e2, e3, w1, w2]

/-- The map's reading against the code's own way to count. -/
def KM (D : DataW Unit) (f : Int × Int → Option Int) : Prop := IsMap D ∧ ∀ n c kl, 0 ≤ n → n ≤ 2000000 → 0 ≤ c → c ≤ 255 → keyOf Try.prog 230 (.agg #[.int .i64 n, .int .u8 c]) = some kl →
  Maps.has D kl = (f (n, c)).isSome ∧ ∀ m, f (n, c) = some m → D.atKey kl (.lit (.int .i64 0)) = .lit (.int .i64 m)
theorem KM.start : KM (.map []) (fun _ => none) := ⟨isMap_empty, fun n c kl _ _ _ _ _ => ⟨rfl, fun m h => by cases h⟩⟩
theorem KM.put {D : DataW Unit} {f : Int × Int → Option Int} (h : KM D f) {n c m : Int} {kl : Lit} (hk : keyOf Try.prog 230 (.agg #[.int .i64 n, .int .u8 c]) = some kl) :
    KM (D.put kl (.lit (.int .i64 m))) (fun q => if q = (n, c) then some m else f q) := by
  have hkk := edge_law.key hk
  refine ⟨h.1.put _ _, fun n' c' kl' a1 a2 a3 a4 hk' => ?_⟩
  by_cases e : kl' = kl
  · subst e
    have := edge_law.inj hk' hk
    simp only [Value.agg.injEq, Array.mk.injEq, List.cons.injEq, Value.int.injEq, true_and, and_true] at this
    obtain ⟨rfl, rfl⟩ := this
    refine ⟨by rw [has_put_same h.1 hkk]; simp, fun k hm => ?_⟩
    simp only [if_true] at hm
    obtain rfl := Option.some.inj hm
    rw [atKey_put_same h.1 hkk]
  · have hne : ¬ ((n', c') = (n, c)) := by
      intro e2
      simp only [Prod.mk.injEq] at e2
      obtain ⟨rfl, rfl⟩ := e2
      rw [hk] at hk'
      exact e (Option.some.inj hk').symm
    simp only [if_neg hne]
    obtain ⟨h1, h2⟩ := h.2 n' c' kl' a1 a2 a3 a4 hk'
    refine ⟨by rw [has_put_other e, h1], fun k hm => ?_⟩
    rw [atKey_put_other e, h2 k hm]

theorem km_own {W : World} {b n g : Nat} {D : DataW Unit} {P : Program} {k : TypeId} {R : Value → Option (DataW Unit × List MemPlace)} (h : W.ownsMap P k R b n D) (hne : b ≠ g) (u : Value) : (W.setCell ⟨g, 0, none⟩ u).ownsMap P k R b n D :=
  h.kept (grownBy_setCell' W g u) (fun e => hne (by injection e))
theorem km_from {B b : Nat} {P : Program} {k : TypeId} {R : Value → Option (DataW Unit × List MemPlace)} (hb : b < B) {β : Type} (f : β → Nat) (p : β → DataW Unit → Prop) : OwnFrom B (fun s W => ∃ D, W.ownsMap P k R b (f s) D ∧ p s D) :=
  fun s A C row ⟨D, h, hp⟩ hg hr => ⟨D, h.kept hg (fun e => by have := (hr _ e.symm).1; omega), hp⟩
theorem new_at {W : World} {k : Nat} (h : W.heap.size = k) (t : TypeId) (v : Value) : Boxed (W.alloc (.cells #[v] t)) k t v := h ▸ Boxed.new W t v
theorem grown_set (W : World) (g : Nat) (u : Value) : W.grownBy (W.setCell ⟨g, 0, none⟩ u) (some g) := grownBy_setCell' W g u
/-- Blocks n, n + 2 and n + 3 may have turned, and new ones been laid. -/
structure Tn (n : Nat) (W W' : World) : Prop where
  os : W'.os = W.os
  tape : W'.tape = W.tape
  output : W'.output = W.output
  size : W.heap.size ≤ W'.heap.size
  block : ∀ k, k < W.heap.size → k < n ∨ n + 1 + 1 + 1 < k ∨ k = n + 1 → W'.heap[k]? = W.heap[k]?
theorem Tn.refl (n : Nat) (W : World) : Tn n W W := ⟨rfl, rfl, rfl, Nat.le_refl _, fun _ _ _ => rfl⟩
theorem Tn.grown {n : Nat} {A B C : World} {row : Option Nat} (h : Tn n A B) (hg : B.grownBy C row) (hr : ∀ k, row = some k → k = n ∨ k = n + 1 + 1 ∨ k = n + 1 + 1 + 1) : Tn n A C :=
  ⟨hg.os.trans h.os, hg.tape.trans h.tape, hg.output.trans h.output, Nat.le_trans h.size hg.size, fun k hk ho => (hg.block k (Nat.lt_of_lt_of_le hk h.size) (fun e => by have := hr k e.symm; omega)).trans (h.block k hk ho)⟩
theorem Tn.below {n : Nat} {w A B : World} (h : Tn n A B) (hb : Below n w A) (hn : n ≤ A.heap.size) : Below n w B :=
  ⟨h.os.trans hb.os, h.tape.trans hb.tape, h.output.trans hb.output, Nat.le_trans hb.size h.size, fun k hk => (h.block k (Nat.lt_of_lt_of_le hk hn) (.inl hk)).trans (hb.block k hk)⟩
theorem Tn.keeps {n B : Nat} {A C : World} (h : Tn n A C) (hB : n + 1 + 1 + 1 < B) : KeepsFrom B A C :=
  ⟨h.size, fun k o hk ho _ => (h.block k (Array.getElem?_eq_some_iff.1 ho).1 (.inr (.inl (by omega)))).trans ho⟩

set_option maxRecDepth 100000 in
set_option maxHeartbeats 4000000 in
theorem nodes_any (fold : Bool) (a : Option Addr) (la ca : Nat) (wss : List (List Int)) (w : World) (hA : Wds w a la wss) (hla : la ≤ 1000000) (hM : ∀ x ∈ wss, x.length ≤ 1000000) (hT : (begL fold wss).length ≤ 1000000) :
    Calls Try.prog 193 #[.bool fold, .slice a la ca] w fun e w' => e = .returned (.int .i64 (nrun (begL fold wss)).many) ∧ Below w.heap.size w w' := by
  have hmm := @run_makeMap Try.prog
  refine calls_of_wp_M Try.func193 rfl ?_
  simp only [Try.ntmps193, List.size_toArray, List.length_cons, List.length_nil, Nat.reduceAdd, Nat.reduceSub, Array.replicate_succ, Array.replicate_zero, List.push_toArray, List.append_toArray, List.nil_append, List.cons_append]
  go_wp2_with (go_at_call 198; refine (beginnings_any _ _ _ _ _).mono ?_; rintro e w' ⟨rfl, rfl⟩)
  obtain ⟨W3, hW3⟩ : ∃ W3, W3 = ((((((w.alloc (.map #[] 0)).alloc (.cells #[.map (some w.heap.size)] 225)).alloc (.cells #[.int .i64 1] 3)).alloc (.cells #[.int .i64 0] 3)).alloc (.cells #[.bool fold] 4)).alloc (.cells #[.slice a la ca] 37)) := ⟨_, rfl⟩
  rw [← hW3]
  have m0 : W3.ownsMap Try.prog 230 (plainElem Try.prog 3) w.heap.size 0 (.map [] : DataW Unit) := by
    rw [hW3]
    exact (((((World.ownsMap_made w Try.prog 230 (plainElem Try.prog 3)).alloc _).alloc _).alloc _).alloc _).alloc _
  have b1 : Boxed W3 (w.heap.size + 1) 225 (.map (some w.heap.size)) := by
    rw [hW3]
    exact ((((new_at (by simp) _ _).alloc _).alloc _).alloc _).alloc _
  have b2 : Boxed W3 (w.heap.size + 1 + 1) 3 (.int .i64 1) := by
    rw [hW3]
    exact (((new_at (by simp) _ _).alloc _).alloc _).alloc _
  have b3 : Boxed W3 (w.heap.size + 1 + 1 + 1) 3 (.int .i64 0) := by
    rw [hW3]
    exact ((new_at (by simp) _ _).alloc _).alloc _
  have b4 : Boxed W3 (w.heap.size + 1 + 1 + 1 + 1) 4 (.bool fold) := by
    rw [hW3]
    exact (new_at (by simp) _ _).alloc _
  have b5 : Boxed W3 (w.heap.size + 1 + 1 + 1 + 1 + 1) 37 (.slice a la ca) := by
    rw [hW3]
    exact new_at (by simp) _ _
  have hB3 : Below w.heap.size w W3 := by
    rw [hW3]
    exact ((((((Below.refl _ _).alloc (Nat.le_refl _) _).alloc (by simp) _).alloc (by simp; omega) _).alloc (by simp; omega) _).alloc (by simp; omega) _).alloc (by simp; omega) _
  have hs3 : W3.heap.size = w.heap.size + 1 + 1 + 1 + 1 + 1 + 1 := by rw [hW3]; simp
  clear hW3
  apply rangeF rfl (enters_of Try.func200 (by kernel_rfl) rfl) (beg_stops fold a la ca (w.heap.size + 1 + 1 + 1 + 1 + 1) (w.heap.size + 1 + 1 + 1 + 1) wss 8 w W3 (fun k => k < w.heap.size ∨ k = w.heap.size + 1 + 1 + 1 + 1 + 1 ∨ k = w.heap.size + 1 + 1 + 1 + 1) hA hB3 (fun k hk => .inl hk) (.inr (.inl rfl)) (.inr (.inr rfl)) (by intro k hk; omega) hla hM b5 b4)
    keepOn_t (keepOn_b (by intro k hk; omega)) (fun _ => rfl)
    (fun pre W => Boxed W (w.heap.size + 1) 225 (.map (some w.heap.size)) ∧ Boxed W (w.heap.size + 1 + 1) 3 (.int .i64 (nrun (pre.map Subtype.val)).many) ∧ Boxed W (w.heap.size + 1 + 1 + 1) 3 (.int .i64 (nrun (pre.map Subtype.val)).node) ∧
      (∃ D : DataW Unit, W.ownsMap Try.prog 230 (plainElem Try.prog 3) w.heap.size pre.length D ∧ KM D (nrun (pre.map Subtype.val)).f) ∧ Below w.heap.size w W ∧ W3.heap.size ≤ W.heap.size)
    (fun _ _ _ => False)
  case hI => exact OwnFrom.and (Own.from (boxed_own _ _ _) _) (OwnFrom.and (Own.from (boxed_own _ _ _) _) (OwnFrom.and (Own.from (boxed_own _ _ _) _) (OwnFrom.and (km_from (by omega) _ (fun (pre : List BgP) D => KM D (nrun (pre.map Subtype.val)).f)) (OwnFrom.and (ownFrom_below (Nat.le_refl _) (by omega)) (own_size _ _)))))
  case hIx => exact fun _ _ _ _ _ hs _ _ => hs
  case h0 => exact ⟨b1, b2, b3, ⟨_, m0, KM.start⟩, hB3, Nat.le_refl _⟩
  case hassign =>
    intro l x W K hK
    unfold bgEnc
    gi_wp2
    exact hK
  case hbody =>
    rintro l pre ⟨⟨first, c⟩, hc0, hc1⟩ W ⟨hb1, hb2, hb3, ⟨D, hown, hkm⟩, hB, hs⟩ hlen
    dsimp only at hc0 hc1 ⊢
    obtain ⟨g1, g2, g3, g4, _⟩ := nrun_bd (pre.map Subtype.val)
    rw [List.length_map] at g2 g4
    have wfm : (Lit.int .i64 (nrun (pre.map Subtype.val)).many).wf = true := by simp [Lit.wf, IntKind.min, IntKind.max, IntKind.signed, IntKind.bits]; omega
    cases first with
      | true =>
        have hownV : (W.setCell ⟨w.heap.size + 1 + 1 + 1, 0, none⟩ (.int .i64 0)).ownsMap Try.prog 230 (plainElem Try.prog 3) w.heap.size pre.length D := km_own hown (by omega) _
        have hb1V : Boxed (W.setCell ⟨w.heap.size + 1 + 1 + 1, 0, none⟩ (.int .i64 0)) (w.heap.size + 1) 225 (.map (some w.heap.size)) := hb1.other (by omega) _
        have hb2V : Boxed (W.setCell ⟨w.heap.size + 1 + 1 + 1, 0, none⟩ (.int .i64 0)) (w.heap.size + 1 + 1) 3 (.int .i64 (nrun (pre.map Subtype.val)).many) := hb2.other (by omega) _
        have hb3V : Boxed (W.setCell ⟨w.heap.size + 1 + 1 + 1, 0, none⟩ (.int .i64 0)) (w.heap.size + 1 + 1 + 1) 3 (.int .i64 0) := hb3.set _
        have hgV : W.grownBy (W.setCell ⟨w.heap.size + 1 + 1 + 1, 0, none⟩ (.int .i64 0)) (some (w.heap.size + 1 + 1 + 1)) := grown_set _ _ _
        have hsV : W.heap.size ≤ (W.setCell ⟨w.heap.size + 1 + 1 + 1, 0, none⟩ (.int .i64 0)).heap.size := hgV.size
        have hcc := hc1
        obtain ⟨kl, hkl⟩ := ekey 0 c (by omega) ⟨hc0, hc1⟩
        obtain ⟨hhas, hat0⟩ := hkm.2 0 c kl (by omega) (by omega) hc0 hc1 hkl
        have q1 := hb1V.alloc (.cells #[.int .i64 0, .int .u8 c] 230)
        have q2 := hb2V.alloc (.cells #[.int .i64 0, .int .u8 c] 230)
        have q3 := hb3V.alloc (.cells #[.int .i64 0, .int .u8 c] 230)
        have hcb1 := hb1.cell
        have hc2 := hb2.cell
        have hc3 := hb3.cell
        have hf2 := hb2.frozen
        have hf3 := hb3.frozen
        have r1 := q1.cell
        have r2 := q2.cell
        have r3 := q3.cell
        have s2 := q2.frozen
        have s3 := q3.frozen
        have HST := Lib.hid (nrun_snoc (pre.map Subtype.val) (true, c))
        cases hf : (nrun (pre.map Subtype.val)).f (0, c) with
        | some m =>
          have HF := Lib.hid hf
          rw [hf] at hhas
          have hat1 := hat0 m hf
          clear hf hat0
          gi_wp2_with (gi_at_lookup; refine wpListIn_lookup_own_ok_int _ rfl _ _ 225 rfl 230 3 .i64 edge_law Try.underlying225 Try.underlying3 (zero_int _) w.heap.size pre.length D rfl (hownV.alloc _) _ kl rfl hkl ?_; intro c' hat hwc; rw [hhas])
          obtain rfl : c' = m := by
            have hh := hat.symm.trans hat1
            simpa using hh
          have HN : Hid (nrun ((pre ++ [(⟨(true, c), hc0, hcc⟩ : BgP)]).map Subtype.val) = { nrun (pre.map Subtype.val) with node := c' }) := by
            rw [List.map_append, List.map_cons, List.map_nil, HST.out, nstep_found (by simpa using HF.out)]
            rfl
          have T := (((Tn.refl w.heap.size W).grown hgV (fun k e => by first | (cases e; omega) | cases e)).grown (World.grownBy_alloc _ (.cells #[.int .i64 0, .int .u8 c] 230) none) (fun k e => by cases e)).grown (grown_set _ (w.heap.size + 1 + 1 + 1) (.int .i64 c')) (fun k e => by cases e; omega)
          refine ⟨T.keeps (by omega), fun k hk => T.block k (by omega) (by omega), ?_⟩
          dsimp only
          rw [HN.out]
          exact ⟨q1.other (by omega) _, q2.other (by omega) _, q3.set _, ⟨D, by rw [List.length_append]; exact (km_own (hownV.alloc _) (by omega) _).mono (Nat.le_succ _), hkm⟩, T.below hB (by omega), by have := T.size; omega⟩
        | none =>
          have HF := Lib.hid hf
          rw [hf] at hhas
          clear hf hat0
          gi_wp2_with (first
            | (gi_at_lookup; refine wpListIn_lookup_own_ok_int _ rfl _ _ 225 rfl 230 3 .i64 edge_law Try.underlying225 Try.underlying3 (zero_int _) w.heap.size pre.length D rfl (hownV.alloc _) _ kl rfl hkl ?_; intro c' hat hwc; rw [hhas])
            | (gi_at_mapUpdate; refine wpListIn_mapUpdate_own _ rfl _ _ _ 225 rfl 230 3 edge_law Try.underlying225 _ w.heap.size pre.length D rfl (hownV.alloc _) (by unfold maxLen; omega) _ _ kl rfl rfl hkl _ [] (plainElem_int Try.underlying3 wfm) ?_; intro w5 hown5 hgrow5
               have q1' := q1.kept hgrow5 (by intro e; injection e; omega)
               have q2' := q2.kept hgrow5 (by intro e; injection e; omega)
               have q3' := q3.kept hgrow5 (by intro e; injection e; omega)
               have t2 := q2'.cell
               have t3 := q3'.cell
               have u2 := q2'.frozen
               have u3 := q3'.frozen)
            | gi_in)
          have HN : Hid (nrun ((pre ++ [(⟨(true, c), hc0, hcc⟩ : BgP)]).map Subtype.val) = { f := fun q => if q = (0, c) then some (nrun (pre.map Subtype.val)).many else (nrun (pre.map Subtype.val)).f q, many := (nrun (pre.map Subtype.val)).many + 1, node := (nrun (pre.map Subtype.val)).many }) := by
            rw [List.map_append, List.map_cons, List.map_nil, HST.out, nstep_new (by simpa using HF.out)]
            rfl
          have T := (((((Tn.refl w.heap.size W).grown hgV (fun k e => by first | (cases e; omega) | cases e)).grown (World.grownBy_alloc _ (.cells #[.int .i64 0, .int .u8 c] 230) none) (fun k e => by cases e)).grown hgrow5 (fun k e => by cases e; omega)).grown (grown_set _ (w.heap.size + 1 + 1) (.int .i64 ((nrun (pre.map Subtype.val)).many + 1))) (fun k e => by cases e; omega)).grown (grown_set _ (w.heap.size + 1 + 1 + 1) (.int .i64 (nrun (pre.map Subtype.val)).many)) (fun k e => by cases e; omega)
          refine ⟨T.keeps (by omega), fun k hk => T.block k (by omega) (by omega), ?_⟩
          dsimp only
          rw [HN.out]
          exact ⟨(q1'.other (by omega) _).other (by omega) _, (q2'.set _).other (by omega) _, (q3'.other (by omega) _).set _, ⟨_, by rw [List.length_append]; exact km_own (km_own hown5 (by omega) _) (by omega) _, hkm.put hkl⟩, T.below hB (by omega), by have := T.size; omega⟩
      | false =>
        have hownV : W.ownsMap Try.prog 230 (plainElem Try.prog 3) w.heap.size pre.length D := hown
        have hb1V : Boxed W (w.heap.size + 1) 225 (.map (some w.heap.size)) := hb1
        have hb2V : Boxed W (w.heap.size + 1 + 1) 3 (.int .i64 (nrun (pre.map Subtype.val)).many) := hb2
        have hb3V : Boxed W (w.heap.size + 1 + 1 + 1) 3 (.int .i64 (nrun (pre.map Subtype.val)).node) := hb3
        have hgV : W.grownBy W (some (w.heap.size + 1 + 1 + 1)) := World.grownBy.refl W _
        have hsV : W.heap.size ≤ W.heap.size := hgV.size
        have hcc := hc1
        obtain ⟨kl, hkl⟩ := ekey (nrun (pre.map Subtype.val)).node c (by omega) ⟨hc0, hc1⟩
        obtain ⟨hhas, hat0⟩ := hkm.2 (nrun (pre.map Subtype.val)).node c kl (by omega) (by omega) hc0 hc1 hkl
        have q1 := hb1V.alloc (.cells #[.int .i64 (nrun (pre.map Subtype.val)).node, .int .u8 c] 230)
        have q2 := hb2V.alloc (.cells #[.int .i64 (nrun (pre.map Subtype.val)).node, .int .u8 c] 230)
        have q3 := hb3V.alloc (.cells #[.int .i64 (nrun (pre.map Subtype.val)).node, .int .u8 c] 230)
        have hcb1 := hb1.cell
        have hc2 := hb2.cell
        have hc3 := hb3.cell
        have hf2 := hb2.frozen
        have hf3 := hb3.frozen
        have r1 := q1.cell
        have r2 := q2.cell
        have r3 := q3.cell
        have s2 := q2.frozen
        have s3 := q3.frozen
        have HST := Lib.hid (nrun_snoc (pre.map Subtype.val) (false, c))
        cases hf : (nrun (pre.map Subtype.val)).f ((nrun (pre.map Subtype.val)).node, c) with
        | some m =>
          have HF := Lib.hid hf
          rw [hf] at hhas
          have hat1 := hat0 m hf
          clear hf hat0
          gi_wp2_with (gi_at_lookup; refine wpListIn_lookup_own_ok_int _ rfl _ _ 225 rfl 230 3 .i64 edge_law Try.underlying225 Try.underlying3 (zero_int _) w.heap.size pre.length D rfl (hownV.alloc _) _ kl rfl hkl ?_; intro c' hat hwc; rw [hhas])
          obtain rfl : c' = m := by
            have hh := hat.symm.trans hat1
            simpa using hh
          have HN : Hid (nrun ((pre ++ [(⟨(false, c), hc0, hcc⟩ : BgP)]).map Subtype.val) = { nrun (pre.map Subtype.val) with node := c' }) := by
            rw [List.map_append, List.map_cons, List.map_nil, HST.out, nstep_found (by simpa using HF.out)]
            rfl
          have T := (((Tn.refl w.heap.size W).grown hgV (fun k e => by first | (cases e; omega) | cases e)).grown (World.grownBy_alloc _ (.cells #[.int .i64 (nrun (pre.map Subtype.val)).node, .int .u8 c] 230) none) (fun k e => by cases e)).grown (grown_set _ (w.heap.size + 1 + 1 + 1) (.int .i64 c')) (fun k e => by cases e; omega)
          refine ⟨T.keeps (by omega), fun k hk => T.block k (by omega) (by omega), ?_⟩
          dsimp only
          rw [HN.out]
          exact ⟨q1.other (by omega) _, q2.other (by omega) _, q3.set _, ⟨D, by rw [List.length_append]; exact (km_own (hownV.alloc _) (by omega) _).mono (Nat.le_succ _), hkm⟩, T.below hB (by omega), by have := T.size; omega⟩
        | none =>
          have HF := Lib.hid hf
          rw [hf] at hhas
          clear hf hat0
          gi_wp2_with (first
            | (gi_at_lookup; refine wpListIn_lookup_own_ok_int _ rfl _ _ 225 rfl 230 3 .i64 edge_law Try.underlying225 Try.underlying3 (zero_int _) w.heap.size pre.length D rfl (hownV.alloc _) _ kl rfl hkl ?_; intro c' hat hwc; rw [hhas])
            | (gi_at_mapUpdate; refine wpListIn_mapUpdate_own _ rfl _ _ _ 225 rfl 230 3 edge_law Try.underlying225 _ w.heap.size pre.length D rfl (hownV.alloc _) (by unfold maxLen; omega) _ _ kl rfl rfl hkl _ [] (plainElem_int Try.underlying3 wfm) ?_; intro w5 hown5 hgrow5
               have q1' := q1.kept hgrow5 (by intro e; injection e; omega)
               have q2' := q2.kept hgrow5 (by intro e; injection e; omega)
               have q3' := q3.kept hgrow5 (by intro e; injection e; omega)
               have t2 := q2'.cell
               have t3 := q3'.cell
               have u2 := q2'.frozen
               have u3 := q3'.frozen)
            | gi_in)
          have HN : Hid (nrun ((pre ++ [(⟨(false, c), hc0, hcc⟩ : BgP)]).map Subtype.val) = { f := fun q => if q = ((nrun (pre.map Subtype.val)).node, c) then some (nrun (pre.map Subtype.val)).many else (nrun (pre.map Subtype.val)).f q, many := (nrun (pre.map Subtype.val)).many + 1, node := (nrun (pre.map Subtype.val)).many }) := by
            rw [List.map_append, List.map_cons, List.map_nil, HST.out, nstep_new (by simpa using HF.out)]
            rfl
          have T := (((((Tn.refl w.heap.size W).grown hgV (fun k e => by first | (cases e; omega) | cases e)).grown (World.grownBy_alloc _ (.cells #[.int .i64 (nrun (pre.map Subtype.val)).node, .int .u8 c] 230) none) (fun k e => by cases e)).grown hgrow5 (fun k e => by cases e; omega)).grown (grown_set _ (w.heap.size + 1 + 1) (.int .i64 ((nrun (pre.map Subtype.val)).many + 1))) (fun k e => by cases e; omega)).grown (grown_set _ (w.heap.size + 1 + 1 + 1) (.int .i64 (nrun (pre.map Subtype.val)).many)) (fun k e => by cases e; omega)
          refine ⟨T.keeps (by omega), fun k hk => T.block k (by omega) (by omega), ?_⟩
          dsimp only
          rw [HN.out]
          exact ⟨(q1'.other (by omega) _).other (by omega) _, (q2'.set _).other (by omega) _, (q3'.other (by omega) _).set _, ⟨_, by rw [List.length_append]; exact km_own (km_own hown5 (by omega) _) (by omega) _, hkm.put hkl⟩, T.below hB (by omega), by have := T.size; omega⟩
  case hdone =>
    rintro D xs W hD hS ⟨hb1, hb2, hb3, hm, hB, hs⟩ hK
    have hc2 := hb2.cell
    go_wp2
    refine endM rfl hK (results_tmp rfl _ _ _) ⟨?_, put_below hB (by omega) (Nat.le_refl _) _⟩
    rw [← hS]
    rfl
  case hstop => exact fun _ _ _ _ _ _ h _ => h.elim

end Go.Proofs.Ytmpmjkbjnklgfaa
