/- Parts of the proof, one behind the other: XK, Xq, XL, XM, Xr, Fr, Fs. No condition but what each theorem states. -/
import Derived.Lib.ConvBytes
import Derived.Test.YtglfdclpjmhoiaaRows
import Derived.ProofKit
import Derived.OpenShut
import Derived.ShutString
import Derived.ChangeOld
import Derived.Lib.SmallJoins
import Derived.Deep.Matrix
import Derived.Test.YtglfdclpjmhoiaaZG1
import Derived.Test.YtglfdclpjmhoiaaZG3
import Derived.Test.YtglfdclpjmhoiaaZG6
import Derived.Test.YtglfdclpjmhoiaaZG8
set_option linter.unusedVariables false
set_option linter.unusedSimpArgs false

/- Greedy (layer 15): a set of words out of strings (law); walked. -/

namespace Go.Proofs.Ytglfdclpjmhoiaa
open Go.RowKit Go.Sort

/-- A string's bytes, as a row of their own. -/
def LitT (W : World) (v : Option Addr × Nat × Nat) (s : ByteArray) : Prop := ∃ (b : Nat) (C : Array Value) (fr : Nat × Nat) (cap : Nat), v = (some ⟨b, 0, none⟩, s.size, cap) ∧ s.size ≤ cap ∧ W.heap[b]? = some (.cells C 5 fr) ∧ ∀ j, j < s.size → C[j]? = some (.int .u8 (s.data.toList.getD j 0).toNat)
def numsT (s : ByteArray) : List Int := s.data.toList.map fun b => (b.toNat : Int)
theorem LitT.kept {W V : World} {v : Option Addr × Nat × Nat} {s : ByteArray} {row : Option Nat} (h : LitT W v s) (hg : W.grownBy V row) (hne : ∀ k cs fr, row = some k → W.heap[k]? ≠ some (.cells cs 5 fr)) : LitT V v s := by
 obtain ⟨b, C, fr, cap, e, hc, hb, hC⟩ := h
 exact ⟨b, C, fr, cap, e, hc, (hg.block b (Array.getElem?_eq_some_iff.1 hb).1 (fun e2 => hne b C fr e2.symm hb)).trans hb, hC⟩
theorem LitT.bys {W : World} {v : Option Addr × Nat × Nat} {s : ByteArray} (h : LitT W v s) : Bys W v.1 v.2.1 (numsT s) ∧ v.2.1 ≤ v.2.2 := by
 obtain ⟨b, C, fr, cap, rfl, hc, hb, hC⟩ := h
 have hl : (numsT s).length = s.size := by simp [numsT]
 refine ⟨⟨⟨hl, .inr ⟨b, 0, rfl, (Array.getElem?_eq_some_iff.1 hb).1, fun i x hx => ?_⟩⟩, fun x hx => ?_⟩, hc⟩
 ·
  have hi : i < s.size := by rw [← hl]; exact (List.getElem?_eq_some_iff.1 hx).1
  have := hC i hi
  unfold numsT at hx
  rw [List.getElem?_map] at hx
  cases hy : s.data.toList[i]? with
  | none => rw [hy] at hx; cases hx
  | some y =>
   rw [hy] at hx
   have hx2 : (y.toNat : Int) = x := Option.some.inj hx
   simp [World.cell?, hb, this, List.getD, hy, hx2]
 ·
  unfold numsT at hx
  obtain ⟨y, _, rfl⟩ := List.mem_map.1 hx
  have := y.toNat_lt
  omega
theorem LitT.new (W : World) (s : ByteArray) : LitT (Lib.bytesWorld W 5 s) (some ⟨W.heap.size, 0, none⟩, s.size, grownCap W s.size 0 5) s := by
 refine ⟨W.heap.size, _, _, _, rfl, grownCap_ge W _ _ _, Lib.bytesWorld_at_new W 5 s, fun j hj => ?_⟩
 have := Lib.bytesWorld_cell W 5 s j hj
 simpa [World.cell?, Lib.bytesWorld_at_new] using this
theorem bytesW_below (W : World) (s : ByteArray) : Below W.heap.size W (Lib.bytesWorld W 5 s) := ⟨rfl, rfl, rfl, by rw [Lib.bytesWorld_size]; omega, fun k hk => Lib.bytesWorld_at_old W _ s k hk⟩

theorem results_setG {fn : Func} {p : Tmp} {tmps : Array Value} {W : World} {B : Nat} {x y : Value} (h : fn.results = #[.cell p 24]) (hp : tmps.getD p undef = .pointer (some ⟨B, 0, none⟩)) (hB : W.heap[B]? = some (.cells #[x, y] 24 (0, 0))) :
  (results fn tmps).run Try.prog W = .ok (.agg #[x, y]) W := by
 have hl : (loadVar 24 ⟨B, 0, none⟩).run Try.prog W = .ok (.agg #[x, y]) W := run_loadVar_row W B 24 24 #[x, y] (0, 0) _ hB Try.underlying24 rfl (by kernel_rfl)
 have hp' : tmps[p]?.getD undef = .pointer (some ⟨B, 0, none⟩) := by simpa using hp
 simp [results, h, hp', asAddr, hl, Result.andThen]
abbrev encS (v : Option Addr × Nat × Nat) : Value := .slice v.1 v.2.1 v.2.2
set_option maxRecDepth 100000 in
set_option maxHeartbeats 16000000 in
theorem set21_any (RB n cc : Nat) (ss : List ByteArray) (w : World) (hR : w.heap[RB]? = some (.cells (ss.map Value.string).toArray 9 (0, 0))) (hl : ss.length = n) (hn : n ≤ 1000) :
  Calls Try.prog 21 #[.slice (some ⟨RB, 0, none⟩) n cc] w fun e w' => ∃ a c, e = .returned (.agg (setV false a n c)) ∧ Wds w' a n (ss.map numsT) ∧ Below w.heap.size w w' := by
 obtain ⟨i0, hi, hz0, hz1, hz2⟩ := info_parts words_info
 obtain ⟨W, hW⟩ : ∃ W, W = (w.alloc (.cells #[.bool false, .slice none 0 0] 24)).alloc (.cells #[.bool false, .slice none 0 0] 24) := ⟨_, rfl⟩
 have hB : Below w.heap.size w W := by rw [hW]; exact (below_alloc _ _).alloc (by simp) _
 have hO : Bx w.heap.size [.cells #[.bool false, .slice none 0 0] 24, .cells #[.bool false, .slice none 0 0] 24] W := by rw [hW]; exact ((Bx.nil _ w).snoc _ rfl).snoc _ (by simp)
 have hs : W.heap.size = w.heap.size + 1 + 1 := by rw [hW]; simp
 have hRl := (Array.getElem?_eq_some_iff.1 hR).1
 have KO : Hid (∀ V, Below (w.heap.size + 1) W V → V.heap[RB]? = some (.cells (ss.map Value.string).toArray 9 (0, 0)) ∧ V.heap[w.heap.size]? = some (.cells #[.bool false, .slice none 0 0] 24 (0, 0)) ∧ Below w.heap.size w V) := fun V hV => ⟨(hV.block RB (by omega)).trans ((hB.block RB hRl).trans hR), (hV.block _ (by omega)).trans (hO 0 _ rfl), hB.trans (hV.mono (by omega))⟩
 have HZ := Lib.hid (hO 1 _ rfl)
 have HL := Lib.hid hl
 have HRL := Lib.hid hRl
 clear hB hO hR hl
 go_enter Try.func21, Try.ntmps21
 go_upto_region 3 with fail
 rw [← hW]
 clear hW
 go_loopw [4] (fun s4 wr => ∃ (k : Nat) (v : Value) (vs : List (Option Addr × Nat × Nat)), k ≤ n ∧ s4 = .int .i64 (k : Int) ∧ Hid (wr.heap[w.heap.size + 1]? = some (.cells #[.bool false, v] 24 (0, 0))) ∧ Hid (wr.ownsRow (w.heap.size + 1 + 1) 62 1 v k (vs.map encS)) ∧ Hid (∀ (i : Nat) x s, vs[i]? = some x → ss[i]? = some s → LitT wr x s) ∧ Hid (Below (w.heap.size + 1) W wr)) (fun s _ => n - (intOf s).toNat)
 case atStart => exact ⟨0, _, [], Nat.zero_le _, rfl, HZ.out, World.ownsRow_nil _ _ _ _, fun i x s h => by simp at h, Below.refl _ _⟩
 case round =>
  clear HZ
  obtain ⟨k, v, vs, hk, rfl, HS, HV, HT, HBE⟩ := hrel
  obtain ⟨r1, r2, r3⟩ := KO.out wr HBE.out
  have how := HV.out
  obtain ⟨av, cv, rfl, _, _⟩ := SlK.own how
  have hs3 := HS.out
  have n1 : wr.cell? ⟨w.heap.size + 1, 1, none⟩ = some (.slice av k cv) := by simp [World.cell?, hs3]
  by_cases hlt : k < n
  ·
   have d0 : decide ((k : Int) < (n : Int)) = true := by simp; omega
   have d0' : decide (k < n) = true := by simp; omega
   obtain ⟨s, hss⟩ : ∃ s, ss[k]? = some s := ⟨_, List.getElem?_eq_getElem (show k < ss.length by rw [HL.out]; exact hlt)⟩
   have x0 : wr.cell? ⟨RB, k, none⟩ = some (.string s) := by simp [World.cell?, r1, hss]
   have i1 : (0 : Int) ≤ (k : Int) := by omega
   have i2 : (k : Int) < (n : Int) := by omega
   have HSS := Lib.hid hss
   have HLT := Lib.hid hlt
   have R1 := Lib.hid r1
   have R3 := Lib.hid r3
   clear hss hlt r1 r2 r3 hs3 how
   go_upto_region 5 with fail
   refine wp_region_noPanic ?_
   refine wp_region_held_drew (S := fun Y => Y.heap[RB]? = some (.cells (ss.map Value.string).toArray 9 (0, 0))) (by kernel_rfl) R1.out (fun hHeld => ?_)
   refine tkW 0 (v := ?_) ?_ ?_
   rotate_left
   ·
    intro V hV
    first | (go_simp; done) | (go_simp; with_reducible rfl)
   try simp only [Act.put, pA, pB, pC]
   refine tkW 2 (v := ?_) ?_ ?_
   rotate_left
   ·
    intro V hV
    first | (go_simp; done) | (go_simp; with_reducible rfl)
   try simp only [Act.put, pA, pB, pC]
   refine tkW 3 (v := ?_) ?_ ?_
   rotate_left
   ·
    intro V hV
    first | (go_simp; done) | (go_simp; with_reducible rfl)
   try simp only [Act.put, pA, pB, pC]
   refine tkW 4 (v := ?_) ?_ ?_
   rotate_left
   ·
    intro V hV
    first | (go_simp; done) | (go_simp; with_reducible rfl)
   try simp only [Act.put, pA, pB, pC]
   refine tkW 5 (v := ?_) ?_ ?_
   rotate_left
   ·
    intro V hV
    have q0 : V.cell? ⟨RB, k, none⟩ = some (.string s) := by simp [World.cell?, show V.heap[RB]? = _ from hV, HSS.out]
    first | (go_simp; done) | (go_simp; with_reducible rfl)
   try simp only [Act.put, pA, pB, pC]
   have hcv : ∀ X, (convert 9 62 (.string s)).run Try.prog X = .ok (.slice (some ⟨X.heap.size, 0, none⟩) s.size (grownCap X s.size 0 5)) (Lib.bytesWorld X 5 s) := fun X => Lib.run_convert_string_bytes X 9 62 5 s Try.underlying9 Try.underlying62 Try.underlying5
   have n1' : wr.drew.cell? ⟨w.heap.size + 1, 1, none⟩ = some (.slice av k cv) := n1
   obtain ⟨cp, hcp⟩ : ∃ cp, grownCap wr.drew s.size 0 5 = cp := ⟨_, rfl⟩
   obtain ⟨Y1, hY1⟩ : ∃ Y, Y = Lib.bytesWorld wr.drew 5 s := ⟨_, rfl⟩
   have hb1 : Below wr.heap.size wr Y1 := by rw [hY1]; exact (bel_drewN wr 1).trans (bytesW_below wr.drew s)
   have hn1 : LitT Y1 (some ⟨wr.heap.size, 0, none⟩, s.size, cp) s := by rw [hY1, ← hcp]; exact LitT.new wr.drew s
   obtain ⟨Y2, hY2⟩ : ∃ Y, Y = Y1.alloc (.cells #[.slice (some ⟨wr.heap.size, 0, none⟩) s.size cp] 62) := ⟨_, rfl⟩
   have hb12 : Below Y1.heap.size Y1 Y2 := by rw [hY2]; exact below_alloc _ _
   have hb2 : Below wr.heap.size wr Y2 := hb1.trans (hb12.mono hb1.size)
   have hx2 : Y2.heap[Y1.heap.size]? = some (.cells #[encS (some ⟨wr.heap.size, 0, none⟩, s.size, cp)] 62 (0, 0)) := by rw [hY2]; exact World.alloc_heap_new _ _
   have HV2 : Hid (Y2.ownsRow (w.heap.size + 1 + 1) 62 1 (.slice av k cv) k (vs.map encS)) := own_below_ HV.out hb2
   have HX2 : Hid (SlK 1 Y2 (some ⟨Y1.heap.size, 0, none⟩) 1 [encS (some ⟨wr.heap.size, 0, none⟩, s.size, cp)]) := ⟨rfl, .inr ⟨_, _, rfl, (Array.getElem?_eq_some_iff.1 hx2).1, fun i u hu => by
    cases i with
    | zero => simp at hu; simp [World.cell?, hx2, hu]
    | succ i => simp at hu⟩⟩
   have HT2 : Hid (∀ (i : Nat) x s', (vs ++ [(some ⟨wr.heap.size, 0, none⟩, s.size, cp)])[i]? = some x → ss[i]? = some s' → LitT Y2 x s') := fun i x s' hx hs' => by
    have hvl : vs.length = k := by have := HV.out.1; simpa using this
    rcases Nat.lt_or_ge i k with hi | hi
    ·
     rw [List.getElem?_append_left (by omega)] at hx
     exact (HT.out i x s' hx hs').kept (grown_of_below hb2 none) (fun _ _ _ e => by cases e)
    ·
     rw [List.getElem?_append_right (by omega)] at hx
     have hi2 : i = k := by
      have := (List.getElem?_eq_some_iff.1 hx).1
      simp at this
      omega
     subst hi2
     rw [hvl, Nat.sub_self] at hx
     simp at hx
     rw [HSS.out] at hs'
     cases hs'
     rw [← hx]
     exact hn1.kept (grown_of_below hb12 none) (fun _ _ _ e => by cases e)
   have HS2 : Hid (Y2.heap[w.heap.size + 1]? = some (.cells #[.bool false, .slice av k cv] 24 (0, 0))) := (hb2.block _ (Array.getElem?_eq_some_iff.1 HS.out).1).trans HS.out
   have HR2 : Hid (Y2.heap[RB]? = some (.cells (ss.map Value.string).toArray 9 (0, 0))) := (hb2.block _ (Array.getElem?_eq_some_iff.1 R1.out).1).trans R1.out
   have HR1 : Hid (Y1.heap[RB]? = some (.cells (ss.map Value.string).toArray 9 (0, 0))) := (hb1.block _ (Array.getElem?_eq_some_iff.1 R1.out).1).trans R1.out
   have hbe2 := HBE.out.trans (hb2.mono (by have := (Array.getElem?_eq_some_iff.1 HS.out).1; omega))
   have HBE2 := Lib.hid hbe2
   have hy1 : wr.drew.heap.size = wr.heap.size := rfl
   have m1 : Y1.cell? ⟨w.heap.size + 1, 1, none⟩ = some (.slice av k cv) := (hb1.cell (p := ⟨w.heap.size + 1, 1, none⟩) (Array.getElem?_eq_some_iff.1 HS.out).1).trans n1
   have m2 : Y2.cell? ⟨w.heap.size + 1, 1, none⟩ = some (.slice av k cv) := (hb2.cell (p := ⟨w.heap.size + 1, 1, none⟩) (Array.getElem?_eq_some_iff.1 HS.out).1).trans n1
   have hkb : k ≤ 1000 := by omega
   have hbase2 : w.heap.size + 1 + 1 ≤ Y2.heap.size := by have := (Array.getElem?_eq_some_iff.1 HS2.out).1; omega
   have HLAST : Hid (∀ v' w8, w8.ownsRow (w.heap.size + 1 + 1) 62 1 v' (k + 1) (vs.map encS ++ [encS (some ⟨wr.heap.size, 0, none⟩, s.size, cp)]) → Y2.grownBy w8 (Value.slice av k cv).ownBlock →
     w8.heap[RB]? = some (.cells (ss.map Value.string).toArray 9 (0, 0)) ∧ w8.heap[w.heap.size + 1]? = some (.cells #[.bool false, .slice av k cv] 24 (0, 0)) ∧
     (w8.setCell ⟨w.heap.size + 1, 1, none⟩ v').heap[RB]? = some (.cells (ss.map Value.string).toArray 9 (0, 0)) ∧
     (w8.setCell ⟨w.heap.size + 1, 1, none⟩ v').heap[w.heap.size + 1]? = some (.cells #[.bool false, v'] 24 (0, 0)) ∧
     (w8.setCell ⟨w.heap.size + 1, 1, none⟩ v').ownsRow (w.heap.size + 1 + 1) 62 1 v' (k + 1) ((vs ++ [((some ⟨wr.heap.size, 0, none⟩ : Option Addr), s.size, cp)]).map encS) ∧
     (∀ (i : Nat) x s', (vs ++ [(some ⟨wr.heap.size, 0, none⟩, s.size, cp)])[i]? = some x → ss[i]? = some s' → LitT (w8.setCell ⟨w.heap.size + 1, 1, none⟩ v') x s') ∧ Below (w.heap.size + 1) W (w8.setCell ⟨w.heap.size + 1, 1, none⟩ v')) := fun v' w8 ho hg => by
    have hrow := row_ltG HV2.out
    have a1 : w8.heap[RB]? = some (.cells (ss.map Value.string).toArray 9 (0, 0)) := (hg.block _ (Array.getElem?_eq_some_iff.1 HR2.out).1 (fun e => by have := (hrow _ e.symm).1; have := HRL.out; omega)).trans HR2.out
    have a2 : w8.heap[w.heap.size + 1]? = some (.cells #[.bool false, .slice av k cv] 24 (0, 0)) := (hg.block _ (Array.getElem?_eq_some_iff.1 HS2.out).1 (fun e => by have := (hrow _ e.symm).1; omega)).trans HS2.out
    have hg2 := grown_set2 w8 (w.heap.size + 1) 1 v'
    refine ⟨a1, a2, (hg2.block RB (Array.getElem?_eq_some_iff.1 a1).1 (fun e => by have := Option.some.inj e; have := HRL.out; omega)).trans a1, set_at (i := 1) a2 v', ?_, fun i x s' hx hs' => ?_, (HBE2.out.grown hg (by omega) (fun j e => by have := (hrow j e).1; omega)).setCell (Nat.le_refl _) _⟩
    ·
     rw [List.map_append]
     exact ho.kept hg2 (.inr fun e => by have := (row_ltG ho _ e).1; omega)
    ·
     refine ((HT2.out i x s' hx hs').kept hg (fun q cs fr e e2 => ?_)).kept hg2 (fun q cs fr e e2 => ?_)
     ·
      rcases HV2.out.2 with ⟨e3, _⟩ | ⟨g, cap, cur, e3, _, hgb, _⟩
      · rw [e3] at e; cases e
      ·
       rw [e3] at e
       have e4 : g = q := Option.some.inj e
       rw [e4, e2] at hgb
       injection hgb with h1
       injection h1 with h2 h3
       exact absurd h3 (by decide)
     ·
      have e4 := Option.some.inj e
      rw [← e4, a2] at e2
      injection e2 with h1
      injection h1 with h2 h3
      exact absurd h3 (by decide)
   have HY1 := Lib.hid hY1
   have HY2 := Lib.hid hY2
   clear hY1 hY2 hb1 hn1 hb12 hb2 hx2 hbe2
   refine wpAnyH_ready (rs := [1, 6]) (by as_aux_lemma => kernel_rfl) (by simp) ?_
   refine AllReadyH.cons (by simp only [pD, pE, pF]; rfl) (fun K hK => ?_) (AllReadyH.cons (by simp only [pD, pE, pF]; rfl) (fun K hK => ?_) AllReadyH.nil)
   ·
    go_simp
    refine hK.out _ _ hHeld (fun h11 => ?_)
    clear hK K h11
    try simp only [Act.put, pA, pB, pC]
    refine rdy 6 (fun K hK => ?_)
    go_simp
    rw [← HY1.out]
    refine hK.out _ _ HR1.out (fun h11 => ?_)
    clear hK K h11
    try simp only [Act.put, pA, pB, pC]
    refine rdy 7 (fun K hK => ?_)
    go_simp
    rw [← HY2.out]
    refine hK.out _ _ HR2.out (fun h11 => ?_)
    clear hK K h11
    try simp only [Act.put, pA, pB, pC]
    refine rdy 8 (fun K hK => ?_)
    refine wanted_step (by kernel_rfl) ?_
    refine oper_append_slK _ _ _ 22 rfl (w.heap.size + 1 + 1) 62 i0 (.slice none 0 0) 1 24 Try.underlying22 hi hz0 hz1 hz2 rfl (by decide) _ k _ rfl HV2.out (some ⟨Y1.heap.size, 0, none⟩) 1 1 _ rfl HX2.out (by simp [Value.oneCell']) (by unfold maxLen; omega) (by omega) hbase2 ?_
    intro v' w8 hown' hgrow hat
    obtain ⟨a8, c8, e8, _, _⟩ := SlK.own hown'
    subst e8
    obtain ⟨j1, j2, j3, j4, j5, j6, j7⟩ := HLAST.out _ w8 hown' hgrow
    refine hK.out _ _ j1 (fun h8 => ?_)
    have g1 : w8.cell? ⟨w.heap.size + 1, 1, none⟩ = some (.slice av k cv) := by simp [World.cell?, j2]
    have g2 : w8.frozen? ⟨w.heap.size + 1, 1, none⟩ = false := by simp [World.frozen?, j2]
    have g3 : w.heap.size + 1 < w8.heap.size := (Array.getElem?_eq_some_iff.1 j2).1
    have J3 := Lib.hid j3
    have J4 := Lib.hid j4
    have J5 := Lib.hid j5
    have J6 := Lib.hid j6
    have J7 := Lib.hid j7
    clear hK K hown' hgrow hat j1 j2 j3 j4 j5 j6 j7
    try simp only [Act.put, pA, pB, pC]
    refine tkW 9 (v := ?_) ?_ ?_
    rotate_left
    ·
     intro V hV
     first | (go_simp; done) | (go_simp; with_reducible rfl)
    try simp only [Act.put, pA, pB, pC]
    refine rdy 10 (fun K hK => ?_)
    go_simp
    refine hK.out _ _ J3.out (fun h10 => ?_)
    clear hK K g1 g2 g3 h10 h8 n1 n1' m1 m2
    try simp only [Act.put, pA, pB, pC]
    refine wpAnyH_done (by kernel_rfl) ?_ _
    refine NoPanic.normal ?_
    go_wp2
    go_roundw
    case rel => exact ⟨k + 1, _, _, HLT.out, by go_num, J4.out, J5.out, J6.out, J7.out⟩
    case measure =>
     have := HLT.out
     simp [intOf]
     omega
   ·
    go_simp
    rw [← HY1.out]
    refine hK.out _ _ HR1.out (fun h11 => ?_)
    clear hK K h11
    try simp only [Act.put, pA, pB, pC]
    refine wpAnyH_ready (rs := [1, 7]) (by as_aux_lemma => kernel_rfl) (by simp) ?_
    refine AllReadyH.cons (by simp only [pD, pE, pF]; rfl) (fun K hK => ?_) (AllReadyH.cons (by simp only [pD, pE, pF]; rfl) (fun K hK => ?_) AllReadyH.nil)
    ·
     go_simp
     refine hK.out _ _ HR1.out (fun h11 => ?_)
     clear hK K h11
     try simp only [Act.put, pA, pB, pC]
     refine rdy 7 (fun K hK => ?_)
     go_simp
     rw [← HY2.out]
     refine hK.out _ _ HR2.out (fun h11 => ?_)
     clear hK K h11
     try simp only [Act.put, pA, pB, pC]
     refine rdy 8 (fun K hK => ?_)
     refine wanted_step (by kernel_rfl) ?_
     refine oper_append_slK _ _ _ 22 rfl (w.heap.size + 1 + 1) 62 i0 (.slice none 0 0) 1 24 Try.underlying22 hi hz0 hz1 hz2 rfl (by decide) _ k _ rfl HV2.out (some ⟨Y1.heap.size, 0, none⟩) 1 1 _ rfl HX2.out (by simp [Value.oneCell']) (by unfold maxLen; omega) (by omega) hbase2 ?_
     intro v' w8 hown' hgrow hat
     obtain ⟨a8, c8, e8, _, _⟩ := SlK.own hown'
     subst e8
     obtain ⟨j1, j2, j3, j4, j5, j6, j7⟩ := HLAST.out _ w8 hown' hgrow
     refine hK.out _ _ j1 (fun h8 => ?_)
     have g1 : w8.cell? ⟨w.heap.size + 1, 1, none⟩ = some (.slice av k cv) := by simp [World.cell?, j2]
     have g2 : w8.frozen? ⟨w.heap.size + 1, 1, none⟩ = false := by simp [World.frozen?, j2]
     have g3 : w.heap.size + 1 < w8.heap.size := (Array.getElem?_eq_some_iff.1 j2).1
     have J3 := Lib.hid j3
     have J4 := Lib.hid j4
     have J5 := Lib.hid j5
     have J6 := Lib.hid j6
     have J7 := Lib.hid j7
     clear hK K hown' hgrow hat j1 j2 j3 j4 j5 j6 j7
     try simp only [Act.put, pA, pB, pC]
     refine tkW 9 (v := ?_) ?_ ?_
     rotate_left
     ·
      intro V hV
      first | (go_simp; done) | (go_simp; with_reducible rfl)
     try simp only [Act.put, pA, pB, pC]
     refine rdy 10 (fun K hK => ?_)
     go_simp
     refine hK.out _ _ J3.out (fun h10 => ?_)
     clear hK K g1 g2 g3 h10 h8 n1 n1' m1 m2
     try simp only [Act.put, pA, pB, pC]
     refine wpAnyH_done (by kernel_rfl) ?_ _
     refine NoPanic.normal ?_
     go_wp2
     go_roundw
     case rel => exact ⟨k + 1, _, _, HLT.out, by go_num, J4.out, J5.out, J6.out, J7.out⟩
     case measure =>
      have := HLT.out
      simp [intOf]
      omega
    ·
     go_simp
     rw [← HY2.out]
     refine hK.out _ _ HR2.out (fun h11 => ?_)
     clear hK K h11
     try simp only [Act.put, pA, pB, pC]
     refine rdy 1 (fun K hK => ?_)
     go_simp
     refine hK.out _ _ HR2.out (fun h11 => ?_)
     clear hK K h11
     try simp only [Act.put, pA, pB, pC]
     refine rdy 8 (fun K hK => ?_)
     refine wanted_step (by kernel_rfl) ?_
     refine oper_append_slK _ _ _ 22 rfl (w.heap.size + 1 + 1) 62 i0 (.slice none 0 0) 1 24 Try.underlying22 hi hz0 hz1 hz2 rfl (by decide) _ k _ rfl HV2.out (some ⟨Y1.heap.size, 0, none⟩) 1 1 _ rfl HX2.out (by simp [Value.oneCell']) (by unfold maxLen; omega) (by omega) hbase2 ?_
     intro v' w8 hown' hgrow hat
     obtain ⟨a8, c8, e8, _, _⟩ := SlK.own hown'
     subst e8
     obtain ⟨j1, j2, j3, j4, j5, j6, j7⟩ := HLAST.out _ w8 hown' hgrow
     refine hK.out _ _ j1 (fun h8 => ?_)
     have g1 : w8.cell? ⟨w.heap.size + 1, 1, none⟩ = some (.slice av k cv) := by simp [World.cell?, j2]
     have g2 : w8.frozen? ⟨w.heap.size + 1, 1, none⟩ = false := by simp [World.frozen?, j2]
     have g3 : w.heap.size + 1 < w8.heap.size := (Array.getElem?_eq_some_iff.1 j2).1
     have J3 := Lib.hid j3
     have J4 := Lib.hid j4
     have J5 := Lib.hid j5
     have J6 := Lib.hid j6
     have J7 := Lib.hid j7
     clear hK K hown' hgrow hat j1 j2 j3 j4 j5 j6 j7
     try simp only [Act.put, pA, pB, pC]
     refine tkW 9 (v := ?_) ?_ ?_
     rotate_left
     ·
      intro V hV
      first | (go_simp; done) | (go_simp; with_reducible rfl)
     try simp only [Act.put, pA, pB, pC]
     refine rdy 10 (fun K hK => ?_)
     go_simp
     refine hK.out _ _ J3.out (fun h10 => ?_)
     clear hK K g1 g2 g3 h10 h8 n1 n1' m1 m2
     try simp only [Act.put, pA, pB, pC]
     refine wpAnyH_done (by kernel_rfl) ?_ _
     refine NoPanic.normal ?_
     go_wp2
     go_roundw
     case rel => exact ⟨k + 1, _, _, HLT.out, by go_num, J4.out, J5.out, J6.out, J7.out⟩
     case measure =>
      have := HLT.out
      simp [intOf]
      omega
  ·
   obtain rfl : k = n := by omega
   have d0 : decide ((k : Int) < (k : Int)) = false := by simp
   have n0 : wr.cell? ⟨w.heap.size + 1, 0, none⟩ = some (.bool false) := by simp [World.cell?, hs3]
   have u0 : wr.cell? ⟨w.heap.size, 0, none⟩ = some (.bool false) := by simp [World.cell?, r2]
   have u1 : wr.cell? ⟨w.heap.size, 1, none⟩ = some (.slice none 0 0) := by simp [World.cell?, r2]
   have f0 : wr.frozen? ⟨w.heap.size, 0, none⟩ = false := by simp [World.frozen?, r2]
   have f1 : wr.frozen? ⟨w.heap.size, 1, none⟩ = false := by simp [World.frozen?, r2]
   have l0 : w.heap.size < wr.heap.size := (Array.getElem?_eq_some_iff.1 r2).1
   have RR2 := Lib.hid r2
   have R2 := Lib.hid (set_at (i := 1) (set_at (i := 0) r2 (.bool false)) (.slice av k cv))
   have R3 := Lib.hid r3
   clear hs3 how r1 r2 r3 hlt
   go_wp2
   refine bodyPost_ret (results_setG rfl rfl (by simpa using R2.out)) rfl ?_
   have hg : wr.grownBy ((wr.setCell ⟨w.heap.size, 0, none⟩ (.bool false)).setCell ⟨w.heap.size, 1, none⟩ (.slice av k cv)) (some w.heap.size) := (grown_set2 _ _ _ _).trans (grown_set2 _ _ _ _)
   have hv2 := HV.out.kept hg (.inr fun e => by have := (row_ltG HV.out _ e).1; omega)
   obtain ⟨a9, c9, e9, _, hsl⟩ := SlK.own hv2
   cases e9
   have hvl : vs.length = k := by have := HV.out.1; simpa using this
   refine ⟨av, cv, rfl, ⟨vs, ⟨hvl, hsl.2.imp id fun ⟨b, off, e, hlt, hc⟩ => ⟨b, off, e, hlt, fun i x hx => hc i _ (by rw [List.getElem?_map, hx]; rfl)⟩⟩, by rw [List.length_map, HL.out, hvl], fun i v xs hv hx => ?_⟩, (R3.out.setCell (Nat.le_refl _) _).setCell (Nat.le_refl _) _⟩
   rw [List.getElem?_map] at hx
   cases hs' : ss[i]? with
   | none => rw [hs'] at hx; cases hx
   | some s' =>
    rw [hs'] at hx
    have hx2 : numsT s' = xs := Option.some.inj hx
    rw [← hx2]
    refine ((HT.out i v s' hv hs').kept hg (fun q cs fr e e2 => ?_)).bys
    have e4 := Option.some.inj e
    rw [← e4, RR2.out] at e2
    injection e2 with h1
    injection h1 with h2 h3
    exact absurd h3 (by decide)
end Go.Proofs.Ytglfdclpjmhoiaa

/- Greedy (layer 15): what is chosen, one behind the other (plain). -/

namespace Go.Proofs.Ytglfdclpjmhoiaa
open Go.RowKit Go.Sort

theorem ch_begin {wss : List (List Int)} : ∀ {l : List HitP} {e : Int} {k : Nat} {x : HitP}, (chG wss e l)[k]? = some x → endG e ((chG wss e l).take k) ≤ bgG wss x
 | [], e, k, x, h => by simp [chG] at h
 | y :: l, e, k, x, h => by
  rw [chG_cons] at h ⊢
  by_cases hb : bgG wss y < e
  ·
   rw [if_pos hb] at h ⊢
   exact ch_begin h
  ·
   rw [if_neg hb] at h ⊢
   cases k with
   | zero =>
    simp at h
    subst h
    have : endG e (List.take 0 (y :: chG wss y.1 l)) = e := rfl
    rw [this]
    omega
   | succ k =>
    rw [List.getElem?_cons_succ] at h
    rw [List.take_succ_cons, endG_cons]
    exact ch_begin h

/-- Does k cover x? -/
def covB (wss : List (List Int)) (x k : HitP) : Bool := (decide (bgG wss k < bgG wss x) && decide (bgG wss x < k.1)) || (decide (bgG wss k = bgG wss x) && decide (x.1 ≤ k.1))
theorem covB_any {wss : List (List Int)} {S : List HitP} {x : HitP} (h : covG wss S x) : S.any (covB wss x) = true := by
 obtain ⟨k, hk, h⟩ := h
 rw [List.any_eq_true]
 refine ⟨k, hk, ?_⟩
 unfold covB
 rcases h with ⟨h1, h2⟩ | ⟨h1, h2⟩
 · rw [decide_eq_true h1, decide_eq_true h2]; rfl
 · rw [decide_eq_true h1, decide_eq_true h2]; simp
theorem chosen_all {wss : List (List Int)} {l : List HitP} (hm : ∀ x ∈ l, mayG wss x = true) : ∀ x ∈ l, (chG wss 0 (srtG wss l)).any (covB wss x) = true := fun x hx => by
 refine covB_any (cov_all (srtG_srt l) (fun y hy => ?_) x (mem_srtG.2 hx))
 have := (mayG_iff.1 (hm y (mem_srtG.1 hy))).2.2.1
 unfold bgG
 omega
theorem chosen_mem {wss : List (List Int)} {l : List HitP} {e : Int} {x : HitP} (h : x ∈ chG wss e (srtG wss l)) : x ∈ l := mem_srtG.1 ((chG_sub (wss := wss) e (srtG wss l)).subset h)
end Go.Proofs.Ytglfdclpjmhoiaa

/- Greedy (layer 15): what the law's examples answer (plain). -/

namespace Go.Proofs.Ytglfdclpjmhoiaa
open Go.RowKit Go.Sort

/-- he, she, her; ab, bc, cd. -/
def heG : List (List Int) := [[104, 101], [115, 104, 101], [104, 101, 114]]
def abG : List (List Int) := [[97, 98], [98, 99], [99, 100]]
theorem heG_set : ([⟨#[104, 101]⟩, ⟨#[115, 104, 101]⟩, ⟨#[104, 101, 114]⟩] : List ByteArray).map numsT = heG := by decide +kernel
theorem abG_set : ([⟨#[97, 98]⟩, ⟨#[98, 99]⟩, ⟨#[99, 100]⟩] : List ByteArray).map numsT = abG := by decide +kernel
theorem heG_right : rightP false heG = true ∧ rightP false abG = true ∧ rightP false [] = false ∧ longL heG = 3 ∧ (begL false heG).length ≤ 1000000 ∧ (begL false abG).length ≤ 1000000 ∧ (begL false []).length ≤ 1000000 := by decide +kernel
theorem heG_may : (∀ x ∈ ([(4, 1), (4, 0), (5, 2)] : List HitP), mayG heG x = true) ∧ mayG heG (2, 1) = false ∧ (∀ x ∈ ([(2, 0), (3, 1), (4, 2)] : List HitP), mayG abG x = true) := by decide +kernel
theorem heG_pick : chG heG 0 (srtG heG [(4, 1), (4, 0), (5, 2)]) = [(4, 1)] ∧ chG abG 0 (srtG abG [(2, 0), (3, 1), (4, 2)]) = [(2, 0), (4, 2)] := by decide +kernel
theorem heG_one : tkG heG (4 - 3) (chG heG 0 (srtG heG ([] ++ [(4, 1), (4, 0)]))) = [(4, 1)] ∧ endG 0 ([(4, 1)] : List HitP) = 4 ∧ (([] ++ [(4, 1), (4, 0)] : List HitP).filter fun x => !decide (bgG heG x < 4)) = [] := by decide +kernel
theorem heG_two : tkG heG (5 - 3) (chG heG 4 (srtG heG ([] ++ [(5, 2)]))) = [] ∧ endG 4 ([] : List HitP) = 4 ∧ (([] ++ [(5, 2)] : List HitP).filter fun x => !decide (bgG heG x < 4)) = [] := by decide +kernel
theorem heG_shut : tkG heG lastG (chG heG 4 (srtG heG [])) = [] := by decide +kernel
theorem heG_good : GoodG heG (0 + 1) 4 [(4, 1), (4, 0)] ∧ GoodG heG (4 + 1) 5 [(5, 2)] := by
 constructor
 ·
  intro k x h
  match k, h with
  | 0, h =>
   cases h
   decide +kernel
  | 1, h =>
   cases h
   decide +kernel
  | k + 2, h => simp at h
 ·
  intro k x h
  match k, h with
  | 0, h =>
   cases h
   decide +kernel
  | k + 1, h => simp at h
end Go.Proofs.Ytglfdclpjmhoiaa

/- Greedy (layer 15): the law wakes; walked. -/

namespace Go.Proofs.Ytglfdclpjmhoiaa
open Go.RowKit Go.Sort

/-- A row of hits that is not the chooser's block, whatever becomes of the chooser. -/
def HtsX (C : Nat) (W : World) (a : Option Addr) (n : Nat) (l : List HitP) : Prop := Hts W a n l ∧ (n ≠ 0 → ∀ q, a = some q → q.block ≠ C)
theorem HtsX.gr {C N : Nat} {W V : World} {a : Option Addr} {n : Nat} {l : List HitP} (h : HtsX C W a n l) (hg : GrB N C W V) (hN : N = W.heap.size) : HtsX C V a n l := by
 subst hN
 refine ⟨⟨⟨h.1.1.1, ?_⟩, h.1.2⟩, h.2⟩
 by_cases h0 : n = 0
 · exact .inl h0
 ·
  obtain ⟨b, off, e, hlt, hc⟩ := h.1.1.2.resolve_left h0
  refine .inr ⟨b, off, e, Nat.lt_of_lt_of_le hlt hg.size, fun i u hu => ?_⟩
  rw [World.cell?_of_block (a := ⟨b, off + i, none⟩) (hg.block b hlt (h.2 h0 _ e))]
  exact hc i u hu
theorem Sl1.gr {C N : Nat} {W V : World} {a : Option Addr} {n : Nat} {xs : List Int} (h : Sl1 (Value.int .i64) W a n xs) (hg : GrB N C W V) (hN : N = W.heap.size) (hC : n ≠ 0 → ∀ q, a = some q → q.block ≠ C) : Sl1 (Value.int .i64) V a n xs := by
 subst hN
 refine ⟨h.1, ?_⟩
 by_cases h0 : n = 0
 · exact .inl h0
 ·
  obtain ⟨b, off, e, hlt, hc⟩ := h.2.resolve_left h0
  refine .inr ⟨b, off, e, Nat.lt_of_lt_of_le hlt hg.size, fun i u hu => ?_⟩
  rw [World.cell?_of_block (a := ⟨b, off + i, none⟩) (hg.block b hlt (hC h0 _ e))]
  exact hc i u hu

theorem Hts.x {C : Nat} {W V : World} {a : Option Addr} {n : Nat} {l : List HitP} (h : Hts W a n l) (hb : Below W.heap.size W V) (hC : W.heap.size ≤ C) : HtsX C V a n l := by
 refine ⟨h.below hb, fun h0 q hq => ?_⟩
 obtain ⟨b, off, e, hlt, _⟩ := h.1.2.resolve_left h0
 rw [hq] at e
 have e2 := Option.some.inj e
 rw [e2]
 show b ≠ C
 omega

set_option maxRecDepth 100000 in
set_option maxHeartbeats 16000000 in
theorem wakes15 (w : World) : Calls Try.prog 7 #[] w fun e w' => e = .returned (.bool true) ∧ Below w.heap.size w w' := by
 obtain ⟨W1, hW1⟩ : ∃ W, W = w.alloc (.cells #[.string ⟨#[104, 101]⟩, .string ⟨#[115, 104, 101]⟩, .string ⟨#[104, 101, 114]⟩] 9) := ⟨_, rfl⟩
 have hb1 : Below w.heap.size w W1 := by rw [hW1]; exact below_alloc _ _
 have hx1 : W1.heap[w.heap.size]? = some (.cells (([⟨#[104, 101]⟩, ⟨#[115, 104, 101]⟩, ⟨#[104, 101, 114]⟩] : List ByteArray).map Value.string).toArray 9 (0, 0)) := by rw [hW1]; exact World.alloc_heap_new _ _
 have HS1 := Lib.hid (set21_any w.heap.size 3 3 _ W1 hx1 rfl (by omega))
 have HB1 := Lib.hid hb1
 clear hb1 hx1
 go_enter Try.func7, Try.ntmps7
 go_wp2_with fail
 rw [← hW1]
 clear hW1
 refine HS1.out.mono ?_
 rintro e w2 ⟨a1, c1, rfl, hA, hb2⟩
 rw [heG_set] at hA
 obtain ⟨W3, hW3⟩ : ∃ W, W = w2.alloc (.cells #[.string ⟨#[97, 98]⟩, .string ⟨#[98, 99]⟩, .string ⟨#[99, 100]⟩] 9) := ⟨_, rfl⟩
 have hb3 : Below w2.heap.size w2 W3 := by rw [hW3]; exact below_alloc _ _
 have hx3 : W3.heap[w2.heap.size]? = some (.cells (([⟨#[97, 98]⟩, ⟨#[98, 99]⟩, ⟨#[99, 100]⟩] : List ByteArray).map Value.string).toArray 9 (0, 0)) := by rw [hW3]; exact World.alloc_heap_new _ _
 have HS2 := Lib.hid (set21_any w2.heap.size 3 3 _ W3 hx3 rfl (by omega))
 have HB2 := Lib.hid (HB1.out.trans ((hb2.trans (hb3.mono hb2.size)).mono HB1.out.size))
 have HA := Lib.hid (hA.below hb3)
 clear hA hb2 hb3 hx3 HS1 HB1
 go_wp2_with fail
 rw [← hW3]
 clear hW3
 refine HS2.out.mono ?_
 rintro e w4 ⟨a2, c2, rfl, hO, hb4⟩
 rw [abG_set] at hO
 obtain ⟨W5, hW5⟩ : ∃ W, W = ((w4.alloc (.cells (setV false a1 3 c1) 24)).alloc (.cells (setV false a2 3 c2) 24)).alloc (.cells #[.int .i64 4, .int .i64 1, .int .i64 4, .int .i64 0, .int .i64 5, .int .i64 2] 30) := ⟨_, rfl⟩
 have hb5 : Below w4.heap.size w4 W5 := by rw [hW5]; exact ((below_alloc _ _).alloc (by simp) _).alloc (by simp; omega) _
 have hB5 : Bx w4.heap.size [.cells (setV false a1 3 c1) 24, .cells (setV false a2 3 c2) 24, .cells #[.int .i64 4, .int .i64 1, .int .i64 4, .int .i64 0, .int .i64 5, .int .i64 2] 30] W5 := by rw [hW5]; exact (((Bx.nil _ w4).snoc _ rfl).snoc _ (by simp)).snoc _ (by simp)
 have hU : Hts W5 (some ⟨w4.heap.size + 1 + 1, 0, none⟩) 3 [(4, 1), (4, 0), (5, 2)] := by
  have hx := hB5 2 _ rfl
  refine ⟨⟨rfl, .inr ⟨_, _, rfl, (Array.getElem?_eq_some_iff.1 hx).1, fun i u hu => ?_⟩⟩, by unfold I64; decide⟩
  have e : ∀ j, W5.cell? ⟨w4.heap.size + 1 + 1, 0 + j, none⟩ = (#[Value.int .i64 4, .int .i64 1, .int .i64 4, .int .i64 0, .int .i64 5, .int .i64 2] : Array Value)[0 + j]? := fun j => by simp [World.cell?, hx]
  rw [e, Nat.zero_add]
  show (hcells [(4, 1), (4, 0), (5, 2)]).toArray[i]? = some u
  rw [List.getElem?_toArray]
  exact hu
 have HK : Hid (∀ V, Below W5.heap.size W5 V → V.cell? ⟨w4.heap.size, 0, none⟩ = some (.bool false) ∧ V.cell? ⟨w4.heap.size, 1, none⟩ = some (.slice a1 3 c1) ∧ V.cell? ⟨w4.heap.size + 1, 0, none⟩ = some (.bool false) ∧ V.cell? ⟨w4.heap.size + 1, 1, none⟩ = some (.slice a2 3 c2) ∧ Wds V a1 3 heG ∧ Wds V a2 3 abG ∧ Hts V (some ⟨w4.heap.size + 1 + 1, 0, none⟩) 3 [(4, 1), (4, 0), (5, 2)] ∧ Below w.heap.size w V) := fun V hV => by
  have hx := hB5.below hV
  have h5 := hb5.trans (hV.mono hb5.size)
  have h4 := hb4.trans (h5.mono hb4.size)
  exact ⟨hx.cell (i := 0) rfl rfl, hx.cell (i := 0) rfl rfl, hx.cell (i := 1) rfl rfl, hx.cell (i := 1) rfl rfl, HA.out.below h4, hO.below h5, hU.below hV, HB2.out.trans (h4.mono HB2.out.size)⟩
 clear hO hb4 hb5 hB5 hU HS2 HB2 HA
 go_upto_region 3 with fail
 rw [← hW5]
 clear hW5
 obtain ⟨s0, s1, o0, o1, hA, hO, hU, _⟩ := HK.out W5 (Below.refl _ _)
 have HP1 := Lib.hid (pick15_yes false a1 _ 3 c1 3 3 heG [(4, 1), (4, 0), (5, 2)] W5 hA (by omega) (by decide) heG_right.2.2.2.2.1 heG_right.1 hU (by omega) heG_may.1)
 rw [heG_pick.1] at HP1
 have HU5 := Lib.hid hU
 clear hA hO hU
 go_wp2_with fail
 refine HP1.out.mono ?_
 rintro e w6 ⟨v6, rfl, ho6, hb6⟩
 obtain ⟨a6, c6, rfl, _, hs6⟩ := OwnH.hts ho6 (by unfold I64; decide)
 have HA6 := Lib.hid hs6
 have HB6 := Lib.hid hb6
 clear ho6 hs6 s0 s1 o0 o1 HP1
 obtain ⟨W7, hW7⟩ : ∃ W, W = w6.alloc (.cells #[.int .i64 2, .int .i64 0, .int .i64 3, .int .i64 1, .int .i64 4, .int .i64 2] 30) := ⟨_, rfl⟩
 have hb7 : Below w6.heap.size w6 W7 := by rw [hW7]; exact below_alloc _ _
 have hU7 : Hts W7 (some ⟨w6.heap.size, 0, none⟩) 3 [(2, 0), (3, 1), (4, 2)] := by
  have hx : W7.heap[w6.heap.size]? = some (.cells #[.int .i64 2, .int .i64 0, .int .i64 3, .int .i64 1, .int .i64 4, .int .i64 2] 30 (0, 0)) := by rw [hW7]; exact World.alloc_heap_new _ _
  refine ⟨⟨rfl, .inr ⟨_, _, rfl, (Array.getElem?_eq_some_iff.1 hx).1, fun i u hu => ?_⟩⟩, by unfold I64; decide⟩
  have e : ∀ j, W7.cell? ⟨w6.heap.size, 0 + j, none⟩ = (#[Value.int .i64 2, .int .i64 0, .int .i64 3, .int .i64 1, .int .i64 4, .int .i64 2] : Array Value)[0 + j]? := fun j => by simp [World.cell?, hx]
  rw [e, Nat.zero_add]
  show (hcells [(2, 0), (3, 1), (4, 2)]).toArray[i]? = some u
  rw [List.getElem?_toArray]
  exact hu
 have hb57 := hb6.trans (hb7.mono hb6.size)
 obtain ⟨s0, s1, o0, o1, hA, hO, hU, _⟩ := HK.out w6 hb6
 have HP2 := Lib.hid (pick15_yes false a2 _ 3 c2 3 3 abG [(2, 0), (3, 1), (4, 2)] W7 (hO.below hb7) (by omega) (by decide) heG_right.2.2.2.2.2.1 heG_right.2.1 hU7 (by omega) heG_may.2.2)
 rw [heG_pick.2] at HP2
 have HB7 := Lib.hid hb7
 have HB57 := Lib.hid hb57
 clear hA hO hU hU7 hb57 hb7 hb6
 go_wp2_with fail
 rw [← hW7]
 clear hW7
 refine HP2.out.mono ?_
 rintro e w8 ⟨v8, rfl, ho8, hb8⟩
 obtain ⟨a8, c8, rfl, _, hs8⟩ := OwnH.hts ho8 (by unfold I64; decide)
 have HA8 := Lib.hid hs8
 have hb68 := HB7.out.trans (hb8.mono HB7.out.size)
 have HB68 := Lib.hid hb68
 have hb58 := HB6.out.trans (hb68.mono HB6.out.size)
 have HB58 := Lib.hid hb58
 clear ho8 hs8 s0 s1 o0 o1 HP2
 obtain ⟨W9, hW9⟩ : ∃ W, W = w8.alloc (.cells #[.int .i64 2, .int .i64 1] 30) := ⟨_, rfl⟩
 have hb9 : Below w8.heap.size w8 W9 := by rw [hW9]; exact below_alloc _ _
 have hU9 : Hts W9 (some ⟨w8.heap.size, 0, none⟩) 1 [(2, 1)] := by
  have hx : W9.heap[w8.heap.size]? = some (.cells #[.int .i64 2, .int .i64 1] 30 (0, 0)) := by rw [hW9]; exact World.alloc_heap_new _ _
  refine ⟨⟨rfl, .inr ⟨_, _, rfl, (Array.getElem?_eq_some_iff.1 hx).1, fun i u hu => ?_⟩⟩, by unfold I64; decide⟩
  have e : ∀ j, W9.cell? ⟨w8.heap.size, 0 + j, none⟩ = (#[Value.int .i64 2, .int .i64 1] : Array Value)[0 + j]? := fun j => by simp [World.cell?, hx]
  rw [e, Nat.zero_add]
  show (hcells [(2, 1)]).toArray[i]? = some u
  rw [List.getElem?_toArray]
  exact hu
 obtain ⟨s0, s1, o0, o1, hA, hO, hU, _⟩ := HK.out w8 hb58
 have HP3 := Lib.hid (pick15_bad false a1 _ 3 c1 1 1 heG [(2, 1)] W9 (hA.below hb9) (by omega) (by decide) heG_right.2.2.2.2.1 heG_right.1 hU9 (by omega) ⟨_, List.mem_singleton.2 rfl, heG_may.2.1⟩)
 have HB9 := Lib.hid (hb58.trans (hb9.mono hb58.size))
 have HB89 := Lib.hid hb9
 clear hA hO hU hU9 hb58 hb68 hb8 hb9
 go_wp2_with fail
 rw [← hW9]
 clear hW9
 refine HP3.out.mono ?_
 rintro e w10 ⟨rfl, hb10⟩
 have HB10 := Lib.hid (HB9.out.trans (hb10.mono HB9.out.size))
 have HB810 := Lib.hid (HB89.out.trans (hb10.mono HB89.out.size))
 have HN0 := Lib.hid (new12_no false none 0 0 [] w10 ⟨[], ⟨rfl, .inl rfl⟩, rfl, fun i v xs h _ => by simp at h⟩ (by omega) (fun x hx => by cases hx) heG_right.2.2.2.2.2.2 heG_right.2.2.1)
 clear hb10 HP3 s0 s1 o0 o1 HB9 HB89
 go_wp2_with fail
 refine HN0.out.mono ?_
 rintro e w11 ⟨rfl, hb11⟩
 have hb511 := HB10.out.trans (hb11.mono HB10.out.size)
 obtain ⟨s0, s1, o0, o1, hA, hO, hU, _⟩ := HK.out w11 hb511
 have HN1 := Lib.hid (new12_yes false a1 3 c1 heG w11 hA (by omega) (by decide) heG_right.2.2.2.2.1 heG_right.1)
 rw [heG_right.2.2.2.1] at HN1
 have HB511 := Lib.hid hb511
 have HB811 := Lib.hid (HB810.out.trans (hb11.mono HB810.out.size))
 clear hA hO hU hb11 hb511 HN0
 go_wp2_with fail
 refine HN1.out.mono ?_
 rintro e w12 ⟨C, a12, c12, rfl, q1, q2, q3, q4, q5⟩
 have hb512 := HB511.out.trans (q5.mono HB511.out.size)
 have HX6 : Hid (HtsX C w12 a6 1 [(4, 1)]) := HA6.out.x ((HB68.out.trans (HB811.out.mono HB68.out.size)).trans (q5.mono (Nat.le_trans HB68.out.size HB811.out.size))) (by have := HB68.out.size; have := HB811.out.size; omega)
 have HX8 : Hid (HtsX C w12 a8 2 [(2, 0), (4, 2)]) := HA8.out.x (HB811.out.trans (q5.mono HB811.out.size)) (by have := HB811.out.size; omega)
 have HXU : Hid (HtsX C w12 (some ⟨w4.heap.size + 1 + 1, 0, none⟩) 3 [(4, 1), (4, 0), (5, 2)]) := HU5.out.x hb512 (by have := HB511.out.size; omega)
 have HWB : Hid (Below w.heap.size w w12) := (HK.out w12 hb512).2.2.2.2.2.2.2
 have HC12 := Lib.hid q1
 have HR12 := Lib.hid q2
 have HD12 := Lib.hid q3
 have HQ4 : Hid (w.heap.size ≤ C) := Nat.le_trans ((HK.out w11 HB511.out).2.2.2.2.2.2.2).size q4
 have HF1 := Lib.hid (feed14_yes C (C + 1) 3 c12 2 3 a12 (some ⟨w4.heap.size + 1 + 1, 0, none⟩) 3 0 0 4 (.slice none 0 0) heG [] [(4, 1), (4, 0)] w12 q1 q2 q3 (World.ownsRow_nil _ _ _ _) (by omega) (Hts.cut (w := w12) (lo := 0) (m := 2) HXU.out.1 (by omega)) (fun h0 q hq => HXU.out.2 (by omega) q hq) (fun x hx => by cases hx) (fun x hx => by cases hx) (fun x hx => heG_may.1 x (by simp at hx ⊢; rcases hx with h | h <;> simp [h])) (by decide) (by omega) (by omega) (by omega) (by decide) heG_good.1 (by omega) (by omega))
 rw [heG_one.1, heG_one.2.1, heG_one.2.2] at HF1
 clear q1 q2 q3 q4 q5 hb512 HN1 s0 s1 o0 o1 HK HA6 HA8 HU5 HB6 HB7 HB57 HB68 HB58 HB10 HB810 HB511 HB811
 go_upto_region 10 with fail
 go_wp2_with fail
 refine HF1.out.mono ?_
 rintro e w13 ⟨v13, h13, rfl, ho13, hc13, hh13, hg13⟩
 obtain ⟨a13, c13, e13, _, hs13⟩ := OwnH.hts ho13 (by unfold I64; decide)
 have e13 : v13 = .slice a13 1 c13 := e13
 subst e13
 have hq4 := HQ4.out
 have X6 : Hid (HtsX C w13 a6 1 [(4, 1)]) := HX6.out.gr hg13 rfl
 have X8 : Hid (HtsX C w13 a8 2 [(2, 0), (4, 2)]) := HX8.out.gr hg13 rfl
 have XU := HXU.out.gr hg13 rfl
 have hCl12 : C < w12.heap.size := (Array.getElem?_eq_some_iff.1 (show w12.heap[C]? = _ from HC12.out)).1
 have X13 : Hid (HtsX C w13 a13 1 [(4, 1)]) := ⟨hs13, fun h0 q hq => by have := (row_ltG ho13 q.block (by rw [hq]; rfl)).1; omega⟩
 have hr13 := HR12.out.gr hg13 rfl HD12.out
 obtain ⟨b0, o0, x, e0, hl0, x0, x1, hx, _, _⟩ := XU.1.at_ (k := 2) (by omega)
 have hxx : x = (5, 2) := by simpa using hx.symm
 subst hxx
 cases e0
 obtain ⟨W14, hW14⟩ : ∃ W, W = w13.alloc (.cells #[.int .i64 5, .int .i64 2] 30) := ⟨_, rfl⟩
 have hb14 : Below w13.heap.size w13 W14 := by rw [hW14]; exact below_alloc _ _
 have hU14 : Hts W14 (some ⟨w13.heap.size, 0, none⟩) 1 [(5, 2)] := by
  have hx : W14.heap[w13.heap.size]? = some (.cells #[.int .i64 5, .int .i64 2] 30 (0, 0)) := by rw [hW14]; exact World.alloc_heap_new _ _
  refine ⟨⟨rfl, .inr ⟨_, _, rfl, (Array.getElem?_eq_some_iff.1 hx).1, fun i u hu => ?_⟩⟩, by unfold I64; decide⟩
  have e : ∀ j, W14.cell? ⟨w13.heap.size, 0 + j, none⟩ = (#[Value.int .i64 5, .int .i64 2] : Array Value)[0 + j]? := fun j => by simp [World.cell?, hx]
  rw [e, Nat.zero_add]
  show (hcells [(5, 2)]).toArray[i]? = some u
  rw [List.getElem?_toArray]
  exact hu
 have hC13 : C < w13.heap.size := (Array.getElem?_eq_some_iff.1 (show w13.heap[C]? = _ from hc13)).1
 have hc14 : ChB W14 C a12 3 c12 3 4 4 h13 false := (hb14.block C hC13).trans hc13
 have HF2 := Lib.hid (feed14_yes C w12.heap.size 3 c12 1 1 a12 (some ⟨w13.heap.size, 0, none⟩) 3 4 4 5 h13 heG [] [(5, 2)] W14 hc14 (hr13.below hb14) HD12.out (own_below_ hh13 hb14) hCl12 hU14 (fun h0 q hq => by cases hq; show w13.heap.size ≠ C; omega) (fun x hx => by cases hx) (fun x hx => by cases hx) (fun x hx => heG_may.1 x (by simp at hx ⊢; simp [hx])) (by decide) (by omega) (by omega) (by omega) (by decide) heG_good.2 (by omega) (by omega))
 rw [heG_two.1, heG_two.2.1, heG_two.2.2] at HF2
 have HB14 := Lib.hid hb14
 have HG13 := Lib.hid hg13
 have HXU13 := Lib.hid XU
 have HR14 := Lib.hid (hr13.below hb14)
 clear ho13 hc13 hh13 hg13 hs13 hb14 hU14 hc14 hr13 XU hx HF1
 go_upto_region 11 with fail
 go_wp2_with fail
 rw [← hW14]
 clear hW14 x0 x1
 refine HF2.out.mono ?_
 rintro e w15 ⟨v15, h15, rfl, ho15, hc15, hh15, hg15⟩
 obtain ⟨a15, c15, e15, _, _⟩ := SlK.own ho15
 have e15 : v15 = .slice a15 0 c15 := e15
 subst e15
 obtain ⟨a5h, c5h, e5h, _, _⟩ := SlK.own hh15
 have e5h : h15 = .slice a5h 0 c5h := e5h
 subst e5h
 have HG15 : Hid (GrB w13.heap.size C w13 w15) := (GrB.of_below HB14.out).trans (hg15.low HB14.out.size)
 have Y6 : Hid (HtsX C w15 a6 1 [(4, 1)]) := X6.out.gr HG15.out rfl
 have Y8 : Hid (HtsX C w15 a8 2 [(2, 0), (4, 2)]) := X8.out.gr HG15.out rfl
 have YU : Hid (HtsX C w15 (some ⟨w4.heap.size + 1 + 1, 0, none⟩) 3 [(4, 1), (4, 0), (5, 2)]) := HXU13.out.gr HG15.out rfl
 have Y13 : Hid (HtsX C w15 a13 1 [(4, 1)]) := X13.out.gr HG15.out rfl
 have hr15 := HR14.out.gr hg15 rfl HD12.out
 have HNO := Lib.hid (feed14_no C 3 c12 0 0 a12 none 3 5 4 4 (.slice a5h 0 c5h) false w15 hc15 (.inr (by omega)))
 have HC15 := Lib.hid hc15
 have HH15 := Lib.hid hh15
 have HR15 := Lib.hid hr15
 have hs14 : w13.heap.size ≤ W14.heap.size := HB14.out.size
 clear ho15 hc15 hh15 hg15 hr15 HF2 X6 X8 X13 HX6 HX8 HXU
 go_wp2_with fail
 refine HNO.out.mono ?_
 rintro e w16 ⟨rfl, hb16⟩
 have hC15l : C < w15.heap.size := (Array.getElem?_eq_some_iff.1 (show w15.heap[C]? = _ from HC15.out)).1
 have hc16 : ChB w16 C a12 3 c12 3 5 4 (.slice a5h 0 c5h) false := (hb16.block C hC15l).trans HC15.out
 have HHD := Lib.hid (held17_any C a12 a5h 3 c12 0 c5h 3 5 4 false w16 hc16)
 have HCL := Lib.hid (close16_yes C W14.heap.size 3 c12 a12 3 5 4 (.slice a5h 0 c5h) heG [] w16 hc16 (HR15.out.below hb16) HD12.out (own_below_ HH15.out hb16) (by omega) (fun x hx => by cases hx) (fun x hx => by cases hx) (by decide))
 rw [heG_shut] at HCL
 have HB16 := Lib.hid hb16
 clear hb16 hc16 HNO
 go_wp2_with fail
 refine HHD.out.mono ?_
 rintro e w16' ⟨rfl, rfl⟩
 clear HHD
 go_wp2_with fail
 refine HCL.out.mono ?_
 rintro e w17 ⟨v17, E, rfl, ho17, hc17, hg17⟩
 obtain ⟨a17, c17, e17, _, _⟩ := SlK.own ho17
 have e17 : v17 = .slice a17 0 c17 := e17
 subst e17
 have hg1 : GrB w15.heap.size C w15 w17 := (GrB.of_below HB16.out).trans (hg17.low HB16.out.size)
 have Z6 := (Y6.out.gr hg1 rfl).1
 have Z8 := (Y8.out.gr hg1 rfl).1
 have Z13 := (Y13.out.gr hg1 rfl).1
 have ZU : Hts w17 ((some ⟨w4.heap.size + 1 + 1, 0, none⟩ : Option Addr).map (·.add (0 * 2))) 1 [(4, 1)] := Hts.cut (w := w17) (lo := 0) (m := 1) (YU.out.gr hg1 rfl).1 (by omega)
 have hC17l : C < w17.heap.size := (Array.getElem?_eq_some_iff.1 (show w17.heap[C]? = _ from hc17)).1
 have KZ : Hid (∀ V, Below w17.heap.size w17 V → Hts V a6 1 [(4, 1)] ∧ Hts V a8 2 [(2, 0), (4, 2)] ∧ Hts V (some ⟨w4.heap.size + 1 + 1, 0, none⟩) 1 [(4, 1)] ∧ Hts V a13 1 [(4, 1)] ∧ ChB V C a12 3 c12 3 5 E (.slice none 0 0) true) := fun V hV => ⟨Z6.below hV, Z8.below hV, ZU.below hV, Z13.below hV, (hV.block C hC17l).trans hc17⟩
 have KW : Hid (∀ V, Below w17.heap.size w17 V → Below w.heap.size w V) := fun V hV => by
  have g : GrB w12.heap.size C w12 w17 := (HG13.out.trans (HG15.out.low HG13.out.size)).trans ((hg1.low (by have := HG15.out.size; have := HG13.out.size; omega)))
  have g2 := g.trans (GrB.of_below (hV.mono g.size))
  have h0 := HWB.out
  exact ⟨g2.os.trans h0.os, g2.tape.trans h0.tape, g2.output.trans h0.output, Nat.le_trans h0.size g2.size, fun k hk => (g2.block k (by have := h0.size; omega) (by omega)).trans (h0.block k hk)⟩
 have HNO2 := Lib.hid (feed14_no C 3 c12 0 0 a12 none 3 5 E 9 (.slice none 0 0) true w17 hc17 (.inl rfl))
 clear Z6 Z8 Z13 ZU hg1 hg17 hc17 ho17 HCL
 go_wp2_with fail
 refine HNO2.out.mono ?_
 rintro e w18 ⟨rfl, hb18⟩
 have HB18 := Lib.hid hb18
 clear hb18 HNO2
 have HNN := Lib.hid (feed14_nil 1 none 0 0 w18)
 go_wp2_with fail
 refine HNN.out.mono ?_
 rintro e w18' ⟨rfl, rfl⟩
 clear HNN
 obtain ⟨t6, t8, tU, t13, _⟩ := KZ.out _ HB18.out
 have HE1 := Lib.hid (rsame13_any a6 (some ⟨w4.heap.size + 1 + 1, 0, none⟩) 1 c6 1 3 [(4, 1)] [(4, 1)] _ t6 tU (by omega))
 rw [decide_eq_true (show ([(4, 1)] : List HitP) = [(4, 1)] from rfl)] at HE1
 clear t6 t8 tU t13
 go_wp2_with fail
 refine HE1.out.mono ?_
 rintro e w19 ⟨rfl, hb19⟩
 have HB19 := Lib.hid (HB18.out.trans (hb19.mono HB18.out.size))
 clear hb19 HE1
 obtain ⟨W20, hW20⟩ : ∃ W, W = w19.alloc (.cells #[.int .i64 2, .int .i64 0, .int .i64 4, .int .i64 2] 30) := ⟨_, rfl⟩
 have hb20 : Below w19.heap.size w19 W20 := by rw [hW20]; exact below_alloc _ _
 have hU20 : Hts W20 (some ⟨w19.heap.size, 0, none⟩) 2 [(2, 0), (4, 2)] := by
  have hx : W20.heap[w19.heap.size]? = some (.cells #[.int .i64 2, .int .i64 0, .int .i64 4, .int .i64 2] 30 (0, 0)) := by rw [hW20]; exact World.alloc_heap_new _ _
  refine ⟨⟨rfl, .inr ⟨_, _, rfl, (Array.getElem?_eq_some_iff.1 hx).1, fun i u hu => ?_⟩⟩, by unfold I64; decide⟩
  have e : ∀ j, W20.cell? ⟨w19.heap.size, 0 + j, none⟩ = (#[Value.int .i64 2, .int .i64 0, .int .i64 4, .int .i64 2] : Array Value)[0 + j]? := fun j => by simp [World.cell?, hx]
  rw [e, Nat.zero_add]
  show (hcells [(2, 0), (4, 2)]).toArray[i]? = some u
  rw [List.getElem?_toArray]
  exact hu
 have hb1720 := HB19.out.trans (hb20.mono HB19.out.size)
 obtain ⟨t6, t8, tU, t13, _⟩ := KZ.out W20 hb1720
 have HE2 := Lib.hid (rsame13_any a8 (some ⟨w19.heap.size, 0, none⟩) 2 c8 2 2 [(2, 0), (4, 2)] [(2, 0), (4, 2)] W20 t8 hU20 (by omega))
 rw [decide_eq_true (show ([(2, 0), (4, 2)] : List HitP) = [(2, 0), (4, 2)] from rfl)] at HE2
 have HB20 := Lib.hid hb1720
 clear t6 t8 tU t13 hU20 hb20 hb1720
 go_wp2_with fail
 rw [← hW20]
 clear hW20
 refine HE2.out.mono ?_
 rintro e w21 ⟨rfl, hb21⟩
 have hb1721 := HB20.out.trans (hb21.mono HB20.out.size)
 obtain ⟨t6, t8, tU, t13, _⟩ := KZ.out w21 hb1721
 have HE3 := Lib.hid (rsame13_any a13 (some ⟨w4.heap.size + 1 + 1, 0, none⟩) 1 c13 1 3 [(4, 1)] [(4, 1)] w21 t13 tU (by omega))
 rw [decide_eq_true (show ([(4, 1)] : List HitP) = [(4, 1)] from rfl)] at HE3
 have HB21 := Lib.hid hb1721
 clear t6 t8 tU t13 hb21 hb1721 HE2
 go_wp2_with fail
 refine HE3.out.mono ?_
 rintro e w22 ⟨rfl, hb22⟩
 have hb1722 := HB21.out.trans (hb22.mono HB21.out.size)
 obtain ⟨_, _, _, _, tc⟩ := KZ.out w22 hb1722
 have HH1 := Lib.hid (held17_any C a12 none 3 c12 0 0 3 5 E true w22 tc)
 have HB22 := Lib.hid hb1722
 clear tc hb22 hb1722 HE3
 go_wp2_with fail
 refine HH1.out.mono ?_
 rintro e w23 ⟨rfl, rfl⟩
 have HH2 := Lib.hid (held17_nil w23)
 go_wp2_with fail
 refine HH2.out.mono ?_
 rintro e w24 ⟨rfl, rfl⟩
 have HH3 := Lib.hid (close16_nil w24)
 go_wp2_with fail
 refine HH3.out.mono ?_
 rintro e w25 ⟨rfl, rfl⟩
 go_wp2
 go_ret
 exact ⟨rfl, KW.out _ HB22.out⟩
end Go.Proofs.Ytglfdclpjmhoiaa

/- Greedy (layer 15), plain: what a set that may be, and is not too great, has; which hits may be. -/

namespace Go.Proofs.Ytglfdclpjmhoiaa
open Go.RowKit Go.Sort

theorem right15_sp {fold : Bool} {wss : List (List Int)} (h : rightP fold wss = true) : wss.length ≤ 64 ∧ wss ≠ [] ∧ (∀ x ∈ wss, x.length ≠ 0 ∧ x.length ≤ 32) ∧ bsum wss ≤ 600 ∧ nodesR fold wss ≤ 400 ∧ makeL fold wss = wss := by
 rw [right_eq] at h
 unfold rightR at h
 rw [Bool.and_eq_true] at h
 have h1 : checkR fold wss = 0 := of_decide_eq_true h.1
 have h2 : makeL fold wss = wss := of_decide_eq_true h.2
 unfold checkR at h1
 by_cases a1 : wss.length = 0
 · rw [if_pos a1] at h1; cases h1
 ·
  rw [if_neg a1] at h1
  by_cases a2 : wss.length > 64
  · rw [if_pos a2] at h1; cases h1
  ·
   rw [if_neg a2] at h1
   by_cases a3 : ∃ x ∈ wss, x.length = 0
   · rw [if_pos a3] at h1; cases h1
   ·
    rw [if_neg a3] at h1
    by_cases a4 : ∃ x ∈ wss, x.length > 32
    · rw [if_pos a4] at h1; cases h1
    ·
     rw [if_neg a4] at h1
     by_cases a5 : bsum wss > 600
     · rw [if_pos a5] at h1; cases h1
     ·
      rw [if_neg a5] at h1
      by_cases a6 : nodesR fold wss > 400
      · rw [if_pos a6] at h1; cases h1
      · exact ⟨by omega, fun e => a1 (by rw [e]; rfl), fun x hx => ⟨fun e => a3 ⟨x, hx, e⟩, Nat.not_lt.1 fun e => a4 ⟨x, hx, e⟩⟩, by omega, by omega, h2⟩

theorem gr15_bd {wss : List (List Int)} (h : greatP wss = false) (fold : Bool) : wss.length ≤ 80 ∧ (∀ x ∈ wss, x.length ≤ 3000) ∧ (begL fold wss).length ≤ 3000 := by
 unfold greatP at h
 have h := of_decide_eq_false h
 have h1 : wss.length ≤ 80 := by omega
 have h2 : gsum wss ≤ 3000 := by omega
 have key : ∀ (l : List (List Int)), gsum l ≤ 3000 → (∀ x ∈ l, x.length ≤ 3000) ∧ ((begL fold l).length : Int) = gsum l := by
  intro l
  induction l with
  | nil => intro _; exact ⟨by simp, by simp [begL, gsum]⟩
  | cons x l ih =>
   intro hg
   have e : gsum (x :: l) = min (x.length : Int) 4000 + gsum l := by simp [gsum]
   have hn := gsum_nonneg l
   rw [e] at hg ⊢
   obtain ⟨i1, i2⟩ := ih (by omega)
   refine ⟨fun y hy => ?_, ?_⟩
   ·
    rcases List.mem_cons.1 hy with rfl | hy
    · omega
    · exact i1 y hy
   ·
    have e2 : begL fold (x :: l) = begW (foldL fold x) ++ begL fold l := by simp [begL]
    rw [e2, List.length_append, begW_length, foldL_length]
    omega
 obtain ⟨k1, k2⟩ := key wss h2
 exact ⟨h1, k1, by omega⟩

/-- With such a set the document's May is the code's. -/
theorem mayD_right {fold : Bool} {wss : List (List Int)} (h : rightP fold wss = true) (x : HitP) : mayD wss x = mayG wss x := mayD_eq (fun y hy e => ((right15_sp h).2.2.1 y hy).1 (by rw [e]; rfl)) x
end Go.Proofs.Ytglfdclpjmhoiaa

/- Opening the arguments of laws: integers, configurations, slices of integers. -/

namespace Go.Proofs.Ytglfdclpjmhoiaa
open Go.ChangeShapes Go.WideShapes Go.ChangeAt Go.RowKit Go.Joins
open Go.ChangeMaps (open_string shut_string)

theorem own : ownKnob Try.prog.godebug = none := by kernel_rfl
theorem laidOut : laidOutB Try.prog = true := by kernel_rfl
theorem cells_int : Try.prog.cellsOf 3 = 1 := by kernel_rfl

section
variable {H : Type} {enc : TypeId × Value → H} {W : World} {r : Reach} {base : Nat} {d : DataW H} {p : List MemPlace} {v : Value}

end

end Go.Proofs.Ytglfdclpjmhoiaa

/- Opening the arguments of laws: sets, slices of bytes, hits, slices of hits. -/

namespace Go.Proofs.Ytglfdclpjmhoiaa
open Go.ChangeShapes Go.WideShapes Go.ChangeAt Go.RowKit Go.Joins Go.Deep
set_option maxRecDepth 100000

theorem cells_Hit : Try.prog.cellsOf 30 = 2 := by kernel_rfl
theorem cells_Set : Try.prog.cellsOf 24 = 2 := by kernel_rfl
theorem cells_bool : Try.prog.cellsOf 4 = 1 := by kernel_rfl
theorem cells_u8 : Try.prog.cellsOf 5 = 1 := by kernel_rfl
theorem cells_u8s : Try.prog.cellsOf 62 = 1 := by kernel_rfl
theorem cells_wds : Try.prog.cellsOf 22 = 1 := by kernel_rfl
theorem wf_i64 {n : Int} (h : (Lit.int .i64 n).wf = true) : I64 n := by
 simp [Lit.wf, IntKind.min, IntKind.max, IntKind.signed, IntKind.bits] at h
 exact ⟨by omega, by omega⟩
theorem wf_u8 {n : Int} (h : (Lit.int .u8 n).wf = true) : 0 ≤ n ∧ n ≤ 255 := by
 simp [Lit.wf, IntKind.min, IntKind.max, IntKind.signed, IntKind.bits] at h
 omega

section
variable {H : Type} {enc : TypeId × Value → H} {W : World} {r : Reach} {base : Nat} {d : DataW H} {p : List MemPlace} {v : Value}

/-- The two cells of a hit, read. -/
theorem hit_cells {fuel : Nat} {cs : List Value} {x : DataW H × List MemPlace} (h : DataW.trod enc Try.prog W 0 (fun _ => true) true fuel 30 cs = some x) : ∃ e k : Int, cs = [.int .i64 e, .int .i64 k] ∧ I64 e ∧ I64 k := by
 obtain ⟨xs, n, _, _, hl, hlen, hx⟩ := DataW.trod_struct Try.underlying30 h
 rw [cells_Hit] at hl
 match cs, hl with
 | [c0, c1], _ =>
  have hlen' : xs.length = 2 := hlen
  obtain ⟨y0, hy0⟩ : ∃ y, xs[0]? = some y := ⟨xs[0]'(by omega), by simp⟩
  obtain ⟨y1, hy1⟩ : ∃ y, xs[1]? = some y := ⟨xs[1]'(by omega), by simp⟩
  have h0 := hx 0
  simp only [pD, pE, pF, Option.some.injEq, forall_eq', cells_int, hy0] at h0
  obtain ⟨e, e0, _, w0⟩ := DataW.trod_int Try.underlying3 h0
  have h1 := hx 1
  simp only [pD, pE, pF, Option.some.injEq, forall_eq', cells_int, hy1] at h1
  obtain ⟨k, e1, _, w1⟩ := DataW.trod_int Try.underlying3 h1
  simp at e0 e1
  exact ⟨e, k, by rw [e0, e1], wf_i64 w0, wf_i64 w1⟩

theorem open_sl_hit (hv : Value.okWide Try.prog W r base 25 v) (h : DataW.Trod enc Try.prog W 0 (fun _ => true) true 25 v d p) :
  ∃ (a : Option Addr) (len cap : Nat) (l : List HitP), v = .slice a len cap ∧ Hts W a len l ∧ len ≤ cap ∧ cap ≤ maxLen := by
 obtain ⟨a, len, cap, rfl⟩ := okWide_slice Try.underlying25 hv
 obtain ⟨fuel, hf⟩ := h
 rcases open_slice Try.underlying25 hf with ⟨hcs, _⟩ | ⟨x, l, c, m, n, D, Pl, hcs, _, hl, hm, hmm, _, hi⟩
 ·
  simp [Value.cells] at hcs
  obtain ⟨rfl, rfl, rfl⟩ := hcs
  exact ⟨none, 0, 0, [], rfl, ⟨⟨rfl, .inl rfl⟩, by simp⟩, Nat.le_refl _, by unfold maxLen; omega⟩
 ·
  simp [Value.cells] at hcs
  obtain ⟨rfl, rfl, rfl⟩ := hcs
  simp only [if_true] at hmm
  subst hmm
  rw [cells_Hit] at hi
  have each : ∀ i, i < m → ∃ q : HitP, (W.cell? ((x.add (i * 2)).add 0) = some (.int .i64 q.1) ∧ W.cell? ((x.add (i * 2)).add 1) = some (.int .i64 q.2)) ∧ I64 q.1 ∧ I64 q.2 := by
   intro i him
   obtain ⟨cs', hc, ht⟩ := hi i him
   obtain ⟨_, hlen, hat⟩ := World.cells?_some hc
   obtain ⟨e, k, rfl, he, hk⟩ := hit_cells ht
   have h0 := hat 0 (by omega)
   have h1 := hat 1 (by omega)
   exact ⟨(e, k), ⟨by simpa using h0, by simpa using h1⟩, he, hk⟩
  let f : Nat → HitP := fun i => if hi : i < m then Classical.choose (each i hi) else (0, 0)
  have hf' : ∀ i, i < m → (W.cell? ((x.add (i * 2)).add 0) = some (.int .i64 (f i).1) ∧ W.cell? ((x.add (i * 2)).add 1) = some (.int .i64 (f i).2)) ∧ I64 (f i).1 ∧ I64 (f i).2 := by
   intro i hi
   have e : f i = Classical.choose (each i hi) := by simp only [f, dif_pos hi]
   rw [e]
   exact Classical.choose_spec (each i hi)
  refine ⟨_, len, _, (List.range len).map f, rfl, ⟨⟨by rw [hcells_length]; simp, ?_⟩, fun q hq => ?_⟩, hl, hm⟩
  ·
   by_cases h0 : len = 0
   · exact .inl h0
   ·
    right
    obtain ⟨b, off, spot⟩ := x
    have hc := (hf' 0 (by omega)).1.1
    obtain rfl : spot = none := by simpa [Addr.add] using World.cell?_spot hc
    refine ⟨b, off, rfl, ?_, fun i u hu => ?_⟩
    ·
     have := World.block_lt_of_cell? W _ hc
     rwa [add_plain, add_plain] at this
    ·
     have hil := (List.getElem?_eq_some_iff.1 hu).1
     rw [hcells_length] at hil
     simp at hil
     obtain ⟨j, hj⟩ : ∃ j, i = j * 2 ∨ i = j * 2 + 1 := ⟨i / 2, by omega⟩
     have hjl : j < len := by omega
     have hx : ((List.range len).map f)[j]? = some (f j) := by simp [hjl]
     obtain ⟨d0, d1⟩ := hcells_at hx
     obtain ⟨⟨g0, g1⟩, _⟩ := hf' j (by omega)
     rw [add_plain, add_plain, Nat.add_zero] at g0
     rw [add_plain, add_plain] at g1
     rcases hj with rfl | rfl
     ·
      rw [d0] at hu
      rw [← Option.some.inj hu]
      exact g0
     ·
      rw [d1] at hu
      rw [← Option.some.inj hu, ← Nat.add_assoc]
      exact g1
  ·
   simp only [List.mem_map, List.mem_range] at hq
   obtain ⟨i, hi, rfl⟩ := hq
   exact (hf' i (by omega)).2

/-- The cells of a row of texts, read. -/
theorem wds_cells {fuel : Nat} {v : Value} {x : DataW H × List MemPlace} (h : DataW.trod enc Try.prog W 0 (fun _ => true) true fuel 22 [v] = some x) : ∃ (a : Option Addr) (len cap : Nat) (wss : List (List Int)), v = .slice a len cap ∧ Wds W a len wss ∧ len ≤ cap ∧ cap ≤ maxLen := by
 rcases open_int_rows Try.underlying22 Try.underlying62 Try.underlying5 cells_u8s cells_u8 h with ⟨hcs, _⟩ | ⟨x, len, cap, A, L, C, Z, hcs, _, hl, hm, _, hi⟩
 ·
  simp at hcs
  exact ⟨none, 0, 0, [], hcs, ⟨[], ⟨rfl, .inl rfl⟩, rfl, fun i v xs h => by simp at h⟩, Nat.le_refl _, by unfold maxLen; omega⟩
 ·
  simp at hcs
  refine ⟨some x, len, cap, (List.range len).map fun i => (Z i).take (L i), hcs, ⟨(List.range len).map fun i => (A i, L i, C i), ⟨by simp, ?_⟩, by simp, fun i v xs hv hx => ?_⟩, hl, hm⟩
  ·
   by_cases h0 : len = 0
   · exact .inl h0
   ·
    right
    obtain ⟨b, off, spot⟩ := x
    have hc := (hi 0 (by omega)).1
    obtain rfl : spot = none := by simpa [Addr.add] using World.cell?_spot hc
    refine ⟨b, off, rfl, ?_, fun i u hu => ?_⟩
    ·
     have := World.block_lt_of_cell? W _ hc
     rwa [add_plain] at this
    ·
     have hil : i < len := by have := (List.getElem?_eq_some_iff.1 hu).1; simpa using this
     simp [hil] at hu
     have h1 := (hi i (by omega)).1
     rw [add_plain] at h1
     rw [h1, ← hu]
  ·
   have hil : i < len := by have := (List.getElem?_eq_some_iff.1 hv).1; simpa using this
   simp [hil] at hv hx
   subst hv hx
   obtain ⟨_, hLC, hCm, hZ, hwf, hAn, hA⟩ := hi i (by omega)
   refine ⟨⟨⟨by simp; omega, ?_⟩, fun n hn => wf_u8 (hwf n (List.mem_of_mem_take hn))⟩, hLC⟩
   by_cases h0 : L i = 0
   · exact .inl h0
   ·
    right
    cases hAi : A i with
    | none => have := hAn hAi; omega
    | some y =>
     obtain ⟨_, hc⟩ := hA y hAi
     obtain ⟨b, off, spot⟩ := y
     have hc0 := hc 0 (by omega)
     obtain rfl : spot = none := by simpa [Addr.add] using World.cell?_spot hc0
     refine ⟨b, off, rfl, ?_, fun j u hu => ?_⟩
     ·
      have := World.block_lt_of_cell? W _ hc0
      rwa [add_plain] at this
     ·
      have hj : j < L i := by have := (List.getElem?_eq_some_iff.1 hu).1; simp at this; omega
      have h1 := hc j (by omega)
      rw [add_plain] at h1
      rw [h1]
      rw [List.getElem?_take, if_pos hj] at hu
      simp [hu]

theorem open_set (hv : Value.okWide Try.prog W r base 24 v) (h : DataW.Trod enc Try.prog W 0 (fun _ => true) true 24 v d p) :
  ∃ (fold : Bool) (a : Option Addr) (len cap : Nat) (wss : List (List Int)), v = .agg #[.bool fold, .slice a len cap] ∧ Wds W a len wss ∧ len ≤ cap ∧ cap ≤ maxLen := by
 obtain ⟨cs, rfl, hsz⟩ := okWide_struct Try.underlying24 hv
 obtain ⟨l⟩ := cs
 match l, hsz.trans cells_Set with
 | [c0, c1], _ =>
  obtain ⟨fuel, hf⟩ := h
  obtain ⟨xs, n, _, _, _, hlen, hx⟩ := DataW.trod_struct Try.underlying24 hf
  have hlen' : xs.length = 2 := hlen
  obtain ⟨y0, hy0⟩ : ∃ y, xs[0]? = some y := ⟨xs[0]'(by omega), by simp⟩
  obtain ⟨y1, hy1⟩ : ∃ y, xs[1]? = some y := ⟨xs[1]'(by omega), by simp⟩
  have h0 := hx 0
  simp only [pD, pE, pF, Option.some.injEq, forall_eq', cells_bool, hy0] at h0
  obtain ⟨b, e0, _⟩ := DataW.trod_bool Try.underlying4 h0
  have h1 := hx 1
  simp only [pD, pE, pF, Option.some.injEq, forall_eq', cells_wds, hy1] at h1
  simp [Value.cells] at e0 h1
  obtain ⟨a, len, cap, wss, e1, hw, hc, hm⟩ := wds_cells h1
  exact ⟨b, a, len, cap, wss, by rw [e0, e1], hw, hc, hm⟩
end

end Go.Proofs.Ytglfdclpjmhoiaa
