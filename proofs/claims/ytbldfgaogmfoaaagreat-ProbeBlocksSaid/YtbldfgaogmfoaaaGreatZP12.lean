/- Parts of the proof, one behind the other: MC, Ps, K9, P9, Pc, N6, V7, G4. No condition but what each theorem states. -/
import Derived.Laws.OwnMore
import Derived.Test.YtbldfgaogmfoaaaGreatZP5
import Derived.Test.YtbldfgaogmfoaaaGreatZP6
import Derived.Test.YtbldfgaogmfoaaaGreatZP7
import Derived.Test.YtbldfgaogmfoaaaGreatZP8
import Derived.Test.YtbldfgaogmfoaaaGreatZP10
import Derived.Test.YtbldfgaogmfoaaaGreatZP11
set_option linter.unusedVariables false
set_option linter.unusedSimpArgs false

/- Machines (layer 13): Compile of a set that may be; walked. Printed by gen_m7.py. -/

namespace Go.Proofs.YtbldfgaogmfoaaaGreat
open Go.RowKit Go.Sort
attribute [local go_sem] Oper.semAt_some
attribute [local simp] wide_fn wide_depth
attribute [local go_sem] wide_fn wide_depth

theorem ptr_info : (Tryz.prog.info? 32).map (fun i => (i.zero, i.size, i.bytes)) = some (some (.slice none 0 0), 1, 24) := by kernel_rfl
theorem Mc.frozen {W : World} {B : Nat} {L : List Int} {m n : Int} {row : Value} {fold : Bool} {sw : Value} {lo mo : Int} {wd : Value} (h : Mc W B L m n row fold sw lo mo wd) (i : Nat) : W.frozen? ⟨B, i, none⟩ = false := by
 have h2 := h.box
 simp [World.frozen?, h2]
theorem frozenG {W : World} {G : Nat} {cs : Array Value} {t : TypeId} (h : W.heap[G]? = some (.cells cs t (0, 0))) (i : Nat) : W.frozen? ⟨G, i, none⟩ = false := by
 simp [World.frozen?, h]

set_option maxRecDepth 100000 in
set_option maxHeartbeats 8000000 in
theorem compile13_yes (fold : Bool) (a : Option Addr) (la ca : Nat) (wss : List (List Int)) (w : World) (hA : Wds w a la wss) (hla : la ≤ 1000000) (hM : ∀ x ∈ wss, x.length ≤ 1000000) (hT : (begL fold wss).length ≤ 1000000) (hr : rightP fold wss = true) :
  Calls Tryz.prog 30 #[.agg (setV fold a la ca)] w fun e w' => ∃ (B R ca' wc : Nat) (a' wa : Option Addr), e = .returned (.tuple #[.pointer (some ⟨B, 0, none⟩), .int .i64 0]) ∧ MOK w' B fold wss (longL wss) ((mostN wss (nodesL wss).length : Nat) : Int) R a' la ca' wa wc ∧ Below w.heap.size w w' ∧ MFar w.heap.size w' B R a' la ca' wss wa := by
 have hB := below_alloc w (.cells (setV fold a la ca) 24)
 obtain ⟨W0, hW0⟩ : ∃ W, W = w.alloc (.cells (setV fold a la ca) 24) := ⟨_, rfl⟩
 have hS0 : W0.heap[w.heap.size]? = some (.cells (setV fold a la ca) 24 (0, 0)) := by rw [hW0]; exact World.alloc_heap_new _ _
 rw [← hW0] at hB
 have c0 : W0.cell? ⟨w.heap.size, 0, none⟩ = some (.bool fold) := by simp [World.cell?, hS0]
 have c1 : W0.cell? ⟨w.heap.size, 1, none⟩ = some (.slice a la ca) := by simp [World.cell?, hS0]
 have hrd : readP (trieP wss) = some (nodesL wss, wss) := readP_iff.2 ⟨right_false hr, rfl, rfl⟩
 have hn4 : (nodesL wss).length ≤ 400 := read_n hrd
 have hm257 : 1 ≤ manyP fold wss ∧ manyP fold wss ≤ 257 := clsN_many _ _ _
 have hOK := okT hr (fun x hx c hc => hA.bytes x hx c hc)
 have hSt := states_tab hOK
 have hFl := tabP_len hOK
 have HLA := Lib.hid hA.len
 have HD := Lib.hid (fun V (hV : Below w.heap.size w V) => make11_yes fold a la ca wss V (hA.below hV) hla hM hT hr)
 have HT7 := Lib.hid (fun V (hV : Below w.heap.size w V) => make7_yes fold a la ca wss V (hA.below hV) hla hM hT hr)
 have HPO := Lib.hid (fun V (hV : Below w.heap.size w V) => pown_any fold a la ca wss V (hA.below hV) hla hM)
 have HPL := Lib.hid (fun V (hV : Below w.heap.size w V) => plongest_any fold a la ca wss V (hA.below hV) hla)
 have HNX := Lib.hid (fun (t : TV) V (hT : Tri V t (trieP wss)) (hb : t.un ≤ 140737488351232) => next9_yes t (trieP wss) (nodesL wss) wss V hT hb hrd)
 have HMO := Lib.hid (fun (t : TV) V (hT : Tri V t (trieP wss)) (hb : t.un ≤ 140737488351232) => most9_yes t (trieP wss) (nodesL wss) wss V hT hb hrd)
 obtain ⟨L, hL⟩ : ∃ L, clsP fold wss = L := ⟨_, rfl⟩
 have hLl : L.length = 256 := by rw [← hL]; exact clsP_len _ _
 have HNL : Hid ((nodesL wss).length ≤ 400) := hn4
 have HFL := Lib.hid hFl
 have HOK := Lib.hid hOK
 obtain ⟨n, hn⟩ : ∃ n, (nodesL wss).length = n := ⟨_, rfl⟩
 obtain ⟨m, hm⟩ : ∃ m, manyP fold wss = m := ⟨_, rfl⟩
 obtain ⟨k, hk⟩ : ∃ k, m * n = k := ⟨_, rfl⟩
 have hk2 : k ≤ 257 * 400 := by rw [← hk]; exact Nat.mul_le_mul (by omega) (by omega)
 have HLn := Lib.hid hL
 have HN := Lib.hid hn
 have HM := Lib.hid hm
 have HKK := Lib.hid hk
 rw [hL, hm, hn, hk] at HD
 rw [hn] at HNX HMO
 have HST : Hid (statesZ (m : Int) k = (n : Int)) := by rw [Hid, ← hk, ← hm, ← hn, ← hFl]; exact hSt
 clear hA hr hrd hOK hL hn hm hk hn4 hFl hSt
 refine calls_of_wp_M Tryz.func30 rfl ?_
 simp only [Tryz.ntmps30, List.size_toArray, List.length_cons, List.length_nil, Nat.reduceAdd, Nat.reduceSub, Array.replicate_succ, Array.replicate_zero, List.push_toArray, List.append_toArray, List.nil_append, List.cons_append]
 go_upto_region 1 with fail
 rw [← hW0]
 clear hW0
 have HD1 := Lib.hid (HD.out W0 hB)
 go_upto_region 2 with (first
  | (refine wpList_store_row rfl 109 _ _ rfl _ _ rfl rfl 109 _ (heap_alloc_new _ _) (dv_info hLl _ _) (dv_old hLl _ _) (dvC_one _ _ _ rfl) ?_)
  | (go_at_call 62; refine HD1.out.mono ?_; rintro e w3 ⟨R, rfl, hrow, hRl, hb3⟩))
 rw [World.setRow_alloc_new]
 have hB3 := hB.trans (hb3.mono hB.size)
 have HRl : Hid (w.heap.size ≤ R) := Nat.le_trans hB.size hRl
 obtain ⟨w4, hw4⟩ : ∃ w4, w4 = w3.alloc (.cells (dvC L m (.slice (some ⟨R, 0, none⟩) k k)).toArray 109) := ⟨_, rfl⟩
 have hB4 : Below w.heap.size w w4 := by rw [hw4]; exact hB3.alloc hB3.size _
 have hb34 : Below w3.heap.size w3 w4 := by rw [hw4]; exact below_alloc _ _
 have hDv := Dv.new w3 L m (.slice (some ⟨R, 0, none⟩) k k) hLl
 rw [← hw4] at hDv ⊢
 have hrow4 : IntRow R (tabP fold wss) w4 := (hb34.block R hrow.lt).trans hrow
 have hS4 : w4.heap[w.heap.size]? = some (.cells (setV fold a la ca) 24 (0, 0)) := (hb34.block _ (by have := (Array.getElem?_eq_some_iff.1 hS0).1; have := hb3.size; omega)).trans ((hb3.block _ (Array.getElem?_eq_some_iff.1 hS0).1).trans hS0)
 have d0 : w4.cell? ⟨w.heap.size, 0, none⟩ = some (.bool fold) := by simp [World.cell?, hS4]
 have d1 : w4.cell? ⟨w.heap.size, 1, none⟩ = some (.slice a la ca) := by simp [World.cell?, hS4]
 have HT4 := Lib.hid (HT7.out w4 hB4)
 have hlt4 : w3.heap.size < w4.heap.size := hDv.lt
 clear hw4 c0 c1 hb34 hrow hb3 hB hS0
 go_upto_region 5 with (go_at_call 47; refine HT4.out.mono ?_; rintro e w5 ⟨t, rfl, hTr, hb5⟩; obtain ⟨ua, un, uc, da, dn, dc, xa, xn, xc, ba, bn, bc⟩ := t; simp only [TV.cells])
 have hun : un ≤ 140737488351232 := by
  have h1 := hTr.up.1
  have h2 := up_len13 wss
  have h3 := HNL.out
  dsimp only at h1
  omega
 have hB5 := hB4.trans (hb5.mono hB4.size)
 obtain ⟨w6, hw6⟩ : ∃ w6, w6 = w5.alloc (.cells #[.slice ua un uc, .slice da dn dc, .slice xa xn xc, .slice ba bn bc] 34) := ⟨_, rfl⟩
 have hB56 : Below w5.heap.size w5 w6 := by rw [hw6]; exact below_alloc _ _
 have hT6 : w6.heap[w5.heap.size]? = some (.cells #[.slice ua un uc, .slice da dn dc, .slice xa xn xc, .slice ba bn bc] 34 (0, 0)) := by rw [hw6]; exact World.alloc_heap_new _ _
 have hTr6 := hTr.below hB56
 have hb46 : Below w4.heap.size w4 w6 := hb5.trans (hB56.mono hb5.size)
 rw [← hw6]
 clear hw6
 have HNX6 := Lib.hid (HNX.out _ w6 hTr6 hun)
 have e0 : w6.cell? ⟨w5.heap.size, 0, none⟩ = some (.slice ua un uc) := by simp [World.cell?, hT6]
 have e1 : w6.cell? ⟨w5.heap.size, 1, none⟩ = some (.slice da dn dc) := by simp [World.cell?, hT6]
 have e2 : w6.cell? ⟨w5.heap.size, 2, none⟩ = some (.slice xa xn xc) := by simp [World.cell?, hT6]
 have e3 : w6.cell? ⟨w5.heap.size, 3, none⟩ = some (.slice ba bn bc) := by simp [World.cell?, hT6]
 clear d0 d1 hTr
 go_upto_region 8 with (go_at_call 63; refine HNX6.out.mono ?_; rintro e w7 ⟨q, rfl, hnx, hql, hb7⟩)
 have hb47 : Below w4.heap.size w4 w7 := hb46.trans (hb7.mono hb46.size)
 clear e0 e1 e2 e3
 go_upto_region 10 with fail
 have hB7 : Below w.heap.size w w7 := hB4.trans (hb47.mono hB4.size)
 have HB7 := Lib.hid hB7
 have hTr7 := hTr6.below hb7
 have HTr7 := Lib.hid hTr7
 have hD7 := hDv.below hb47
 have hl7 : w3.heap.size < w7.heap.size := hD7.lt
 have HK : Hid (∀ V, RowKit.Below w7.heap.size w7 V → Dv V w3.heap.size L m (.slice (some ⟨R, 0, none⟩) k k)) := fun V hV => hD7.below hV
 have hS7 : w7.heap[w.heap.size]? = some (.cells (setV fold a la ca) 24 (0, 0)) := (hb47.block _ (Array.getElem?_eq_some_iff.1 hS4).1).trans hS4
 have HSC : Hid (∀ V, RowKit.Below w7.heap.size w7 V → V.cell? ⟨w.heap.size, 0, none⟩ = some (.bool fold) ∧ V.cell? ⟨w.heap.size, 1, none⟩ = some (.slice a la ca)) := fun V hV => by
  have h := (hV.block _ (Array.getElem?_eq_some_iff.1 hS7).1).trans hS7
  exact ⟨by simp [World.cell?, h], by simp [World.cell?, h]⟩
 have hT7 : w7.heap[w5.heap.size]? = some (.cells #[.slice ua un uc, .slice da dn dc, .slice xa xn xc, .slice ba bn bc] 34 (0, 0)) := (hb7.block _ (Array.getElem?_eq_some_iff.1 hT6).1).trans hT6
 have HTC : Hid (∀ V, RowKit.Below w7.heap.size w7 V → V.cell? ⟨w5.heap.size, 0, none⟩ = some (.slice ua un uc) ∧ V.cell? ⟨w5.heap.size, 1, none⟩ = some (.slice da dn dc) ∧ V.cell? ⟨w5.heap.size, 2, none⟩ = some (.slice xa xn xc) ∧ V.cell? ⟨w5.heap.size, 3, none⟩ = some (.slice ba bn bc)) := fun V hV => by
  have h := (hV.block _ (Array.getElem?_eq_some_iff.1 hT7).1).trans hT7
  exact ⟨by simp [World.cell?, h], by simp [World.cell?, h], by simp [World.cell?, h], by simp [World.cell?, h]⟩
 have HI256 : Hid ((Tryz.prog.info? 51).map (·.size) = some (L.map (Value.int .i64)).length) := by rw [Hid, List.length_map, hLl]; kernel_rfl
 have HI28 : Hid ((Tryz.prog.info? 109).map (·.size) = some (dvC L m (.slice (some ⟨R, 0, none⟩) k k)).toArray.size) := by rw [Hid, dvC_size hLl]; exact info28
 obtain ⟨ZTl, hZTl⟩ : ∃ Z, tbC L m n (.slice (some ⟨R, 0, none⟩) k k) = Z := ⟨_, rfl⟩
 have HTl : Hid (ZTl.length = 259) := by rw [Hid, ← hZTl]; exact tbC_len hLl _ _ _
 have HZTl := Lib.hid hZTl
 obtain ⟨ZT, hZT⟩ : ∃ Z, ZTl.toArray = Z := ⟨_, rfl⟩
 have HZT := Lib.hid hZT
 have HB115 : Hid (Tryz.prog.built 114 [(0, .agg (L.map (Value.int .i64)).toArray), (1, .int .i64 m), (2, .int .i64 n), (3, .slice (some ⟨R, 0, none⟩) k k)] = some ZT) := by rw [Hid, ← hZT, ← hZTl]; exact built115_any L m n _ k k hLl
 have HT7l : Hid (w5.heap.size < w7.heap.size) := (Array.getElem?_eq_some_iff.1 hT7).1
 clear hZTl hZT hD7 hS7 hT7 hTr7 hT6 hS4 hDv hTr6 hB7
 refine Code.wp_mono (Q := MidN (fun a' V => ∃ (p8 BM cv : Nat) (av : Option Addr) (ZM : Array Value) (x9 x10 x11 x12 x13 x14 x15 x16 x17 x18 x19 x20 x21 x22 x23 x24 x25 x26 x27 x28 x29 x30 x31 x32 x33 x34 x35 x36 x37 x38 x39 x40 x41 x42 x43 x44 x45 x46 x47 x48 : Value), a' = { tmps := List.toArray (Value.agg (setV fold a la ca) :: Value.pointer (some ⟨w.heap.size, 0, none⟩) :: Value.pointer none :: Value.int .i64 0 :: Value.pointer (some ⟨w3.heap.size, 0, none⟩) :: Value.int .i64 0 :: Value.pointer (some ⟨w5.heap.size, 0, none⟩) :: Value.slice (some ⟨q, 0, none⟩) n n :: Value.pointer (some ⟨p8, 0, none⟩) :: x9 :: x10 :: x11 :: x12 :: x13 :: x14 :: x15 :: x16 :: x17 :: x18 :: x19 :: x20 :: x21 :: x22 :: x23 :: x24 :: x25 :: x26 :: x27 :: x28 :: x29 :: x30 :: x31 :: x32 :: x33 :: x34 :: x35 :: x36 :: x37 :: x38 :: x39 :: x40 :: x41 :: x42 :: x43 :: x44 :: x45 :: x46 :: x47 :: x48 :: undef :: undef :: undef :: undef :: undef :: undef :: undef :: undef :: undef :: undef :: undef :: undef :: undef :: undef :: undef :: undef :: undef :: undef :: undef :: undef :: undef :: undef :: undef :: undef :: undef :: undef :: undef :: undef :: undef :: undef :: undef :: undef :: undef :: undef :: undef :: undef :: undef :: undef :: undef :: undef :: []), defers := [] } ∧ Boxed V p8 64 (.pointer (some ⟨BM, 0, none⟩)) ∧ V.heap[BM]? = some (.cells ZM 118 (0, 0)) ∧ (ZTl ++ [Value.bool fold, Value.slice av la cv, Value.int .i64 (longL wss), Value.int .i64 ((mostN wss n : Nat) : Int), Value.slice none 0 0]).toArray = ZM ∧ OwnW V w7.heap.size (.slice av la cv) wss ∧ RowKit.Below w7.heap.size w7 V ∧ w7.heap.size ≤ p8 ∧ w7.heap.size ≤ BM ∧ la ≤ cv ∧ BM ≠ p8)) (fun e a' Y hM => ?_) ?_
 ·
  cases e <;> first | exact absurd hM id | skip
  obtain ⟨p8, BM, cv, av, ZM, x9, x10, x11, x12, x13, x14, x15, x16, x17, x18, x19, x20, x21, x22, x23, x24, x25, x26, x27, x28, x29, x30, x31, x32, x33, x34, x35, x36, x37, x38, x39, x40, x41, x42, x43, x44, x45, x46, x47, x48, rfl, hP, hBM, hZM, hOw, hHeld, hp8, hbm, hcv, hPM⟩ := hM
  simp only [Exit.then]
  go_upto_region 11 with fail
  have hMc : Mc Y BM L m n (.slice (some ⟨R, 0, none⟩) k k) fold (.slice av la cv) (longL wss) ((mostN wss n : Nat) : Int) (.slice none 0 0) := ⟨by rw [hBM, ← hZM, ← HZTl.out, mcC_tb], hLl⟩
  have HOw := Lib.hid hOw
  clear hOw hBM hZM HB115 HZT HZTl HTl HI28 HI256 HPO HPL HMO HST HD HT7 HK
  have hpl := hP.lt
  have hml := hMc.lt
  have HPM : Hid (BM ≠ p8) := hPM
  have HMK : Hid (∀ X : World, (Instr.makeSlice 116 (.int .i64 (n : Int)) (.int .i64 (n : Int))).run Tryz.prog X = .ok (.slice (some ⟨X.heap.size, 0, none⟩) n n) (X.alloc (.cells (rowsNil n) 32))) := fun X => by
   obtain ⟨i0, hi, hz0, hz1, hz2⟩ := info_parts ptr_info
   have hn4 := HNL.out
   rw [HN.out] at hn4
   have h := run_makeSlice (P := Tryz.prog) (w := X) 116 32 i0 (.slice none 0 0) Tryz.underlying116 hi hz0 .i64 .i64 (n : Int) (n : Int) (by omega) (by omega) (by rw [hz1]; omega) (by rw [hz2]; omega) (by omega)
   rw [hz1] at h
   have e1 : (n : Int).toNat * 1 = n := by omega
   rw [e1, made_nil, Int.toNat_natCast] at h
   exact h
  have KP : Hid (∀ X, (KeptB Y.heap.size BM Y X ∧ ∃ wd, Mc X BM L m n (.slice (some ⟨R, 0, none⟩) k k) fold (.slice av la cv) (longL wss) ((mostN wss n : Nat) : Int) (wd)) → X.cell? ⟨p8, 0, none⟩ = some (.pointer (some ⟨BM, 0, none⟩)) ∧ X.cell? ⟨BM, 257, none⟩ = some (.int .i64 (n : Int))) := fun X hX => ⟨(World.cell?_of_block (a := ⟨p8, 0, none⟩) (hX.1.1 p8 hpl (Ne.symm HPM.out))).trans hP.cell, by obtain ⟨wd, h⟩ := hX.2; exact h.cells.2.1⟩
  refine wp_region_noPanic ?_
  refine wp_region_held_drew (S := fun X => KeptB Y.heap.size BM Y X ∧ ∃ wd, Mc X BM L m n (.slice (some ⟨R, 0, none⟩) k k) fold (.slice av la cv) (longL wss) ((mostN wss n : Nat) : Int) (wd)) (by kernel_rfl) ⟨⟨fun _ _ _ => rfl, Nat.le_refl _⟩, _, hMc.below (bel_drewN Y 1)⟩ (fun hS11 => ?_)
  obtain ⟨Y1, hY1⟩ : ∃ W, W = Y.drew := ⟨_, rfl⟩
  have hb01 : RowKit.Below Y.heap.size Y Y1 := by rw [hY1]; exact bel_drewN Y 1
  have hMc1 := hMc.below hb01
  have hs01 : Hid (Y1.heap.size = Y.heap.size) := by rw [Hid, hY1]; rfl
  rw [← hY1] at hS11 ⊢
  clear hY1
  change wpAnyH _ _ _ _ _ 10 _ _ _
  iterate 2 (refine tkF 9 (v := ?_) ?_ ?_; rotate_left; (· intro V hV; obtain ⟨q0, q1⟩ := KP.out V hV; first | (go_simp; done) | (go_simp; with_reducible rfl)); try simp only [Act.put, pA, pB, pC])
  iterate 3 (refine tkF 9 (v := ?_) ?_ ?_; rotate_left; (· intro V hV; first | (go_simp; done) | (go_simp; with_reducible rfl)); try simp only [Act.put, pA, pB, pC])
  refine tkW 5 (v := ?_) ?_ ?_
  rotate_left
  ·
   intro V hV
   obtain ⟨q0, q1⟩ := KP.out V hV
   first | (go_simp; done) | (go_simp; with_reducible rfl)
  try simp only [Act.put, pA, pB, pC]
  refine rdy 6 (fun K hK => ?_)
  have hmk := HMK.out Y1
  go_simp
  obtain ⟨Y2, hY2⟩ : ∃ W, W = Y1.alloc (.cells (rowsNil n) 32) := ⟨_, rfl⟩
  have hb12 : RowKit.Below Y1.heap.size Y1 Y2 := by rw [hY2]; exact below_alloc _ _
  have hG2 : Y2.heap[Y1.heap.size]? = some (.cells (rowsNil n) 32 (0, 0)) := by rw [hY2]; exact heap_alloc_new _ _
  have hk2 : KeptB Y.heap.size BM Y Y2 := by rw [hY2]; exact keptB_alloc hS11.1 _
  rw [← hY2]
  clear hY2 hmk
  have hMc2 := hMc1.below hb12
  obtain ⟨G, hGe⟩ : ∃ G, Y1.heap.size = G := ⟨_, rfl⟩
  have hGs : Hid (G = Y.heap.size) := by rw [Hid, ← hGe]; exact hs01.out
  rw [hGe] at hG2 ⊢
  clear hGe
  refine hK.out _ _ ⟨hk2, _, hMc2⟩ (fun hS12 => ?_)
  clear hK K hS11
  try simp only [Act.put, pA, pB, pC]
  iterate 2 (refine tkF 9 (v := ?_) ?_ ?_; rotate_left; (· intro V hV; first | (go_simp; done) | (go_simp; with_reducible rfl)); try simp only [Act.put, pA, pB, pC])
  refine rdy 9 (fun K hK => ?_)
  have c0 := hMc2.cells.2.2.2.2.2.2.2
  have c1 := hMc2.frozen 263
  have c2 := hMc2.lt
  go_simp
  have hMc3 := hMc2.setW (.slice (some ⟨G, 0, none⟩) n n)
  have hGB : G ≠ BM := by have := hGs.out; omega
  have hG3 := (Below.heap_setCell Y2 ⟨BM, 263, none⟩ (.slice (some ⟨G, 0, none⟩) n n) G hGB).trans hG2
  have hB02 : RowKit.Below w7.heap.size w7 Y2 := hHeld.trans ((hb01.trans (hb12.mono hb01.size)).mono hHeld.size)
  have hB3 := hB02.setCell (p := ⟨BM, 263, none⟩) hbm (.slice (some ⟨G, 0, none⟩) n n)
  have hOw3 := ((HOw.out.below hb01).below hb12).turned (grown_set2 Y2 BM 263 (.slice (some ⟨G, 0, none⟩) n n)) hMc2.box (of_decide_eq_true (by kernel_rfl)) (of_decide_eq_true (by kernel_rfl))
  have hP3 := (Below.heap_setCell Y2 ⟨BM, 263, none⟩ (.slice (some ⟨G, 0, none⟩) n n) p8 (Ne.symm HPM.out)).trans ((hk2.1 p8 hpl (Ne.symm HPM.out)).trans hP)
  have hk3 : KeptB Y.heap.size BM Y (Y2.setCell ⟨BM, 263, none⟩ (.slice (some ⟨G, 0, none⟩) n n)) := ⟨fun i h1 h2 => (Below.heap_setCell Y2 ⟨BM, 263, none⟩ _ i h2).trans (hk2.1 i h1 h2), by have := hk2.2; simpa [World.setCell] using this⟩
  obtain ⟨Y3, hY3⟩ : ∃ W, W = Y2.setCell ⟨BM, 263, none⟩ (.slice (some ⟨G, 0, none⟩) n n) := ⟨_, rfl⟩
  rw [← hY3] at hMc3 hG3 hB3 hOw3 hP3 hk3 ⊢
  have hs3 : Hid (G < Y3.heap.size) := (Array.getElem?_eq_some_iff.1 hG3).1
  have hP3 : Boxed Y3 p8 64 (.pointer (some ⟨BM, 0, none⟩)) := hP3
  clear hY3
  refine hK.out _ _ ⟨hk3, _, hMc3⟩ (fun hS13 => ?_)
  clear hK K hS12 hS13 hk3 hk2 hMc2 hMc1 hMc hb01 hb12 hB02 c0 c1 c2 hG2 hP hHeld HOw KP HMK hml hs01
  try simp only [Act.put, pA, pB, pC]
  refine wpAnyH_done (by kernel_rfl) ?_ _
  refine NoPanic.normal ?_
  have hFR := FillR.new hG3
  have HG3 := Lib.hid hG3
  have HOw3 := Lib.hid hOw3
  have HB3 := Lib.hid hB3
  have HMc3 := Lib.hid hMc3
  have HP3 := Lib.hid hP3
  have c0 := hP3.cell
  have c1 := hMc3.cells.2.1
  have hGBM : Hid (G ≠ BM) := hGB
  have HBMq : Hid (w7.heap.size ≤ BM) := hbm
  have hGp8 : Hid (G ≠ p8) := by have := hGs.out; rw [Hid]; omega
  have hG7 : Hid (w7.heap.size ≤ G) := by have := hGs.out; rw [Hid]; omega
  have hwl : n = xn := by have h := HTr7.out.wrd.1; dsimp only at h; rw [(wrd_len wss).1, HN.out] at h; exact h
  obtain rfl := hwl
  have hn0 : 0 < n := by rw [← HN.out]; exact (List.getElem?_eq_some_iff.1 (nodesL_head wss)).1
  obtain ⟨b0, o0, hxa, hb07, hcw⟩ := HTr7.out.wrd.2.resolve_left (by dsimp only; omega)
  dsimp only at hxa
  subst hxa
  have HCW : Hid (∀ (i : Nat) (v : Int), (trieP wss).wrd[i]? = some v → w7.cell? ⟨b0, o0 + i, none⟩ = some (.int .i64 v)) := hcw
  have HB07 : Hid (b0 < w7.heap.size) := hb07
  have HQ7 := Lib.hid hnx
  have hq7 : Hid (q < w7.heap.size) := hnx.lt
  have HN4 : Hid (n ≤ 400) := by have := HNL.out; rw [HN.out] at this; exact this
  clear hG3 hOw3 hB3 hMc3 hP3 hGB hpl hGs hbm hp8 hPM hcw hb07 hnx hn0
  go_wp2_with fail
  refine wp_loop (fun a' w' => ∃ (node : Nat) (ds : List Deferred) (y63 y9 y10 y49 y50 y51 y52 y53 y54 y55 y56 y57 y58 y59 y60 y61 y64 y65 y66 y67 y68 y69 y70 y71 y72 y73 y74 y75 y76 y77 y78 y79 y80 y81 y82 y83 y84 y85 y86 y87 : Value), (y63 = .int .i64 (node : Int) ∧ node ≤ n ∧ Hid (FillR G n ((List.range node).map (words9 wss)) w') ∧ Hid (Y3.grownBy w' (some G)) ∧ Hid (Colls w7.heap.size w' ds)) ∧ a' = { tmps := List.toArray (Value.agg (setV fold a la ca) :: Value.pointer (some ⟨w.heap.size, 0, none⟩) :: Value.pointer none :: Value.int .i64 0 :: Value.pointer (some ⟨w3.heap.size, 0, none⟩) :: Value.int .i64 0 :: Value.pointer (some ⟨w5.heap.size, 0, none⟩) :: Value.slice (some ⟨q, 0, none⟩) n n :: Value.pointer (some ⟨p8, 0, none⟩) :: y9 :: y10 :: x11 :: x12 :: x13 :: x14 :: x15 :: x16 :: x17 :: x18 :: x19 :: x20 :: x21 :: x22 :: x23 :: x24 :: x25 :: x26 :: x27 :: x28 :: x29 :: x30 :: x31 :: x32 :: x33 :: x34 :: x35 :: x36 :: x37 :: x38 :: x39 :: x40 :: x41 :: x42 :: x43 :: x44 :: x45 :: x46 :: x47 :: x48 :: y49 :: y50 :: y51 :: y52 :: y53 :: y54 :: y55 :: y56 :: y57 :: y58 :: y59 :: y60 :: y61 :: Value.int .i64 (n : Int) :: y63 :: y64 :: y65 :: y66 :: y67 :: y68 :: y69 :: y70 :: y71 :: y72 :: y73 :: y74 :: y75 :: y76 :: y77 :: y78 :: y79 :: y80 :: y81 :: y82 :: y83 :: y84 :: y85 :: y86 :: y87 :: undef :: []), defers := ds }) (fun a' _ => n - (intOf (a'.tmps.getD 63 undef)).toNat) ⟨0, [], _, _, _, _, _, _, _, _, _, _, _, _, _, _, _, _, _, _, _, _, _, _, _, _, _, _, _, _, _, _, _, _, _, _, _, _, _, _, _, _, ⟨rfl, Nat.zero_le _, hFR, (⟨rfl, rfl, rfl, Nat.le_refl _, fun _ _ _ => rfl⟩ : Y3.grownBy Y3 (some G)), trivial⟩, rfl⟩ ?_
  rintro a' wr ⟨node, ds, y63, y9, y10, y49, y50, y51, y52, y53, y54, y55, y56, y57, y58, y59, y60, y61, y64, y65, y66, y67, y68, y69, y70, y71, y72, y73, y74, y75, y76, y77, y78, y79, y80, y81, y82, y83, y84, y85, y86, y87, ⟨rfl, hnn, HF, HGr, HC⟩, rfl⟩
  have hBr : Hid (RowKit.Below w7.heap.size w7 wr) := HB3.out.grown HGr.out HB3.out.size (fun j e => by cases e; exact hG7.out)
  have hkr : Hid (∀ i, i < Y3.heap.size → i ≠ G → wr.heap[i]? = Y3.heap[i]?) := fun i h1 h2 => HGr.out.block i h1 (fun e => h2 (by cases e; rfl))
  have hPr : Boxed wr p8 64 (.pointer (some ⟨BM, 0, none⟩)) := (hkr.out p8 HP3.out.lt (Ne.symm hGp8.out)).trans HP3.out
  have HPr := Lib.hid hPr
  clear c0 c1
  have c0 := hPr.cell
  clear hPr hFR
  by_cases hlt : node < n
  ·
   have hd : decide ((node : Int) < (n : Int)) = true := by simp; omega
   obtain ⟨e0, e1, e2, e3⟩ := HTC.out wr hBr.out
   have l5 : w5.heap.size < wr.heap.size := Nat.lt_of_lt_of_le HT7l.out hBr.out.size
   have l8 : p8 < wr.heap.size := HPr.out.lt
   go_wp2_with (go_at_call 68; refine (ends13_any ⟨ua, un, uc, da, dn, dc, some ⟨b0, o0, none⟩, n, xc, ba, bn, bc⟩ (some ⟨q, 0, none⟩) n n (node : Int) _).mono ?_; rintro e w15 ⟨rfl, hw15⟩)
   try simp only [TV.cells]
   obtain ⟨w15, hw15⟩ : ∃ W, W = ((((wr.alloc (.cells #[.int .i64 (node : Int)] 3)).alloc (.cells #[.slice ua un uc, .slice da dn dc, .slice (some ⟨b0, o0, none⟩) n xc, .slice ba bn bc] 34)).alloc (.cells #[.slice (some ⟨q, 0, none⟩) n n] 32)).alloc (.cells #[.int .i64 (node : Int)] 3)) := ⟨_, rfl⟩
   have hO : Bx wr.heap.size [.cells #[.int .i64 (node : Int)] 3, .cells #[.slice ua un uc, .slice da dn dc, .slice (some ⟨b0, o0, none⟩) n xc, .slice ba bn bc] 34, .cells #[.slice (some ⟨q, 0, none⟩) n n] 32, .cells #[.int .i64 (node : Int)] 3] w15 := by rw [hw15]; exact ((((Bx.nil _ wr).snoc _ rfl).snoc _ (by simp)).snoc _ (by simp)).snoc _ (by simp)
   have hb15 : RowKit.Below wr.heap.size wr w15 := by rw [hw15]; exact (((below_alloc wr _).alloc (by simp) _).alloc (by simp; omega) _).alloc (by simp; omega) _
   have hs15 : w15.heap.size = wr.heap.size + 1 + 1 + 1 + 1 := by rw [hw15]; simp
   rw [← hw15]
   clear hw15 e0 e1 e2 e3
   have hO0 : Boxed w15 wr.heap.size 3 (.int .i64 (node : Int)) := hO 0 _ rfl
   have hO1 : w15.heap[wr.heap.size + 1]? = _ := hO 1 _ rfl
   have hO2 : Boxed w15 (wr.heap.size + 1 + 1) 32 (.slice (some ⟨q, 0, none⟩) n n) := hO 2 _ rfl
   have hO3 : Boxed w15 (wr.heap.size + 1 + 1 + 1) 3 (.int .i64 (node : Int)) := hO 3 _ rfl
   have hB15 : RowKit.Below w7.heap.size w7 w15 := hBr.out.trans (hb15.mono hBr.out.size)
   have hq15 : IntRow q (nextsP wss) w15 := (hB15.block q hq7.out).trans HQ7.out
   have hG15 : G < wr.heap.size := Nat.lt_of_lt_of_le hs3.out HGr.out.size
   have hs7 := hBr.out.size
   have hqG : q < G := Nat.lt_of_lt_of_le hq7.out hG7.out
   have hbG : b0 < G := Nat.lt_of_lt_of_le HB07.out hG7.out
   have hps := ends13_stops wss (wr.heap.size + 1 + 1 + 1) (wr.heap.size + 1 + 1) (wr.heap.size + 1) q n b0 o0 xc n node _ _ _ (fun k => k < w15.heap.size ∧ k ≠ G) 8 w15 hO1 hq15 HN.out (by have := HN4.out; omega) (fun i v hv => (hB15.cell (p := ⟨b0, o0 + i, none⟩) HB07.out).trans (HCW.out i v hv)) hO2 hO3 ⟨⟨by omega, by omega⟩, ⟨by omega, by omega⟩, ⟨by omega, by omega⟩, ⟨by omega, by omega⟩, ⟨by omega, by omega⟩⟩ (fun k hk => hk.1) ⟨by omega, by omega, by omega, by omega⟩ hlt
   obtain ⟨vs, hvs, hvl, hxl, hnil, hrows⟩ := HF.out
   have hxs : ((List.range node).map (words9 wss)).length = node := by simp
   have hvn : vs[node]? = some (none, 0, 0) := by
    have h1 : node < vs.length := by omega
    have h2 := hnil node vs[node] (by omega) (by simp [h1])
    rw [List.getElem?_eq_getElem h1, h2]
   have hset : vs.set node (none, 0, 0) = vs := by
    apply List.ext_getElem?
    intro i
    rw [List.getElem?_set]
    split
    · rename_i h; subst h; rw [if_pos (by omega), hvn]
    · rfl
   have hg15 : w15.heap[G]? = some (.cells (vs.map svV).toArray 32 (0, 0)) := (hb15.block G hG15).trans hvs
   have HH0 : HoldsG G w15.heap.size vs node [] w15 := ⟨(none, 0, 0), by rw [hset]; exact hg15, World.ownsRow_nil _ _ _ _⟩
   have HVS := Lib.hid hvs
   have HVL : Hid (vs.length = n) := hvl
   have HNIL := Lib.hid hnil
   have HRW := Lib.hid hrows
   have HO0 := Lib.hid hO0
   have HB15 := Lib.hid hB15
   have Hb15 := Lib.hid hb15
   have hP15 : Boxed w15 p8 64 (.pointer (some ⟨BM, 0, none⟩)) := (hb15.block p8 l8).trans HPr.out
   have HP15 := Lib.hid hP15
   have hMr : Hid (BM < wr.heap.size) := Nat.lt_of_lt_of_le HMc3.out.lt HGr.out.size
   have HM15 : Hid (w15.cell? ⟨BM, 263, none⟩ = some (.slice (some ⟨G, 0, none⟩) n n)) := (World.cell?_of_block (a := ⟨BM, 263, none⟩) ((hb15.block BM hMr.out).trans (hkr.out BM HMc3.out.lt (Ne.symm hGBM.out)))).trans HMc3.out.cells.2.2.2.2.2.2.2
   have hw15n : (words9 wss node).length ≤ 1000000 := by have := words9_len wss node; have := HN4.out; omega
   clear hvs hvl hnil hrows hO0 hO1 hO2 hO3 hO hB15 hb15 hq15 hset hvn hg15 hP15 hxl
   apply rangeW rfl (enters_of Tryz.func101 (by kernel_rfl) rfl) hps (fun r hr => by rw [hr]; omega) keepOn_t (keepOn_b fun k hk => hk.1) (fun _ => rfl)
    (fun pre W => HoldsG G w15.heap.size vs node pre W ∧ ((∀ k, k < w15.heap.size → k ≠ G ∧ k ≠ wr.heap.size + 1 + 1 + 1 → W.heap[k]? = w15.heap[k]?) ∧ w15.heap.size ≤ W.heap.size) ∧ RowKit.Below G w15 W)
    (fun _ _ _ => False)
   case hI => exact OwnsW.and (holdsG_owns (by omega) (by omega) id) (OwnsW.and (keptB_owns (G := G) (fun k _ h => h.2)) (OwnsW.below (by omega) (by omega) (fun r hr => by rw [hr]; omega)))
   case hIx => exact fun _ _ _ _ _ hs _ _ => hs
   case h0 => exact ⟨HH0, ⟨fun _ _ _ => rfl, Nat.le_refl _⟩, RowKit.Below.refl _ _⟩
   case hassign =>
    intro l x W K hK
    unfold wdEnc
    gi_wp2
    exact hK
   case hbody =>
    rintro l pre u W ⟨⟨⟨va, vn, vc⟩, hv, hown⟩, ⟨hK1, hsz⟩, hBe⟩ hlen
    try dsimp only
    obtain ⟨av2, cv2, he, hcv2, _⟩ := own_sl1 (enc := Value.int .i64) hown
    simp only [svV, Value.slice.injEq] at he
    obtain ⟨rfl, rfl, rfl⟩ := he
    have hL4 : pre.length ≤ 1000 := by have := HN4.out; omega
    obtain ⟨i0, hi, hz0, hz1, hz2⟩ := info_parts i64_info7
    have HOW := Lib.hid hown
    have HV := Lib.hid hv
    have hGW : G < W.heap.size := by omega
    have KC : Hid (∀ X, KeptB w15.heap.size G W X → X.cell? ⟨p8, 0, none⟩ = some (.pointer (some ⟨BM, 0, none⟩)) ∧ X.cell? ⟨BM, 263, none⟩ = some (.slice (some ⟨G, 0, none⟩) n n) ∧ X.cell? ⟨wr.heap.size, 0, none⟩ = some (.int .i64 (node : Int))) := fun X hX => by
     have h1 : ∀ k, k < wr.heap.size + 1 → k ≠ G → X.heap[k]? = w15.heap[k]? := fun k ha hb => (hX.1 k (by omega) hb).trans (hK1 k (by omega) ⟨hb, by omega⟩)
     exact ⟨(World.cell?_of_block (a := ⟨p8, 0, none⟩) (h1 p8 (by omega) (Ne.symm hGp8.out))).trans HP15.out.cell, (World.cell?_of_block (a := ⟨BM, 263, none⟩) (h1 BM (by have := hMr.out; omega) (Ne.symm hGBM.out))).trans HM15.out, (World.cell?_of_block (a := ⟨wr.heap.size, 0, none⟩) (h1 wr.heap.size (by omega) (by omega))).trans HO0.out.cell⟩
    have i1 : (0 : Int) ≤ (node : Int) := by omega
    have i2 : (node : Int) < (n : Int) := by omega
    clear hv hown hps c0
    gi_wp2
    have hvD : W.drew.heap[G]? = some (.cells ((vs.set node (va, pre.length, vc)).map svV).toArray 32 (0, 0)) := HV.out
    have hownD : W.drew.ownsRow w15.heap.size 3 1 (.slice va pre.length vc) pre.length (pre.map (Value.int .i64)) := HOW.out
    have HVD := Lib.hid hvD
    have HOWD : Hid (OwnI W.drew w15.heap.size (.slice va pre.length vc) pre) := hownD
    have hsk : SlK 1 (W.drew.alloc (.cells #[.int .i64 u] 3)) (some ⟨W.drew.heap.size, 0, none⟩) 1 [.int .i64 u] := slk_new W.drew u
    refine regionR_held_drew (S := KeptB w15.heap.size G W) mixed (by kernel_rfl) ⟨fun _ _ _ => rfl, (by show w15.heap.size ≤ W.heap.size; omega)⟩ (fun hHeld => ?_)
    refine tkW 0 (v := ?_) ?_ ?_
    rotate_left
    ·
     intro V hV
     obtain ⟨q0, q1, q2⟩ := KC.out V hV
     first | (go_simp; done) | (go_simp; with_reducible rfl)
    try simp only [Act.put, pA, pB, pC]
    refine tkW 1 (v := ?_) ?_ ?_
    rotate_left
    ·
     intro V hV
     obtain ⟨q0, q1, q2⟩ := KC.out V hV
     first | (go_simp; done) | (go_simp; with_reducible rfl)
    try simp only [Act.put, pA, pB, pC]
    refine tkW 2 (v := ?_) ?_ ?_
    rotate_left
    ·
     intro V hV
     obtain ⟨q0, q1, q2⟩ := KC.out V hV
     first | (go_simp; done) | (go_simp; with_reducible rfl)
    try simp only [Act.put, pA, pB, pC]
    refine tkW 3 (v := ?_) ?_ ?_
    rotate_left
    ·
     intro V hV
     obtain ⟨q0, q1, q2⟩ := KC.out V hV
     first | (go_simp; done) | (go_simp; with_reducible rfl)
    try simp only [Act.put, pA, pB, pC]
    refine tkW 4 (v := ?_) ?_ ?_
    rotate_left
    ·
     intro V hV
     obtain ⟨q0, q1, q2⟩ := KC.out V hV
     first | (go_simp; done) | (go_simp; with_reducible rfl)
    try simp only [Act.put, pA, pB, pC]
    refine tkW 5 (v := ?_) ?_ ?_
    rotate_left
    ·
     intro V hV
     obtain ⟨q0, q1, q2⟩ := KC.out V hV
     first | (go_simp; done) | (go_simp; with_reducible rfl)
    try simp only [Act.put, pA, pB, pC]
    refine tkW 6 (v := ?_) ?_ ?_
    rotate_left
    ·
     intro V hV
     obtain ⟨q0, q1, q2⟩ := KC.out V hV
     first | (go_simp; done) | (go_simp; with_reducible rfl)
    try simp only [Act.put, pA, pB, pC]
    refine tkW 7 (v := ?_) ?_ ?_
    rotate_left
    ·
     intro V hV
     obtain ⟨q0, q1, q2⟩ := KC.out V hV
     first | (go_simp; done) | (go_simp; with_reducible rfl)
    try simp only [Act.put, pA, pB, pC]
    refine tkW 8 (v := ?_) ?_ ?_
    rotate_left
    ·
     intro V hV
     obtain ⟨q0, q1, q2⟩ := KC.out V hV
     first | (go_simp; done) | (go_simp; with_reducible rfl)
    try simp only [Act.put, pA, pB, pC]
    refine tkW 9 (v := ?_) ?_ ?_
    rotate_left
    ·
     intro V hV
     obtain ⟨q0, q1, q2⟩ := KC.out V hV
     first | (go_simp; done) | (go_simp; with_reducible rfl)
    try simp only [Act.put, pA, pB, pC]
    refine tkW 10 (v := ?_) ?_ ?_
    rotate_left
    ·
     intro V hV
     obtain ⟨q0, q1, q2⟩ := KC.out V hV
     first | (go_simp; done) | (go_simp; with_reducible rfl)
    try simp only [Act.put, pA, pB, pC]
    refine tkW 12 (v := ?_) ?_ ?_
    rotate_left
    ·
     intro V hV
     first | (go_simp; done) | (go_simp; with_reducible rfl)
    try simp only [Act.put, pA, pB, pC]
    refine wpAnyH_ready (rs := [11,13]) (by as_aux_lemma => kernel_rfl) (by simp) ?_
    refine AllReadyH.cons (by simp only [pD, pE, pF]; rfl) (fun K hK => ?_) (AllReadyH.cons (by simp only [pD, pE, pF]; rfl) (fun K hK => ?_) AllReadyH.nil)
    ·
     have c6 := HoldsG.cell (B := 0) HVD.out (by rw [HVL.out]; exact hlt)
     have hOld := hHeld
     go_simp
     refine hK.out _ _ ?_ (fun hNew => ?_)
     · exact hOld
     clear hK K hHeld hOld
     have hHeld := hNew
     clear hNew
     try simp only [Act.put, pA, pB, pC]
     refine rdy 13 (fun K hK => ?_)
     have hOld := hHeld
     go_simp
     refine hK.out _ _ ?_ (fun hNew => ?_)
     · exact keptB_alloc hOld _
     clear hK K hHeld hOld c6
     have hHeld := hNew
     clear hNew
     try simp only [Act.put, pA, pB, pC]
     refine rdy 14 (fun K hK => ?_)
     refine wanted_step (by kernel_rfl) ?_
     refine oper_append_slK _ _ _ 32 rfl w15.heap.size 3 i0 (.int .i64 0) 1 8 Tryz.underlying32 hi hz0 hz1 hz2 rfl (by decide) _ _ _ rfl (hownD.alloc _) (some ⟨W.drew.heap.size, 0, none⟩) 1 1 [.int .i64 u] rfl hsk (by simp [Value.oneCell']) (by unfold maxLen; omega) (by omega) (by show w15.heap.size ≤ (W.heap.push _).size; simp; omega) ?_
     intro v' w5' hown' hgrow hat
     obtain ⟨g', cap', rfl⟩ := ownsRow_succ hown'
     obtain ⟨b1, b2, b3, b4, b5⟩ := HoldsG.app (u := (some ⟨g', 0, none⟩, pre.length + 1, cap')) HVD.out HOWD.out (by omega) (by show w15.heap.size ≤ W.heap.size; omega) hown' hgrow
     have d1 := HoldsG.cell (B := 0) b1 (by rw [HVL.out]; exact hlt)
     have d2 := frozenG b1 node
     have d3 : G < w5'.heap.size := (Array.getElem?_eq_some_iff.1 b1).1
     have hfar : ∀ k, k < w15.heap.size → (Value.slice va pre.length vc).ownBlock ≠ some k := fun k hk e => by have := (row_lt HOWD.out k e).1; omega
     have hS5 : KeptB w15.heap.size G W w5' := ⟨fun k h1 h2 => (hgrow.block k (by show k < (W.heap.push _).size; simp; omega) (fun e => hfar k h1 e.symm)).trans ((below_alloc W.drew _).block k (by show k < W.heap.size; omega)), Nat.le_trans (by show w15.heap.size ≤ (W.heap.push _).size; simp; omega) hgrow.size⟩
     refine hK.out _ _ hS5 (fun hNew => ?_)
     clear hK K hHeld
     have hHeld := hNew
     clear hNew
     try simp only [Act.put, pA, pB, pC]
     refine tkW 15 (v := ?_) ?_ ?_
     rotate_left
     ·
      intro V hV
      first | (go_simp; done) | (go_simp; with_reducible rfl)
     try simp only [Act.put, pA, pB, pC]
     refine rdy 16 (fun K hK => ?_)
     go_simp
     have hS6 : KeptB w15.heap.size G W (w5'.setCell ⟨G, node, none⟩ (.slice (some ⟨g', 0, none⟩) (pre.length + 1) cap')) := ⟨fun k h1 h2 => b4 k h1 h2, by have h1 := hS5.2; simpa [World.setCell] using h1⟩
     refine hK.out _ _ ?_ (fun hNew => ?_)
     · exact hS6
     clear hK K hHeld hNew
     refine wpAnyH_done (by kernel_rfl) ?_ _
     refine OnlyN.normal ?_
     gi_wp2
     exact ⟨(show KeepsOthers W _ from ⟨b3.size, b3.same⟩).from _, fun k hk => b4 k hk.1 hk.2, b2, ⟨fun k h1 h2 => (b4 k h1 h2.1).trans (hK1 k h1 h2), hS6.2⟩, hBe.trans (((bel_drewN W 1).mono (by omega)).trans b5)⟩
    ·
     have hOld := hHeld
     go_simp
     refine hK.out _ _ ?_ (fun hNew => ?_)
     · exact keptB_alloc hOld _
     clear hK K hHeld hOld
     have hHeld := hNew
     clear hNew
     try simp only [Act.put, pA, pB, pC]
     refine rdy 11 (fun K hK => ?_)
     have c6 := HoldsG.cell (B := 0) HVD.out (by rw [HVL.out]; exact hlt)
     have c8 := HoldsG.cell (B := 0) HV.out (by rw [HVL.out]; exact hlt)
     have c7 := HoldsG.cell (B := 0) ((Below.heap_alloc W.drew (.cells #[.int .i64 u] 3) G hGW).trans HVD.out) (by rw [HVL.out]; exact hlt)
     have hOld := hHeld
     go_simp
     refine hK.out _ _ ?_ (fun hNew => ?_)
     · exact hOld
     clear hK K hHeld hOld c7 c6 c8
     have hHeld := hNew
     clear hNew
     try simp only [Act.put, pA, pB, pC]
     refine rdy 14 (fun K hK => ?_)
     refine wanted_step (by kernel_rfl) ?_
     refine oper_append_slK _ _ _ 32 rfl w15.heap.size 3 i0 (.int .i64 0) 1 8 Tryz.underlying32 hi hz0 hz1 hz2 rfl (by decide) _ _ _ rfl (hownD.alloc _) (some ⟨W.drew.heap.size, 0, none⟩) 1 1 [.int .i64 u] rfl hsk (by simp [Value.oneCell']) (by unfold maxLen; omega) (by omega) (by show w15.heap.size ≤ (W.heap.push _).size; simp; omega) ?_
     intro v' w5' hown' hgrow hat
     obtain ⟨g', cap', rfl⟩ := ownsRow_succ hown'
     obtain ⟨b1, b2, b3, b4, b5⟩ := HoldsG.app (u := (some ⟨g', 0, none⟩, pre.length + 1, cap')) HVD.out HOWD.out (by omega) (by show w15.heap.size ≤ W.heap.size; omega) hown' hgrow
     have d1 := HoldsG.cell (B := 0) b1 (by rw [HVL.out]; exact hlt)
     have d2 := frozenG b1 node
     have d3 : G < w5'.heap.size := (Array.getElem?_eq_some_iff.1 b1).1
     have hfar : ∀ k, k < w15.heap.size → (Value.slice va pre.length vc).ownBlock ≠ some k := fun k hk e => by have := (row_lt HOWD.out k e).1; omega
     have hS5 : KeptB w15.heap.size G W w5' := ⟨fun k h1 h2 => (hgrow.block k (by show k < (W.heap.push _).size; simp; omega) (fun e => hfar k h1 e.symm)).trans ((below_alloc W.drew _).block k (by show k < W.heap.size; omega)), Nat.le_trans (by show w15.heap.size ≤ (W.heap.push _).size; simp; omega) hgrow.size⟩
     refine hK.out _ _ hS5 (fun hNew => ?_)
     clear hK K hHeld
     have hHeld := hNew
     clear hNew
     try simp only [Act.put, pA, pB, pC]
     refine tkW 15 (v := ?_) ?_ ?_
     rotate_left
     ·
      intro V hV
      first | (go_simp; done) | (go_simp; with_reducible rfl)
     try simp only [Act.put, pA, pB, pC]
     refine rdy 16 (fun K hK => ?_)
     go_simp
     have hS6 : KeptB w15.heap.size G W (w5'.setCell ⟨G, node, none⟩ (.slice (some ⟨g', 0, none⟩) (pre.length + 1) cap')) := ⟨fun k h1 h2 => b4 k h1 h2, by have h1 := hS5.2; simpa [World.setCell] using h1⟩
     refine hK.out _ _ ?_ (fun hNew => ?_)
     · exact hS6
     clear hK K hHeld hNew
     refine wpAnyH_done (by kernel_rfl) ?_ _
     refine OnlyN.normal ?_
     gi_wp2
     exact ⟨(show KeepsOthers W _ from ⟨b3.size, b3.same⟩).from _, fun k hk => b4 k hk.1 hk.2, b2, ⟨fun k h1 h2 => (b4 k h1 h2.1).trans (hK1 k h1 h2), hS6.2⟩, hBe.trans (((bel_drewN W 1).mono (by omega)).trans b5)⟩
   case hstop => exact fun _ _ _ _ _ _ h _ => h.elim
   case hdone =>
    rintro D zs W hD hS ⟨hH, ⟨hK1, hsz⟩, hBe⟩ hD2
    subst hS
    have hkept : ∀ i, i < wr.heap.size → i ≠ G → W.heap[i]? = wr.heap[i]? := fun i h1 h2 => (hK1 i (by omega) ⟨h2, by omega⟩).trans (Hb15.out.block i h1)
    have hszW : wr.heap.size ≤ W.heap.size := by omega
    have HF2 : Hid (FillR G n ((List.range (node + 1)).map (words9 wss)) W) := by
     rw [Hid, List.range_succ, List.map_append]
     exact FillR.step HVS.out HVL.out hxs hlt HNIL.out HRW.out (by omega) hH hkept hszW
    have hbW := (Hb15.out.mono (Nat.le_of_lt hG15)).trans hBe
    have HG2 : Hid (Y3.grownBy W (some G)) := grownBy_trans HGr.out ⟨hbW.os, hbW.tape, hbW.output, hbW.size, fun i hi hne => hkept i hi (fun e => hne (by rw [e]))⟩
    have HC2 : Hid (Colls w7.heap.size W ({ target := .collected D, args := #[] } :: ds)) := Colls.push HC.out hkept (fun l e => by rw [HVS.out] at e; cases e) (by omega) hD2 hs7
    clear hH hK1 hBe hbW hkept hps hD2 HH0
    have hn4 := HN4.out
    dsimp only
    go_wp2_with fail
    refine ⟨⟨node + 1, _, _, _, _, _, _, _, _, _, _, _, _, _, _, _, _, _, _, _, _, _, _, _, _, _, _, _, _, _, _, _, _, _, _, _, _, _, _, _, _, _, ⟨by simp, by omega, HF2, HG2, HC2⟩, rfl⟩, ?_⟩
    show n - (intOf (.int .i64 ((node : Int) + 1))).toNat < n - (intOf (.int .i64 (node : Int))).toNat
    simp only [intOf]
    omega
  ·
   have hd : decide ((node : Int) < (n : Int)) = false := by simp; omega
   have hne : Hid (node = n) := by rw [Hid]; omega
   go_wp2_with fail
   show LeavesInM Fence.wide 9 Tryz.prog _ _ _ _ .returning wr
   refine endL (Q := w7.heap.size) ds wr hBr.out.size HC.out (fun W' hT => ⟨_, results_tmp2 rfl _ _ _, ?_⟩)
   have hwd := HOw3.out.turned HGr.out HG3.out (of_decide_eq_true (by kernel_rfl)) (of_decide_eq_true (by kernel_rfl))
   have hwd0 := hwd
   obtain ⟨a9, c9, e9, hc9, hwd9⟩ := hwd.wds
   rw [HLA.out] at e9 hwd9
   cases e9
   have hR4 := hb47.block R hrow4.lt
   have hR7 : R < w7.heap.size := Nat.lt_of_lt_of_le hrow4.lt hb47.size
   have hfar := HF.out.far (q := w.heap.size) (Nat.le_trans HB7.out.size hG7.out)
   rw [hne.out] at hfar
   have hFAR : MFar w.heap.size wr BM R av la cv wss (some ⟨G, 0, none⟩) := ⟨Nat.le_trans HB7.out.size HBMq.out, HRl.out, hwd0.lower HB7.out.size, by rw [HN.out]; exact hfar⟩
   refine ⟨BM, R, cv, n, av, some ⟨G, 0, none⟩, rfl, hT.mok ⟨?_, ?_, ?_, ?_⟩, HB7.out.trans ((hBr.out.trans hT.1).mono HB7.out.size), hFAR.kept hT.kept⟩
   ·
    rw [HLn.out, HM.out, HN.out, HKK.out]
    exact ⟨(hkr.out BM HMc3.out.lt (Ne.symm hGBM.out)).trans HMc3.out.box, hLl⟩
   · exact (hBr.out.block R hR7).trans (hR4.trans hrow4)
   · exact hwd9
   ·
    rw [HN.out]
    have hl := HF.out.lls (by simp; exact hne.out)
    rw [hne.out] at hl
    exact hl
 refine wp_region_noPanic ?_
 refine wp_region_held_drew (S := RowKit.Below w7.heap.size w7) (by kernel_rfl) (bel_drewN w7 1) (fun hHeld => ?_)
 obtain ⟨w8, hw8⟩ : ∃ W, W = w7.drew := ⟨_, rfl⟩
 rw [← hw8] at hHeld ⊢
 clear hw8
 refine tkW 0 (v := ?_) ?_ ?_
 rotate_left
 ·
  intro V hV
  first | (go_simp; done) | (go_simp; with_reducible rfl)
 try simp only [Act.put, pA, pB, pC]
 refine' wpAnyH_take (i := 1) (v := _) (by simp only [pD, pE, pF]; rfl) (by as_aux_lemma => kernel_rfl) (by as_aux_lemma => kernel_rfl) (by as_aux_lemma => kernel_rfl) (fun _ _ _ h => h) (yieldsIf_load_mid (by rfl) _ _ rfl w3.heap.size 0 rfl (L.map (Value.int .i64)) _ (fun V hV => (HK.out V hV).range) Tryz.underlying51 rfl HI256.out) (by assumption) ?_
 try simp only [Act.put, pA, pB, pC]
 refine tkW 2 (v := ?_) ?_ ?_
 rotate_left
 ·
  intro V hV
  first | (go_simp; done) | (go_simp; with_reducible rfl)
 try simp only [Act.put, pA, pB, pC]
 refine tkW 3 (v := ?_) ?_ ?_
 rotate_left
 ·
  intro V hV
  have r0 := (HK.out V hV).cells.1
  first | (go_simp; done) | (go_simp; with_reducible rfl)
 try simp only [Act.put, pA, pB, pC]
 refine' wpAnyH_take (i := 4) (v := _) (by simp only [pD, pE, pF]; rfl) (by as_aux_lemma => kernel_rfl) (by as_aux_lemma => kernel_rfl) (by as_aux_lemma => kernel_rfl) (fun _ _ _ h => h) (yieldsIf_load_row (by rfl) _ _ rfl w3.heap.size rfl 109 _ (0, 0) _ (fun V hV => (HK.out V hV).box) Tryz.underlying109 rfl HI28.out) (by assumption) ?_
 try simp only [Act.put, pA, pB, pC]
 refine tkW 6 (v := ?_) ?_ ?_
 rotate_left
 ·
  intro V hV
  first | (go_simp; done) | (go_simp; with_reducible rfl)
 try simp only [Act.put, pA, pB, pC]
 refine tkW 7 (v := ?_) ?_ ?_
 rotate_left
 ·
  intro V hV
  have r0 := (HK.out V hV).cells.2
  first | (go_simp; done) | (go_simp; with_reducible rfl)
 try simp only [Act.put, pA, pB, pC]
 refine tkW 9 (v := ?_) ?_ ?_
 rotate_left
 ·
  intro V hV
  obtain ⟨r0, r1⟩ := HSC.out V hV
  first | (go_simp; done) | (go_simp; with_reducible rfl)
 try simp only [Act.put, pA, pB, pC]
 refine tkW 11 (v := ?_) ?_ ?_
 rotate_left
 ·
  intro V hV
  obtain ⟨r0, r1⟩ := HSC.out V hV
  first | (go_simp; done) | (go_simp; with_reducible rfl)
 try simp only [Act.put, pA, pB, pC]
 refine tkW 13 (v := ?_) ?_ ?_
 rotate_left
 ·
  intro V hV
  obtain ⟨r0, r1, r2, r3⟩ := HTC.out V hV
  first | (go_simp; done) | (go_simp; with_reducible rfl)
 try simp only [Act.put, pA, pB, pC]
 refine wpAnyH_ready (rs := [5, 17]) (by as_aux_lemma => kernel_rfl) (by simp) ?_
 refine AllReadyH.cons (by simp only [pD, pE, pF]; rfl) (fun K hK => ?_) (AllReadyH.cons (by simp only [pD, pE, pF]; rfl) (fun K hK => ?_) AllReadyH.nil)
 rotate_left
 ·
  go_simp
  refine hK.out _ _ (hHeld.alloc hHeld.size _) (fun hNew => ?_)
  obtain ⟨V17, hV17⟩ : ∃ V, V = (w8).alloc (.cells #[.pointer none] 64) := ⟨_, rfl⟩
  have hb17 : RowKit.Below (w8).heap.size (w8) V17 := by rw [hV17]; exact below_alloc _ _
  have bP : Boxed V17 (w8).heap.size 64 (.pointer none) := by rw [hV17]; exact Boxed.new _ _ _
  have hP8 : Hid (w7.heap.size ≤ (w8).heap.size) := hHeld.size
  rw [← hV17] at hNew ⊢
  clear hV17
  clear hK K hHeld
  have hHeld := hNew
  clear hNew
  try simp only [Act.put, pA, pB, pC]
  refine rdy 5 (fun K hK => ?_)
  go_simp
  go_at_call 64; refine (states11_any L m (some ⟨R, 0, none⟩) k k _ hLl (by omega)).mono ?_; rintro e V5 ⟨rfl, hb5⟩; rw [HST.out]
  refine hK.out _ _ (hHeld.trans (hb5.mono hHeld.size)) (fun hNew => ?_)
  have bP : Boxed V5 (w8).heap.size 64 (.pointer none) := (hb5.block _ bP.lt).trans bP
  clear hK K hHeld
  have hHeld := hNew
  clear hNew
  try simp only [Act.put, pA, pB, pC]
  refine' wpAnyH_take (i := 8) (v := _) (by simp only [pD, pE, pF]; rfl) (by as_aux_lemma => kernel_rfl) (by as_aux_lemma => kernel_rfl) (by as_aux_lemma => kernel_rfl) (fun _ _ _ h => h) (yieldsIf_build (by rfl) _ _ rfl ZT (by go_simp; exact HB115.out)) (by assumption) ?_
  try simp only [Act.put, pA, pB, pC]
  refine rdy 10 (fun K hK => ?_)
  go_simp
  go_at_call 65; refine (HPO.out _ (HB7.out.trans (hHeld.mono HB7.out.size))).mono ?_; rintro e V10 ⟨v, rfl, hown, hb10⟩; obtain ⟨av, cv, rfl, hcv, hWds⟩ := hown.wds; have hown2 : OwnW V10 w7.heap.size (.slice av wss.length cv) wss := OwnW.lower hown hHeld.size; rw [HLA.out] at hown2 hcv ⊢; have HWds := Lib.hid hown2; clear hown hown2 hWds
  refine hK.out _ _ (hHeld.trans (hb10.mono hHeld.size)) (fun hNew => ?_)
  have bP : Boxed V10 (w8).heap.size 64 (.pointer none) := (hb10.block _ bP.lt).trans bP
  clear hK K hHeld
  have hHeld := hNew
  clear hNew
  try simp only [Act.put, pA, pB, pC]
  obtain ⟨ZM, hZM⟩ : ∃ Z, (ZTl ++ [Value.bool fold, Value.slice av la cv, Value.int .i64 (longL wss), Value.int .i64 ((mostN wss n : Nat) : Int), Value.slice none 0 0]).toArray = Z := ⟨_, rfl⟩
  have HBM118 : Hid (Tryz.prog.built 118 [(0, .agg ZT), (1, .agg #[.bool fold, .slice av la cv]), (2, .int .i64 (longL wss)), (3, .int .i64 ((mostN wss n : Nat) : Int))] = some ZM) := by rw [Hid, ← hZM, ← HZT.out]; exact built118_any ZTl fold av la cv _ _ HTl.out
  have HZM := Lib.hid hZM
  clear hZM
  refine rdy 12 (fun K hK => ?_)
  go_simp
  go_at_call 66; refine (HPL.out _ (HB7.out.trans (hHeld.mono HB7.out.size))).mono ?_; rintro e V12 ⟨rfl, hb12⟩
  refine hK.out _ _ (hHeld.trans (hb12.mono hHeld.size)) (fun hNew => ?_)
  have HWds := Lib.hid (HWds.out.below hb12)
  have bP : Boxed V12 (w8).heap.size 64 (.pointer none) := (hb12.block _ bP.lt).trans bP
  clear hK K hHeld
  have hHeld := hNew
  clear hNew
  try simp only [Act.put, pA, pB, pC]
  refine rdy 14 (fun K hK => ?_)
  go_simp
  go_at_call 67; refine (HMO.out _ _ (HTr7.out.below hHeld) hun).mono ?_; rintro e V14 ⟨rfl, hb14⟩
  refine hK.out _ _ (hHeld.trans (hb14.mono hHeld.size)) (fun hNew => ?_)
  have HWds := Lib.hid (HWds.out.below hb14)
  have bP : Boxed V14 (w8).heap.size 64 (.pointer none) := (hb14.block _ bP.lt).trans bP
  clear hK K hHeld
  have hHeld := hNew
  clear hNew
  try simp only [Act.put, pA, pB, pC]
  refine' wpAnyH_take (i := 15) (v := _) (by simp only [pD, pE, pF]; rfl) (by as_aux_lemma => kernel_rfl) (by as_aux_lemma => kernel_rfl) (by as_aux_lemma => kernel_rfl) (fun _ _ _ h => h) (yieldsIf_build (by rfl) _ _ rfl ZM (by go_simp; exact HBM118.out)) (by assumption) ?_
  try simp only [Act.put, pA, pB, pC]
  refine rdy 16 (fun K hK => ?_)
  go_simp
  refine hK.out _ _ (hHeld.alloc hHeld.size _) (fun hNew => ?_)
  obtain ⟨V16, hV16⟩ : ∃ V, V = (V14).alloc (.cells ZM 118) := ⟨_, rfl⟩
  have hb16 : RowKit.Below (V14).heap.size (V14) V16 := by rw [hV16]; exact below_alloc _ _
  have HBM : Hid (V16.heap[(V14).heap.size]? = some (.cells ZM 118 (0, 0))) := by rw [Hid, hV16]; exact heap_alloc_new _ _
  have hBM : Hid (w7.heap.size ≤ (V14).heap.size) := hHeld.size
  have hPM : Hid ((V14).heap.size ≠ (w8).heap.size) := by have := bP.lt; rw [Hid]; omega
  rw [← hV16] at hNew ⊢
  clear hV16
  have HWds := Lib.hid (HWds.out.below hb16)
  have bP : Boxed V16 (w8).heap.size 64 (.pointer none) := (hb16.block _ bP.lt).trans bP
  clear hK K hHeld
  have hHeld := hNew
  clear hNew
  try simp only [Act.put, pA, pB, pC]
  refine rdy 18 (fun K hK => ?_)
  have q0 := bP.cell
  have q1 := bP.frozen
  have q2 := bP.lt
  go_simp
  refine hK.out _ _ (hHeld.setCell hP8.out _) (fun hNew => ?_)
  clear hK K hHeld
  have hHeld := hNew
  clear hNew
  try simp only [Act.put, pA, pB, pC]
  refine wpAnyH_done (by kernel_rfl) ?_ _
  refine NoPanic.normal ?_
  exact ⟨_, _, cv, av, ZM, _, _, _, _, _, _, _, _, _, _, _, _, _, _, _, _, _, _, _, _, _, _, _, _, _, _, _, _, _, _, _, _, _, _, _, _, _, _, _, _, rfl, bP.set _, (Below.heap_setCell _ _ _ _ hPM.out).trans HBM.out, HZM.out, HWds.out.turned (grown_set2 _ _ 0 _) bP (of_decide_eq_true (by kernel_rfl)) (of_decide_eq_true (by kernel_rfl)), hHeld, hP8.out, hBM.out, hcv, hPM.out⟩
 go_simp
 go_at_call 64; refine (states11_any L m (some ⟨R, 0, none⟩) k k _ hLl (by omega)).mono ?_; rintro e V5 ⟨rfl, hb5⟩; rw [HST.out]
 refine hK.out _ _ (hHeld.trans (hb5.mono hHeld.size)) (fun hNew => ?_)
 clear hK K hHeld
 have hHeld := hNew
 clear hNew
 try simp only [Act.put, pA, pB, pC]
 refine' wpAnyH_take (i := 8) (v := _) (by simp only [pD, pE, pF]; rfl) (by as_aux_lemma => kernel_rfl) (by as_aux_lemma => kernel_rfl) (by as_aux_lemma => kernel_rfl) (fun _ _ _ h => h) (yieldsIf_build (by rfl) _ _ rfl ZT (by go_simp; exact HB115.out)) (by assumption) ?_
 try simp only [Act.put, pA, pB, pC]
 refine wpAnyH_ready (rs := [10, 17]) (by as_aux_lemma => kernel_rfl) (by simp) ?_
 refine AllReadyH.cons (by simp only [pD, pE, pF]; rfl) (fun K hK => ?_) (AllReadyH.cons (by simp only [pD, pE, pF]; rfl) (fun K hK => ?_) AllReadyH.nil)
 rotate_left
 ·
  go_simp
  refine hK.out _ _ (hHeld.alloc hHeld.size _) (fun hNew => ?_)
  obtain ⟨V17, hV17⟩ : ∃ V, V = (V5).alloc (.cells #[.pointer none] 64) := ⟨_, rfl⟩
  have hb17 : RowKit.Below (V5).heap.size (V5) V17 := by rw [hV17]; exact below_alloc _ _
  have bP : Boxed V17 (V5).heap.size 64 (.pointer none) := by rw [hV17]; exact Boxed.new _ _ _
  have hP8 : Hid (w7.heap.size ≤ (V5).heap.size) := hHeld.size
  rw [← hV17] at hNew ⊢
  clear hV17
  clear hK K hHeld
  have hHeld := hNew
  clear hNew
  try simp only [Act.put, pA, pB, pC]
  refine rdy 10 (fun K hK => ?_)
  go_simp
  go_at_call 65; refine (HPO.out _ (HB7.out.trans (hHeld.mono HB7.out.size))).mono ?_; rintro e V10 ⟨v, rfl, hown, hb10⟩; obtain ⟨av, cv, rfl, hcv, hWds⟩ := hown.wds; have hown2 : OwnW V10 w7.heap.size (.slice av wss.length cv) wss := OwnW.lower hown hHeld.size; rw [HLA.out] at hown2 hcv ⊢; have HWds := Lib.hid hown2; clear hown hown2 hWds
  refine hK.out _ _ (hHeld.trans (hb10.mono hHeld.size)) (fun hNew => ?_)
  have bP : Boxed V10 (V5).heap.size 64 (.pointer none) := (hb10.block _ bP.lt).trans bP
  clear hK K hHeld
  have hHeld := hNew
  clear hNew
  try simp only [Act.put, pA, pB, pC]
  obtain ⟨ZM, hZM⟩ : ∃ Z, (ZTl ++ [Value.bool fold, Value.slice av la cv, Value.int .i64 (longL wss), Value.int .i64 ((mostN wss n : Nat) : Int), Value.slice none 0 0]).toArray = Z := ⟨_, rfl⟩
  have HBM118 : Hid (Tryz.prog.built 118 [(0, .agg ZT), (1, .agg #[.bool fold, .slice av la cv]), (2, .int .i64 (longL wss)), (3, .int .i64 ((mostN wss n : Nat) : Int))] = some ZM) := by rw [Hid, ← hZM, ← HZT.out]; exact built118_any ZTl fold av la cv _ _ HTl.out
  have HZM := Lib.hid hZM
  clear hZM
  refine rdy 12 (fun K hK => ?_)
  go_simp
  go_at_call 66; refine (HPL.out _ (HB7.out.trans (hHeld.mono HB7.out.size))).mono ?_; rintro e V12 ⟨rfl, hb12⟩
  refine hK.out _ _ (hHeld.trans (hb12.mono hHeld.size)) (fun hNew => ?_)
  have HWds := Lib.hid (HWds.out.below hb12)
  have bP : Boxed V12 (V5).heap.size 64 (.pointer none) := (hb12.block _ bP.lt).trans bP
  clear hK K hHeld
  have hHeld := hNew
  clear hNew
  try simp only [Act.put, pA, pB, pC]
  refine rdy 14 (fun K hK => ?_)
  go_simp
  go_at_call 67; refine (HMO.out _ _ (HTr7.out.below hHeld) hun).mono ?_; rintro e V14 ⟨rfl, hb14⟩
  refine hK.out _ _ (hHeld.trans (hb14.mono hHeld.size)) (fun hNew => ?_)
  have HWds := Lib.hid (HWds.out.below hb14)
  have bP : Boxed V14 (V5).heap.size 64 (.pointer none) := (hb14.block _ bP.lt).trans bP
  clear hK K hHeld
  have hHeld := hNew
  clear hNew
  try simp only [Act.put, pA, pB, pC]
  refine' wpAnyH_take (i := 15) (v := _) (by simp only [pD, pE, pF]; rfl) (by as_aux_lemma => kernel_rfl) (by as_aux_lemma => kernel_rfl) (by as_aux_lemma => kernel_rfl) (fun _ _ _ h => h) (yieldsIf_build (by rfl) _ _ rfl ZM (by go_simp; exact HBM118.out)) (by assumption) ?_
  try simp only [Act.put, pA, pB, pC]
  refine rdy 16 (fun K hK => ?_)
  go_simp
  refine hK.out _ _ (hHeld.alloc hHeld.size _) (fun hNew => ?_)
  obtain ⟨V16, hV16⟩ : ∃ V, V = (V14).alloc (.cells ZM 118) := ⟨_, rfl⟩
  have hb16 : RowKit.Below (V14).heap.size (V14) V16 := by rw [hV16]; exact below_alloc _ _
  have HBM : Hid (V16.heap[(V14).heap.size]? = some (.cells ZM 118 (0, 0))) := by rw [Hid, hV16]; exact heap_alloc_new _ _
  have hBM : Hid (w7.heap.size ≤ (V14).heap.size) := hHeld.size
  have hPM : Hid ((V14).heap.size ≠ (V5).heap.size) := by have := bP.lt; rw [Hid]; omega
  rw [← hV16] at hNew ⊢
  clear hV16
  have HWds := Lib.hid (HWds.out.below hb16)
  have bP : Boxed V16 (V5).heap.size 64 (.pointer none) := (hb16.block _ bP.lt).trans bP
  clear hK K hHeld
  have hHeld := hNew
  clear hNew
  try simp only [Act.put, pA, pB, pC]
  refine rdy 18 (fun K hK => ?_)
  have q0 := bP.cell
  have q1 := bP.frozen
  have q2 := bP.lt
  go_simp
  refine hK.out _ _ (hHeld.setCell hP8.out _) (fun hNew => ?_)
  clear hK K hHeld
  have hHeld := hNew
  clear hNew
  try simp only [Act.put, pA, pB, pC]
  refine wpAnyH_done (by kernel_rfl) ?_ _
  refine NoPanic.normal ?_
  exact ⟨_, _, cv, av, ZM, _, _, _, _, _, _, _, _, _, _, _, _, _, _, _, _, _, _, _, _, _, _, _, _, _, _, _, _, _, _, _, _, _, _, _, _, _, _, _, _, rfl, bP.set _, (Below.heap_setCell _ _ _ _ hPM.out).trans HBM.out, HZM.out, HWds.out.turned (grown_set2 _ _ 0 _) bP (of_decide_eq_true (by kernel_rfl)) (of_decide_eq_true (by kernel_rfl)), hHeld, hP8.out, hBM.out, hcv, hPM.out⟩
 go_simp
 go_at_call 65; refine (HPO.out _ (HB7.out.trans (hHeld.mono HB7.out.size))).mono ?_; rintro e V10 ⟨v, rfl, hown, hb10⟩; obtain ⟨av, cv, rfl, hcv, hWds⟩ := hown.wds; have hown2 : OwnW V10 w7.heap.size (.slice av wss.length cv) wss := OwnW.lower hown hHeld.size; rw [HLA.out] at hown2 hcv ⊢; have HWds := Lib.hid hown2; clear hown hown2 hWds
 refine hK.out _ _ (hHeld.trans (hb10.mono hHeld.size)) (fun hNew => ?_)
 clear hK K hHeld
 have hHeld := hNew
 clear hNew
 try simp only [Act.put, pA, pB, pC]
 obtain ⟨ZM, hZM⟩ : ∃ Z, (ZTl ++ [Value.bool fold, Value.slice av la cv, Value.int .i64 (longL wss), Value.int .i64 ((mostN wss n : Nat) : Int), Value.slice none 0 0]).toArray = Z := ⟨_, rfl⟩
 have HBM118 : Hid (Tryz.prog.built 118 [(0, .agg ZT), (1, .agg #[.bool fold, .slice av la cv]), (2, .int .i64 (longL wss)), (3, .int .i64 ((mostN wss n : Nat) : Int))] = some ZM) := by rw [Hid, ← hZM, ← HZT.out]; exact built118_any ZTl fold av la cv _ _ HTl.out
 have HZM := Lib.hid hZM
 clear hZM
 refine wpAnyH_ready (rs := [12, 17]) (by as_aux_lemma => kernel_rfl) (by simp) ?_
 refine AllReadyH.cons (by simp only [pD, pE, pF]; rfl) (fun K hK => ?_) (AllReadyH.cons (by simp only [pD, pE, pF]; rfl) (fun K hK => ?_) AllReadyH.nil)
 rotate_left
 ·
  go_simp
  refine hK.out _ _ (hHeld.alloc hHeld.size _) (fun hNew => ?_)
  obtain ⟨V17, hV17⟩ : ∃ V, V = (V10).alloc (.cells #[.pointer none] 64) := ⟨_, rfl⟩
  have hb17 : RowKit.Below (V10).heap.size (V10) V17 := by rw [hV17]; exact below_alloc _ _
  have bP : Boxed V17 (V10).heap.size 64 (.pointer none) := by rw [hV17]; exact Boxed.new _ _ _
  have hP8 : Hid (w7.heap.size ≤ (V10).heap.size) := hHeld.size
  rw [← hV17] at hNew ⊢
  clear hV17
  have HWds := Lib.hid (HWds.out.below hb17)
  clear hK K hHeld
  have hHeld := hNew
  clear hNew
  try simp only [Act.put, pA, pB, pC]
  refine rdy 12 (fun K hK => ?_)
  go_simp
  go_at_call 66; refine (HPL.out _ (HB7.out.trans (hHeld.mono HB7.out.size))).mono ?_; rintro e V12 ⟨rfl, hb12⟩
  refine hK.out _ _ (hHeld.trans (hb12.mono hHeld.size)) (fun hNew => ?_)
  have HWds := Lib.hid (HWds.out.below hb12)
  have bP : Boxed V12 (V10).heap.size 64 (.pointer none) := (hb12.block _ bP.lt).trans bP
  clear hK K hHeld
  have hHeld := hNew
  clear hNew
  try simp only [Act.put, pA, pB, pC]
  refine rdy 14 (fun K hK => ?_)
  go_simp
  go_at_call 67; refine (HMO.out _ _ (HTr7.out.below hHeld) hun).mono ?_; rintro e V14 ⟨rfl, hb14⟩
  refine hK.out _ _ (hHeld.trans (hb14.mono hHeld.size)) (fun hNew => ?_)
  have HWds := Lib.hid (HWds.out.below hb14)
  have bP : Boxed V14 (V10).heap.size 64 (.pointer none) := (hb14.block _ bP.lt).trans bP
  clear hK K hHeld
  have hHeld := hNew
  clear hNew
  try simp only [Act.put, pA, pB, pC]
  refine' wpAnyH_take (i := 15) (v := _) (by simp only [pD, pE, pF]; rfl) (by as_aux_lemma => kernel_rfl) (by as_aux_lemma => kernel_rfl) (by as_aux_lemma => kernel_rfl) (fun _ _ _ h => h) (yieldsIf_build (by rfl) _ _ rfl ZM (by go_simp; exact HBM118.out)) (by assumption) ?_
  try simp only [Act.put, pA, pB, pC]
  refine rdy 16 (fun K hK => ?_)
  go_simp
  refine hK.out _ _ (hHeld.alloc hHeld.size _) (fun hNew => ?_)
  obtain ⟨V16, hV16⟩ : ∃ V, V = (V14).alloc (.cells ZM 118) := ⟨_, rfl⟩
  have hb16 : RowKit.Below (V14).heap.size (V14) V16 := by rw [hV16]; exact below_alloc _ _
  have HBM : Hid (V16.heap[(V14).heap.size]? = some (.cells ZM 118 (0, 0))) := by rw [Hid, hV16]; exact heap_alloc_new _ _
  have hBM : Hid (w7.heap.size ≤ (V14).heap.size) := hHeld.size
  have hPM : Hid ((V14).heap.size ≠ (V10).heap.size) := by have := bP.lt; rw [Hid]; omega
  rw [← hV16] at hNew ⊢
  clear hV16
  have HWds := Lib.hid (HWds.out.below hb16)
  have bP : Boxed V16 (V10).heap.size 64 (.pointer none) := (hb16.block _ bP.lt).trans bP
  clear hK K hHeld
  have hHeld := hNew
  clear hNew
  try simp only [Act.put, pA, pB, pC]
  refine rdy 18 (fun K hK => ?_)
  have q0 := bP.cell
  have q1 := bP.frozen
  have q2 := bP.lt
  go_simp
  refine hK.out _ _ (hHeld.setCell hP8.out _) (fun hNew => ?_)
  clear hK K hHeld
  have hHeld := hNew
  clear hNew
  try simp only [Act.put, pA, pB, pC]
  refine wpAnyH_done (by kernel_rfl) ?_ _
  refine NoPanic.normal ?_
  exact ⟨_, _, cv, av, ZM, _, _, _, _, _, _, _, _, _, _, _, _, _, _, _, _, _, _, _, _, _, _, _, _, _, _, _, _, _, _, _, _, _, _, _, _, _, _, _, _, rfl, bP.set _, (Below.heap_setCell _ _ _ _ hPM.out).trans HBM.out, HZM.out, HWds.out.turned (grown_set2 _ _ 0 _) bP (of_decide_eq_true (by kernel_rfl)) (of_decide_eq_true (by kernel_rfl)), hHeld, hP8.out, hBM.out, hcv, hPM.out⟩
 go_simp
 go_at_call 66; refine (HPL.out _ (HB7.out.trans (hHeld.mono HB7.out.size))).mono ?_; rintro e V12 ⟨rfl, hb12⟩
 refine hK.out _ _ (hHeld.trans (hb12.mono hHeld.size)) (fun hNew => ?_)
 have HWds := Lib.hid (HWds.out.below hb12)
 clear hK K hHeld
 have hHeld := hNew
 clear hNew
 try simp only [Act.put, pA, pB, pC]
 refine wpAnyH_ready (rs := [14, 17]) (by as_aux_lemma => kernel_rfl) (by simp) ?_
 refine AllReadyH.cons (by simp only [pD, pE, pF]; rfl) (fun K hK => ?_) (AllReadyH.cons (by simp only [pD, pE, pF]; rfl) (fun K hK => ?_) AllReadyH.nil)
 rotate_left
 ·
  go_simp
  refine hK.out _ _ (hHeld.alloc hHeld.size _) (fun hNew => ?_)
  obtain ⟨V17, hV17⟩ : ∃ V, V = (V12).alloc (.cells #[.pointer none] 64) := ⟨_, rfl⟩
  have hb17 : RowKit.Below (V12).heap.size (V12) V17 := by rw [hV17]; exact below_alloc _ _
  have bP : Boxed V17 (V12).heap.size 64 (.pointer none) := by rw [hV17]; exact Boxed.new _ _ _
  have hP8 : Hid (w7.heap.size ≤ (V12).heap.size) := hHeld.size
  rw [← hV17] at hNew ⊢
  clear hV17
  have HWds := Lib.hid (HWds.out.below hb17)
  clear hK K hHeld
  have hHeld := hNew
  clear hNew
  try simp only [Act.put, pA, pB, pC]
  refine rdy 14 (fun K hK => ?_)
  go_simp
  go_at_call 67; refine (HMO.out _ _ (HTr7.out.below hHeld) hun).mono ?_; rintro e V14 ⟨rfl, hb14⟩
  refine hK.out _ _ (hHeld.trans (hb14.mono hHeld.size)) (fun hNew => ?_)
  have HWds := Lib.hid (HWds.out.below hb14)
  have bP : Boxed V14 (V12).heap.size 64 (.pointer none) := (hb14.block _ bP.lt).trans bP
  clear hK K hHeld
  have hHeld := hNew
  clear hNew
  try simp only [Act.put, pA, pB, pC]
  refine' wpAnyH_take (i := 15) (v := _) (by simp only [pD, pE, pF]; rfl) (by as_aux_lemma => kernel_rfl) (by as_aux_lemma => kernel_rfl) (by as_aux_lemma => kernel_rfl) (fun _ _ _ h => h) (yieldsIf_build (by rfl) _ _ rfl ZM (by go_simp; exact HBM118.out)) (by assumption) ?_
  try simp only [Act.put, pA, pB, pC]
  refine rdy 16 (fun K hK => ?_)
  go_simp
  refine hK.out _ _ (hHeld.alloc hHeld.size _) (fun hNew => ?_)
  obtain ⟨V16, hV16⟩ : ∃ V, V = (V14).alloc (.cells ZM 118) := ⟨_, rfl⟩
  have hb16 : RowKit.Below (V14).heap.size (V14) V16 := by rw [hV16]; exact below_alloc _ _
  have HBM : Hid (V16.heap[(V14).heap.size]? = some (.cells ZM 118 (0, 0))) := by rw [Hid, hV16]; exact heap_alloc_new _ _
  have hBM : Hid (w7.heap.size ≤ (V14).heap.size) := hHeld.size
  have hPM : Hid ((V14).heap.size ≠ (V12).heap.size) := by have := bP.lt; rw [Hid]; omega
  rw [← hV16] at hNew ⊢
  clear hV16
  have HWds := Lib.hid (HWds.out.below hb16)
  have bP : Boxed V16 (V12).heap.size 64 (.pointer none) := (hb16.block _ bP.lt).trans bP
  clear hK K hHeld
  have hHeld := hNew
  clear hNew
  try simp only [Act.put, pA, pB, pC]
  refine rdy 18 (fun K hK => ?_)
  have q0 := bP.cell
  have q1 := bP.frozen
  have q2 := bP.lt
  go_simp
  refine hK.out _ _ (hHeld.setCell hP8.out _) (fun hNew => ?_)
  clear hK K hHeld
  have hHeld := hNew
  clear hNew
  try simp only [Act.put, pA, pB, pC]
  refine wpAnyH_done (by kernel_rfl) ?_ _
  refine NoPanic.normal ?_
  exact ⟨_, _, cv, av, ZM, _, _, _, _, _, _, _, _, _, _, _, _, _, _, _, _, _, _, _, _, _, _, _, _, _, _, _, _, _, _, _, _, _, _, _, _, _, _, _, _, rfl, bP.set _, (Below.heap_setCell _ _ _ _ hPM.out).trans HBM.out, HZM.out, HWds.out.turned (grown_set2 _ _ 0 _) bP (of_decide_eq_true (by kernel_rfl)) (of_decide_eq_true (by kernel_rfl)), hHeld, hP8.out, hBM.out, hcv, hPM.out⟩
 go_simp
 go_at_call 67; refine (HMO.out _ _ (HTr7.out.below hHeld) hun).mono ?_; rintro e V14 ⟨rfl, hb14⟩
 refine hK.out _ _ (hHeld.trans (hb14.mono hHeld.size)) (fun hNew => ?_)
 have HWds := Lib.hid (HWds.out.below hb14)
 clear hK K hHeld
 have hHeld := hNew
 clear hNew
 try simp only [Act.put, pA, pB, pC]
 refine' wpAnyH_take (i := 15) (v := _) (by simp only [pD, pE, pF]; rfl) (by as_aux_lemma => kernel_rfl) (by as_aux_lemma => kernel_rfl) (by as_aux_lemma => kernel_rfl) (fun _ _ _ h => h) (yieldsIf_build (by rfl) _ _ rfl ZM (by go_simp; exact HBM118.out)) (by assumption) ?_
 try simp only [Act.put, pA, pB, pC]
 refine wpAnyH_ready (rs := [16, 17]) (by as_aux_lemma => kernel_rfl) (by simp) ?_
 refine AllReadyH.cons (by simp only [pD, pE, pF]; rfl) (fun K hK => ?_) (AllReadyH.cons (by simp only [pD, pE, pF]; rfl) (fun K hK => ?_) AllReadyH.nil)
 rotate_left
 ·
  go_simp
  refine hK.out _ _ (hHeld.alloc hHeld.size _) (fun hNew => ?_)
  obtain ⟨V17, hV17⟩ : ∃ V, V = (V14).alloc (.cells #[.pointer none] 64) := ⟨_, rfl⟩
  have hb17 : RowKit.Below (V14).heap.size (V14) V17 := by rw [hV17]; exact below_alloc _ _
  have bP : Boxed V17 (V14).heap.size 64 (.pointer none) := by rw [hV17]; exact Boxed.new _ _ _
  have hP8 : Hid (w7.heap.size ≤ (V14).heap.size) := hHeld.size
  rw [← hV17] at hNew ⊢
  clear hV17
  have HWds := Lib.hid (HWds.out.below hb17)
  clear hK K hHeld
  have hHeld := hNew
  clear hNew
  try simp only [Act.put, pA, pB, pC]
  refine rdy 16 (fun K hK => ?_)
  go_simp
  refine hK.out _ _ (hHeld.alloc hHeld.size _) (fun hNew => ?_)
  obtain ⟨V16, hV16⟩ : ∃ V, V = (V17).alloc (.cells ZM 118) := ⟨_, rfl⟩
  have hb16 : RowKit.Below (V17).heap.size (V17) V16 := by rw [hV16]; exact below_alloc _ _
  have HBM : Hid (V16.heap[(V17).heap.size]? = some (.cells ZM 118 (0, 0))) := by rw [Hid, hV16]; exact heap_alloc_new _ _
  have hBM : Hid (w7.heap.size ≤ (V17).heap.size) := hHeld.size
  have hPM : Hid ((V17).heap.size ≠ (V14).heap.size) := by have := bP.lt; rw [Hid]; omega
  rw [← hV16] at hNew ⊢
  clear hV16
  have HWds := Lib.hid (HWds.out.below hb16)
  have bP : Boxed V16 (V14).heap.size 64 (.pointer none) := (hb16.block _ bP.lt).trans bP
  clear hK K hHeld
  have hHeld := hNew
  clear hNew
  try simp only [Act.put, pA, pB, pC]
  refine rdy 18 (fun K hK => ?_)
  have q0 := bP.cell
  have q1 := bP.frozen
  have q2 := bP.lt
  go_simp
  refine hK.out _ _ (hHeld.setCell hP8.out _) (fun hNew => ?_)
  clear hK K hHeld
  have hHeld := hNew
  clear hNew
  try simp only [Act.put, pA, pB, pC]
  refine wpAnyH_done (by kernel_rfl) ?_ _
  refine NoPanic.normal ?_
  exact ⟨_, _, cv, av, ZM, _, _, _, _, _, _, _, _, _, _, _, _, _, _, _, _, _, _, _, _, _, _, _, _, _, _, _, _, _, _, _, _, _, _, _, _, _, _, _, _, rfl, bP.set _, (Below.heap_setCell _ _ _ _ hPM.out).trans HBM.out, HZM.out, HWds.out.turned (grown_set2 _ _ 0 _) bP (of_decide_eq_true (by kernel_rfl)) (of_decide_eq_true (by kernel_rfl)), hHeld, hP8.out, hBM.out, hcv, hPM.out⟩
 go_simp
 refine hK.out _ _ (hHeld.alloc hHeld.size _) (fun hNew => ?_)
 obtain ⟨V16, hV16⟩ : ∃ V, V = (V14).alloc (.cells ZM 118) := ⟨_, rfl⟩
 have hb16 : RowKit.Below (V14).heap.size (V14) V16 := by rw [hV16]; exact below_alloc _ _
 have HBM : Hid (V16.heap[(V14).heap.size]? = some (.cells ZM 118 (0, 0))) := by rw [Hid, hV16]; exact heap_alloc_new _ _
 have hBM : Hid (w7.heap.size ≤ (V14).heap.size) := hHeld.size
 rw [← hV16] at hNew ⊢
 clear hV16
 have HWds := Lib.hid (HWds.out.below hb16)
 clear hK K hHeld
 have hHeld := hNew
 clear hNew
 try simp only [Act.put, pA, pB, pC]
 refine rdy 17 (fun K hK => ?_)
 go_simp
 refine hK.out _ _ (hHeld.alloc hHeld.size _) (fun hNew => ?_)
 obtain ⟨V17, hV17⟩ : ∃ V, V = (V16).alloc (.cells #[.pointer none] 64) := ⟨_, rfl⟩
 have hb17 : RowKit.Below (V16).heap.size (V16) V17 := by rw [hV17]; exact below_alloc _ _
 have bP : Boxed V17 (V16).heap.size 64 (.pointer none) := by rw [hV17]; exact Boxed.new _ _ _
 have hP8 : Hid (w7.heap.size ≤ (V16).heap.size) := hHeld.size
 rw [← hV17] at hNew ⊢
 clear hV17
 have HWds := Lib.hid (HWds.out.below hb17)
 clear hK K hHeld
 have hHeld := hNew
 clear hNew
 try simp only [Act.put, pA, pB, pC]
 have hPM : Hid (V14.heap.size ≠ V16.heap.size) := by have := (Array.getElem?_eq_some_iff.1 HBM.out).1; rw [Hid]; omega
 have HBM := Lib.hid ((hb17.block _ (Array.getElem?_eq_some_iff.1 HBM.out).1).trans HBM.out)
 refine rdy 18 (fun K hK => ?_)
 have q0 := bP.cell
 have q1 := bP.frozen
 have q2 := bP.lt
 go_simp
 refine hK.out _ _ (hHeld.setCell hP8.out _) (fun hNew => ?_)
 clear hK K hHeld
 have hHeld := hNew
 clear hNew
 try simp only [Act.put, pA, pB, pC]
 refine wpAnyH_done (by kernel_rfl) ?_ _
 refine NoPanic.normal ?_
 exact ⟨_, _, cv, av, ZM, _, _, _, _, _, _, _, _, _, _, _, _, _, _, _, _, _, _, _, _, _, _, _, _, _, _, _, _, _, _, _, _, _, _, _, _, _, _, _, _, rfl, bP.set _, (Below.heap_setCell _ _ _ _ hPM.out).trans HBM.out, HZM.out, HWds.out.turned (grown_set2 _ _ 0 _) bP (of_decide_eq_true (by kernel_rfl)) (of_decide_eq_true (by kernel_rfl)), hHeld, hP8.out, hBM.out, hcv, hPM.out⟩
end Go.Proofs.YtbldfgaogmfoaaaGreat

/- Nodes' words are the words that end there, the longest first (layer 9): plain. -/

namespace Go.Proofs.YtbldfgaogmfoaaaGreat

/-- The word that bytes are, by its number. -/
def ownW (ws : List (List Int)) (b : List Int) : List Int := if b ∈ ws then [placeS ws b] else []
/-- The words that end at bytes, the longest first. -/
def sufW (ws : List (List Int)) : List Int → List Int
 | [] => []
 | c :: b => ownW ws (c :: b) ++ sufW ws b
section
variable {ws : List (List Int)}
theorem sufW_lsf (h0 : [] ∉ ws) : ∀ b, sufW ws (lsf (nodesL ws) b) = sufW ws b
 | [] => by
  have := lsf_suffix (nodesL ws) []
  rw [List.suffix_nil.1 this]
 | c :: b => by
  by_cases h : (c :: b) ∈ nodesL ws
  · rw [lsf_of_mem h]
  ·
   have hn : (c :: b) ∉ ws := fun hm => by
    obtain ⟨w, hw⟩ := List.getElem?_of_mem hm
    obtain ⟨j, _, hj, _⟩ := word_node hw (by simp)
    exact h (List.mem_of_getElem? hj)
   have e : lsf (nodesL ws) (c :: b) = lsf (nodesL ws) b := lsf_next (b := c :: b) (k := 0) (by simp) h
   rw [e, sufW_lsf h0 b]
   conv => rhs; unfold sufW ownW
   rw [if_neg hn, List.nil_append]
theorem wrd_own (h0 : ∀ x ∈ ws, x.length ≠ 0) {z : Nat} {x : List Int} (hx : (nodesL ws)[z]? = some x) : ∃ v : Int, (trieP ws).wrd[z]? = some v ∧ ownW ws x = if 0 ≤ v then [v] else [] := by
 refine ⟨placeS ws x, trie_wrd hx, ?_⟩
 unfold ownW
 by_cases h : x ∈ ws
 ·
  rw [if_pos h, if_pos]
  unfold placeS
  rw [if_pos h]
  omega
 · rw [if_neg h, placeS_no h, if_neg (by decide)]
/-- A node's words are those that end there. -/
theorem words9_suf (h0 : ∀ x ∈ ws, x.length ≠ 0) : ∀ {z : Nat} {x : List Int}, (nodesL ws)[z]? = some x → words9 ws z = sufW ws x := by
 intro z
 have hn0 : [] ∉ ws := fun hm => h0 [] hm rfl
 induction z using Nat.strongRecOn with
 | _ z ih =>
  intro x hx
  have hz := (List.getElem?_eq_some_iff.1 hx).1
  by_cases hz0 : z = 0
  ·
   subst hz0
   rw [nodesL_head] at hx
   have := Option.some.inj hx
   subst this
   exact words9_zero ws
  ·
   have hx0 : x ≠ [] := fun e => hz0 ((node_zero hx).2 e)
   obtain ⟨v, hv, ho⟩ := wrd_own h0 hx
   rw [words9_rec (by omega) hz hv, ← ho]
   obtain ⟨k, h1, _, h3, h4⟩ := links_num hx
   have hkz := h3 (by omega)
   obtain ⟨u, hu, hou⟩ := wrd_own h0 h4
   have hk : words9 ws (nx ws z) = sufW ws (linkL (nodesL ws) x) := by
    rw [nx_rec (by omega) hz h1 hu]
    by_cases hu0 : 0 ≤ u
    ·
     rw [if_pos hu0]
     exact ih k hkz h4
    ·
     rw [if_neg hu0]
     have e := ih k hkz h4
     by_cases hk0 : k = 0
     ·
      subst hk0
      rw [nx_zero]
      exact e
     ·
      rw [words9_rec (by omega) (by omega) hu, if_neg hu0, List.nil_append] at e
      exact e
   rw [hk]
   cases x with
   | nil => exact absurd rfl hx0
   | cons c b =>
    rw [show linkL (nodesL ws) (c :: b) = lsf (nodesL ws) b from rfl, sufW_lsf hn0 b]
    rfl
end

theorem sufW_cons (ws : List (List Int)) (c : Int) (t : List Int) : sufW ws (c :: t) = (if (c :: t) ∈ ws then [placeS ws (c :: t)] else []) ++ sufW ws t := rfl
end Go.Proofs.YtbldfgaogmfoaaaGreat

/- What the document says of he, she, her (layer 8): walked. -/

namespace Go.Proofs.YtbldfgaogmfoaaaGreat
open Go.RowKit Go.Sort

/-- What lies there all the way. -/
structure C8 (w : World) (t : TV) (Q : Nat) (W : World) : Prop where
 tri : Tri W t (trieP heW)
 box : W.heap[Q]? = some (.cells t.cells 34 (0, 0))
 bel : Below w.heap.size w W
theorem C8.below {w W V : World} {t : TV} {Q : Nat} (h : C8 w t Q W) (hb : Below W.heap.size W V) : C8 w t Q V :=
 ⟨h.tri.below hb, (hb.block Q (Array.getElem?_eq_some_iff.1 h.box).1).trans h.box, h.bel.trans (hb.mono h.bel.size)⟩
theorem C8.cells {w W : World} {ua da xa ba : Option Addr} {un uc dn dc xn xc bn bc Q : Nat} (h : C8 w ⟨ua, un, uc, da, dn, dc, xa, xn, xc, ba, bn, bc⟩ Q W) :
  W.cell? ⟨Q, 0, none⟩ = some (.slice ua un uc) ∧ W.cell? ⟨Q, 1, none⟩ = some (.slice da dn dc) ∧ W.cell? ⟨Q, 2, none⟩ = some (.slice xa xn xc) ∧ W.cell? ⟨Q, 3, none⟩ = some (.slice ba bn bc) := by
 have := h.box
 refine ⟨?_, ?_, ?_, ?_⟩ <;> simp [World.cell?, this]

end Go.Proofs.YtbldfgaogmfoaaaGreat

/- What the document says of he, she, her, e (layer 9): walked. -/

namespace Go.Proofs.YtbldfgaogmfoaaaGreat
open Go.RowKit Go.Sort

def heE : List (List Int) := [[104, 101], [115, 104, 101], [104, 101, 114], [101]]
/-- What lies there all the way. -/
structure C9 (w : World) (t : TV) (Q : Nat) (W : World) : Prop where
 tri : Tri W t (trieP heE)
 box : W.heap[Q]? = some (.cells t.cells 34 (0, 0))
 bel : Below w.heap.size w W
theorem C9.below {w W V : World} {t : TV} {Q : Nat} (h : C9 w t Q W) (hb : Below W.heap.size W V) : C9 w t Q V :=
 ⟨h.tri.below hb, (hb.block Q (Array.getElem?_eq_some_iff.1 h.box).1).trans h.box, h.bel.trans (hb.mono h.bel.size)⟩
theorem C9.cells {w W : World} {ua da xa ba : Option Addr} {un uc dn dc xn xc bn bc Q : Nat} (h : C9 w ⟨ua, un, uc, da, dn, dc, xa, xn, xc, ba, bn, bc⟩ Q W) :
  W.cell? ⟨Q, 0, none⟩ = some (.slice ua un uc) ∧ W.cell? ⟨Q, 1, none⟩ = some (.slice da dn dc) ∧ W.cell? ⟨Q, 2, none⟩ = some (.slice xa xn xc) ∧ W.cell? ⟨Q, 3, none⟩ = some (.slice ba bn bc) := by
 have := h.box
 refine ⟨?_, ?_, ?_, ?_⟩ <;> simp [World.cell?, this]
end Go.Proofs.YtbldfgaogmfoaaaGreat

/- What the laws of layer 9 without the document's answer share: plain, and what lies there. -/

namespace Go.Proofs.YtbldfgaogmfoaaaGreat
open Go.RowKit Go.Sort

/-- What lies there all the way. -/
structure CO (w : World) (t : TV) (Q : Nat) (wss : List (List Int)) (W : World) : Prop where
 tri : Tri W t (trieP wss)
 box : W.heap[Q]? = some (.cells t.cells 34 (0, 0))
 bel : Below w.heap.size w W
theorem CO.below {w W V : World} {t : TV} {Q : Nat} {wss : List (List Int)} (h : CO w t Q wss W) (hb : Below W.heap.size W V) : CO w t Q wss V :=
 ⟨h.tri.below hb, (hb.block Q (Array.getElem?_eq_some_iff.1 h.box).1).trans h.box, h.bel.trans (hb.mono h.bel.size)⟩
theorem CO.cells {w W : World} {ua da xa ba : Option Addr} {un uc dn dc xn xc bn bc Q : Nat} {wss : List (List Int)} (h : CO w ⟨ua, un, uc, da, dn, dc, xa, xn, xc, ba, bn, bc⟩ Q wss W) :
  W.cell? ⟨Q, 0, none⟩ = some (.slice ua un uc) ∧ W.cell? ⟨Q, 1, none⟩ = some (.slice da dn dc) ∧ W.cell? ⟨Q, 2, none⟩ = some (.slice xa xn xc) ∧ W.cell? ⟨Q, 3, none⟩ = some (.slice ba bn bc) := by
 have := h.box
 refine ⟨?_, ?_, ?_, ?_⟩ <;> simp [World.cell?, this]
end Go.Proofs.YtbldfgaogmfoaaaGreat

/- The document's words of nodes (layer 9): the longest word that ends at bytes; plain. -/

namespace Go.Proofs.YtbldfgaogmfoaaaGreat

theorem suffix_drop {x y : List Int} (h : y <:+ x) : y = x.drop (x.length - y.length) := List.suffix_iff_eq_drop.1 h
/-- The longest of the first words that end at bytes, of so many bytes at most. -/
def IsLon (l : List (List Int)) (x : List Int) (m at_ : Int) : Prop :=
 (at_ = -1 ∧ ∀ y ∈ l, y <:+ x → ¬ (y.length : Int) ≤ m) ∨
 ∃ (w : Nat) (y : List Int), at_ = w ∧ l[w]? = some y ∧ y <:+ x ∧ (y.length : Int) ≤ m ∧ ∀ y' ∈ l, y' <:+ x → (y'.length : Int) ≤ m → y'.length ≤ y.length
theorem IsLon.nil (x : List Int) (m : Int) : IsLon [] x m (-1) := .inl ⟨rfl, fun y hy => by simp at hy⟩
theorem IsLon.skip {l : List (List Int)} {x y : List Int} {m at_ : Int} (h : IsLon l x m at_) (hy : ¬ (y <:+ x ∧ (y.length : Int) ≤ m)) : IsLon (l ++ [y]) x m at_ := by
 rcases h with ⟨h1, h2⟩ | ⟨w, z, h1, h2, h3, h4, h5⟩
 ·
  refine .inl ⟨h1, fun u hu hs hl => ?_⟩
  rw [List.mem_append, List.mem_singleton] at hu
  rcases hu with hu | rfl
  · exact h2 u hu hs hl
  · exact hy ⟨hs, hl⟩
 ·
  refine .inr ⟨w, z, h1, by rw [List.getElem?_append_left (List.getElem?_eq_some_iff.1 h2).1]; exact h2, h3, h4, fun u hu hs hl => ?_⟩
  rw [List.mem_append, List.mem_singleton] at hu
  rcases hu with hu | rfl
  · exact h5 u hu hs hl
  · exact absurd ⟨hs, hl⟩ hy
theorem IsLon.first {l : List (List Int)} {x y : List Int} {m : Int} (h : IsLon l x m (-1)) (hs : y <:+ x) (hl : (y.length : Int) ≤ m) : IsLon (l ++ [y]) x m l.length := by
 rcases h with ⟨h1, h2⟩ | ⟨w, z, h1, _⟩
 ·
  refine .inr ⟨l.length, y, rfl, by simp, hs, hl, fun u hu hs' hl' => ?_⟩
  rw [List.mem_append, List.mem_singleton] at hu
  rcases hu with hu | rfl
  · exact absurd hl' (h2 u hu hs')
  · exact Nat.le_refl _
 · omega
theorem IsLon.keep {l : List (List Int)} {x y z : List Int} {m : Int} {w : Nat} (h : IsLon l x m w) (hz : l[w]? = some z) (hl : y.length ≤ z.length) : IsLon (l ++ [y]) x m w := by
 rcases h with ⟨h1, _⟩ | ⟨w', z', h1, h2, h3, h4, h5⟩
 · omega
 ·
  obtain rfl : w = w' := by omega
  rw [hz] at h2
  obtain rfl : z = z' := Option.some.inj h2
  refine .inr ⟨w, z, rfl, by rw [List.getElem?_append_left (List.getElem?_eq_some_iff.1 hz).1]; exact hz, h3, h4, fun u hu hs hlu => ?_⟩
  rw [List.mem_append, List.mem_singleton] at hu
  rcases hu with hu | rfl
  · exact h5 u hu hs hlu
  · exact hl
theorem IsLon.more {l : List (List Int)} {x y z : List Int} {m : Int} {w : Nat} (h : IsLon l x m w) (hz : l[w]? = some z) (hl : z.length < y.length) (hs : y <:+ x) (hlm : (y.length : Int) ≤ m) : IsLon (l ++ [y]) x m l.length := by
 rcases h with ⟨h1, _⟩ | ⟨w', z', h1, h2, h3, h4, h5⟩
 · omega
 ·
  obtain rfl : w = w' := by omega
  rw [hz] at h2
  obtain rfl : z = z' := Option.some.inj h2
  refine .inr ⟨l.length, y, rfl, by simp, hs, hlm, fun u hu hs' hlu => ?_⟩
  rw [List.mem_append, List.mem_singleton] at hu
  rcases hu with hu | rfl
  ·
   have := h5 u hu hs' hlu
   omega
  · exact Nat.le_refl _
theorem IsLon.at_ {l : List (List Int)} {x : List Int} {m : Int} {w : Nat} (h : IsLon l x m w) : ∃ y, l[w]? = some y := by
 rcases h with ⟨h1, _⟩ | ⟨w', z', h1, h2, _⟩
 · omega
 ·
  obtain rfl : w = w' := by omega
  exact ⟨z', h2⟩
theorem IsLon.cases {l : List (List Int)} {x : List Int} {m a : Int} (h : IsLon l x m a) : a = -1 ∨ ∃ w : Nat, a = w := by
 rcases h with ⟨h1, _⟩ | ⟨w', z', h1, _⟩
 · exact .inl h1
 · exact .inr ⟨w', h1⟩
end Go.Proofs.YtbldfgaogmfoaaaGreat

/- A trie in memory of its own (layer 7, the document's way): walked. Printed by gen_v7.py. -/

namespace Go.Proofs.YtbldfgaogmfoaaaGreat
open Go.RowKit Go.Sort

/-- A trie of the call's own. -/
structure OTri (W : World) (base : Nat) (t : TV) (T : TrieT) : Prop where
 up : W.ownsRow base 3 1 (.slice t.ua t.un t.uc) t.un (T.up.map (Value.int .i64))
 dep : W.ownsRow base 3 1 (.slice t.da t.dn t.dc) t.dn (T.dep.map (Value.int .i64))
 wrd : W.ownsRow base 3 1 (.slice t.xa t.xn t.xc) t.xn (T.wrd.map (Value.int .i64))
 byt : W.ownsRow base 5 1 (.slice t.ba t.bn t.bc) t.bn (T.byt.map (Value.int .u8))
 bd : ∀ c ∈ T.byt, 0 ≤ c ∧ c ≤ 255
 s1 : sep (.slice t.ua t.un t.uc) (.slice t.da t.dn t.dc)
 s2 : sep (.slice t.ua t.un t.uc) (.slice t.xa t.xn t.xc)
 s3 : sep (.slice t.ua t.un t.uc) (.slice t.ba t.bn t.bc)
 s4 : sep (.slice t.da t.dn t.dc) (.slice t.xa t.xn t.xc)
 s5 : sep (.slice t.da t.dn t.dc) (.slice t.ba t.bn t.bc)
 s6 : sep (.slice t.xa t.xn t.xc) (.slice t.ba t.bn t.bc)
theorem row_cap {w : World} {base n : Nat} {e : TypeId} {a : Option Addr} {m c : Nat} {xs : List Value} (h : w.ownsRow base e 1 (.slice a m c) n xs) : m ≤ c := by
 rcases h.2 with ⟨h', _⟩ | ⟨g', cap', cur, h', _, hg, hnc, _⟩
 · injection h' with h1 h2 h3; omega
 · injection h' with h1 h2 h3; omega
theorem OTri.tri {W : World} {base : Nat} {t : TV} {T : TrieT} (h : OTri W base t T) : Tri W t T :=
 ⟨own_sl h.up, own_sl h.dep, own_sl h.wrd, ⟨own_sl h.byt, h.bd⟩, row_cap h.up, row_cap h.dep, row_cap h.wrd, row_cap h.byt⟩
theorem OTri.below {W V : World} {base : Nat} {t : TV} {T : TrieT} (h : OTri W base t T) (hb : Below W.heap.size W V) : OTri V base t T :=
 ⟨own_below_ h.up hb, own_below_ h.dep hb, own_below_ h.wrd hb, own_below_ h.byt hb, h.bd, h.s1, h.s2, h.s3, h.s4, h.s5, h.s6⟩
theorem row_mono {w : World} {base base' n size : Nat} {e : TypeId} {v : Value} {xs : List Value} (h : w.ownsRow base e size v n xs) (hb : base' ≤ base) : w.ownsRow base' e size v n xs :=
 ⟨h.1, h.2.imp id fun ⟨g, cap, cur, h1, h2, r⟩ => ⟨g, cap, cur, h1, by omega, r⟩⟩
end Go.Proofs.YtbldfgaogmfoaaaGreat

/- The document's tries (layer 7): a node's bytes, by what is told above it; walked. -/

namespace Go.Proofs.YtbldfgaogmfoaaaGreat
open Go.RowKit Go.Sort

theorem spR_zero (T : TrieT) (z : Int) (out : List Int) : spR T 0 z out = out := rfl
theorem spR_stop {T : TrieT} {z : Int} {out : List Int} (h : ¬ (0 < z ∧ z < (T.up.length : Int) ∧ z < (T.byt.length : Int))) (k : Nat) : spR T k z out = out := by
 cases k with
 | zero => rfl
 | succ k => unfold spR; rw [if_neg h]
theorem spR_go {T : TrieT} {z u c : Int} {out : List Int} (h : 0 < z ∧ z < (T.up.length : Int) ∧ z < (T.byt.length : Int)) (hu : T.up[z.toNat]? = some u) (hc : T.byt[z.toNat]? = some c) (k : Nat) : spR T (k + 1) z out = spR T k u (c :: out) := by
 conv => lhs; unfold spR
 rw [if_pos h, hu, hc]
 rfl
theorem spR_all {T : TrieT} {P : Int → Prop} (h0 : P 0) (hb : ∀ x ∈ T.byt, P x) : ∀ (k : Nat) (z : Int) (out : List Int), (∀ x ∈ out, P x) → ∀ x ∈ spR T k z out, P x
 | 0, z, out, h => h
 | k + 1, z, out, h => by
  unfold spR
  split
  ·
   refine spR_all h0 hb k _ _ (fun x hx => ?_)
   rw [List.mem_cons] at hx
   rcases hx with rfl | hx
   ·
    cases e : T.byt[z.toNat]? with
    | none => exact h0
    | some c => exact hb c (List.mem_of_getElem? e)
   · exact h x hx
  · exact h
theorem spR_len (T : TrieT) : ∀ (k : Nat) (z : Int) (out : List Int), (spR T k z out).length ≤ k + out.length
 | 0, z, out => by simp [spR]
 | k + 1, z, out => by
  unfold spR
  split
  ·
   have := spR_len T k (T.up[z.toNat]?.getD 0) (T.byt[z.toNat]?.getD 0 :: out)
   rw [List.length_cons] at this
   omega
  · omega
theorem spellR_len (T : TrieT) (z : Int) : (spellR T z).length ≤ 32 := by
 have := spR_len T 32 z []
 simpa [spellR] using this
theorem spellR_bd {w : World} {a : Option Addr} {n : Nat} {T : TrieT} (h : Bys w a n T.byt) (z : Int) : ∀ x ∈ spellR T z, 0 ≤ x ∧ x ≤ 255 := spR_all ⟨by omega, by omega⟩ h.2 32 z [] (by simp)
def lenV : Value → Nat
 | .slice _ n _ => n
 | _ => 0

set_option maxRecDepth 100000 in
set_option maxHeartbeats 4000000 in
theorem rspell7_any (t : TV) (T : TrieT) (node : Int) (w : World) (hT : Tri w t T) :
  Calls Tryz.prog 135 #[.agg t.cells, .int .i64 node] w fun e w' => ∃ v, e = .returned v ∧ OwnU w' w.heap.size v (spellR T node) ∧ Below w.heap.size w w' := by
 obtain ⟨iU, hj, hy0, hy1, hy2⟩ := info_parts u8_info7
 obtain ⟨ua, un, uc, da, dn, dc, xa, xn, xc, ba, bn, bc⟩ := t
 obtain ⟨W, hW⟩ : ∃ W, W = w.alloc (.cells #[.slice ua un uc, .slice da dn dc, .slice xa xn xc, .slice ba bn bc] 34) := ⟨_, rfl⟩
 have hB : Below w.heap.size w W := by rw [hW]; exact below_alloc _ _
 have hQ : W.heap[w.heap.size]? = some (.cells #[.slice ua un uc, .slice da dn dc, .slice xa xn xc, .slice ba bn bc] 34 (0, 0)) := by rw [hW]; exact World.alloc_heap_new _ _
 obtain ⟨Q, hQe⟩ : ∃ Q, w.heap.size = Q := ⟨_, rfl⟩
 have HB := Lib.hid hB
 have hbQ : W.heap.size = Q + 1 := by rw [hW, ← hQe]; simp
 have HT := Lib.hid (hT.below hB)
 have HU := Lib.hid hT.up.1
 have HBL := Lib.hid hT.byt.len
 have HBD := Lib.hid (spellR_bd hT.byt)
 clear hT
 go_enter Tryz.func135, Tryz.ntmps135
 go_upto_region 1 with fail
 rw [← hW]
 rw [hQe] at hQ
 clear hW
 have HQ := Lib.hid hQ
 have HQe := Lib.hid hQe
 have HbQ := Lib.hid hbQ
 clear hQ hB hQe hbQ
 go_wp2
 go_loopw [1, 5] (fun s1 s5 wr => ∃ (z : Int) (out : List Int) (k : Nat) (av : Option Addr) (cv : Nat), s1 = .int .i64 z ∧ s5 = .slice av k cv ∧ k ≤ 32 ∧ out.length = k ∧ Hid (spellR T node = spR T (32 - k) z out) ∧ wr.ownsRow W.heap.size 5 1 (.slice av k cv) k (out.map (Value.int .u8)) ∧ RowKit.Below W.heap.size W wr) (fun _ s5 _ => 32 - lenV s5)
 case atStart => exact ⟨node, [], 0, none, 0, rfl, rfl, Nat.zero_le _, rfl, rfl, World.ownsRow_nil _ _ _ _, RowKit.Below.refl _ _⟩
 case round =>
  obtain ⟨z, out, k, av, cv, rfl, rfl, hk, hl, HS, hOW, hBe⟩ := hrel
  have hQr : wr.heap[Q]? = _ := (hBe.block Q (by rw [HbQ.out]; omega)).trans HQ.out
  have c0 : wr.cell? ⟨Q, 0, none⟩ = some (.slice ua un uc) := by simp [World.cell?, hQr]
  have c1 : wr.cell? ⟨Q, 1, none⟩ = some (.slice da dn dc) := by simp [World.cell?, hQr]
  have c2 : wr.cell? ⟨Q, 2, none⟩ = some (.slice xa xn xc) := by simp [World.cell?, hQr]
  have c3 : wr.cell? ⟨Q, 3, none⟩ = some (.slice ba bn bc) := by simp [World.cell?, hQr]
  have HOW := Lib.hid hOW
  have HBE := Lib.hid hBe
  have HLL := Lib.hid hl
  have hstop : ¬ (0 < z ∧ z < (un : Int) ∧ z < (bn : Int) ∧ k < 32) → spellR T node = out := fun hn => by
   rw [HS.out]
   by_cases hk2 : k < 32
   · exact spR_stop (fun h => hn ⟨h.1, by have := HU.out; omega, by have := HBL.out; omega, hk2⟩) _
   · rw [show 32 - k = 0 by omega, spR_zero]
  have HST := Lib.hid hstop
  clear hOW hBe hl hstop hQr
  by_cases h1 : 0 < z
  ·
   have e1 : decide ((0 : Int) < z) = true := by simpa using h1
   by_cases h2 : z < (un : Int)
   ·
    have e2 : decide (z < (un : Int)) = true := by simpa using h2
    by_cases h3 : z < (bn : Int)
    ·
     have e3 : decide (z < (bn : Int)) = true := by simpa using h3
     by_cases h4 : k < 32
     ·
      have e4 : decide ((k : Int) < 32) = true := by simp; omega
      have e4' : decide (k < 32) = true := by simp; omega
      obtain ⟨p, rfl⟩ := Int.eq_ofNat_of_zero_le (show 0 ≤ z by omega)
      have hTr := HT.out.below HBE.out
      obtain ⟨b1, o1, u, f1, hb1, g1, hu⟩ := sl1_at hTr.up (k := p) (by show p < un; omega)
      obtain ⟨b2, o2, c, f2, hb2, g2, hc⟩ := sl1_at hTr.byt.1 (k := p) (by show p < bn; omega)
      dsimp only at f1 f2
      subst f1 f2
      have hgo := spR_go (T := T) (z := (p : Int)) (u := u) (c := c) (out := out) ⟨h1, by have := HU.out; omega, by have := HBL.out; omega⟩ (by simpa using hu) (by simpa using hc) (32 - (k + 1))
      rw [show 32 - (k + 1) + 1 = 32 - k by omega] at hgo
      have HS2 : Hid (spellR T node = spR T (32 - (k + 1)) u (c :: out)) := by rw [Hid, HS.out]; exact hgo
      have hrow := (HOW.out.alloc (.cells #[.int .u8 c] 5))
      have hsz := HBE.out.size
      have hlit := World.ownsRow_lit (base := W.heap.size) (size := 1) (e := 5) wr #[.int .u8 c] 1 hsz (by unfold maxLen; omega) (by simp)
      have g1' : (wr.alloc (.cells #[.int .u8 c] 5)).cell? ⟨b1, o1 + p, none⟩ = some (.int .i64 u) := by rw [World.cell?_alloc_lt _ _ _ hb1]; exact g1
      have hbl : RowKit.Below wr.heap.size wr (wr.alloc (.cells #[.int .u8 c] 5)) := below_alloc _ _
      have p1 : (0 : Int) ≤ (p : Int) := by omega
      have HG1 := Lib.hid g1
      have HB1 := Lib.hid hb1
      clear hgo hu hc hTr
      go_upto_region 4 with (at_builtin; refine wpList_append_sl1 rfl _ _ 25 rfl u8_one W.heap.size 5 iU (.int .u8 0) 1 Tryz.underlying25 hj hy0 hy1 hy2 rfl _ _ _ rfl hlit av k cv out rfl (own_sl hrow) (by unfold maxLen; omega) (by omega) (by simp; omega) ?_; intro v' w9 hown' hgrow hat)
      have hB9 := (HBE.out.alloc hsz (.cells #[.int .u8 c] 5)).grown hgrow (by simp; omega) (fun j hj => by injection hj with hj; subst hj; exact hsz)
      have g9 : w9.cell? ⟨b1, o1 + p, none⟩ = some (.int .i64 u) := (World.cell?_of_block (a := ⟨b1, o1 + p, none⟩) (hgrow.block b1 (by simp; have := HB1.out; omega) (fun e => by have e2 : some b1 = some wr.heap.size := e; injection e2 with e2; have := HB1.out; omega))).trans g1'
      have hQ9 : w9.heap[Q]? = _ := (hB9.block Q (by rw [HbQ.out]; omega)).trans HQ.out
      have c0 : w9.cell? ⟨Q, 0, none⟩ = some (.slice (some ⟨b1, o1, none⟩) un uc) := by simp [World.cell?, hQ9]
      have c3 : w9.cell? ⟨Q, 3, none⟩ = some (.slice (some ⟨b2, o2, none⟩) bn bc) := by simp [World.cell?, hQ9]
      have hO9 : w9.ownsRow W.heap.size 5 1 v' (k + 1) ((c :: out).map (Value.int .u8)) := by
       rw [Nat.add_comm, List.map_cons]
       exact hown'
      obtain ⟨a9, c9, rfl, _, _⟩ := own_sl1 hO9
      clear g1' hQ9 hrow hlit
      go_wp2
      go_roundw
      case rel => exact ⟨u, c :: out, k + 1, a9, c9, rfl, by go_num, by omega, by rw [List.length_cons, HLL.out], HS2, hO9, hB9⟩
      case measure => simp [lenV]; omega
     ·
      have e4 : decide ((k : Int) < 32) = false := by simp; omega
      have e4' : decide (k < 32) = false := by simp; omega
      have hend := Lib.hid (HST.out (fun h => h4 h.2.2.2))
      go_wp2
      go_ret
      refine ⟨.slice av k cv, rfl, ?_, ?_⟩
      · rw [hend.out]; unfold OwnU; rw [HLL.out]; exact row_mono HOW.out (by rw [HbQ.out, HQe.out]; omega)
      · exact HB.out.trans (HBE.out.mono HB.out.size)
    ·
     have e3 : decide (z < (bn : Int)) = false := by simpa using h3
     have hend := Lib.hid (HST.out (fun h => h3 h.2.2.1))
     go_wp2
     go_ret
     refine ⟨.slice av k cv, rfl, ?_, ?_⟩
     · rw [hend.out]; unfold OwnU; rw [HLL.out]; exact row_mono HOW.out (by rw [HbQ.out, HQe.out]; omega)
     · exact HB.out.trans (HBE.out.mono HB.out.size)
   ·
    have e2 : decide (z < (un : Int)) = false := by simpa using h2
    have hend := Lib.hid (HST.out (fun h => h2 h.2.1))
    go_wp2
    go_ret
    refine ⟨.slice av k cv, rfl, ?_, ?_⟩
    · rw [hend.out]; unfold OwnU; rw [HLL.out]; exact row_mono HOW.out (by rw [HbQ.out, HQe.out]; omega)
    · exact HB.out.trans (HBE.out.mono HB.out.size)
  ·
   have e1 : decide ((0 : Int) < z) = false := by simpa using h1
   have hend := Lib.hid (HST.out (fun h => h1 h.1))
   go_wp2
   go_ret
   refine ⟨.slice av k cv, rfl, ?_, ?_⟩
   · rw [hend.out]; unfold OwnU; rw [HLL.out]; exact row_mono HOW.out (by rw [HbQ.out, HQe.out]; omega)
   · exact HB.out.trans (HBE.out.mono HB.out.size)
end Go.Proofs.YtbldfgaogmfoaaaGreat
