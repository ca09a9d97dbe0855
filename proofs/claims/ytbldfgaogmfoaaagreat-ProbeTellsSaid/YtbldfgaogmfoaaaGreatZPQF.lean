/- The law ProbeTells (layer 20): walked. Printed by gen_qf.py and exp.py. -/
import Derived.Test.YtbldfgaogmfoaaaGreatZP5
import Derived.Test.YtbldfgaogmfoaaaGreatZP16
import Derived.Test.YtbldfgaogmfoaaaGreatZP18
set_option linter.unusedVariables false
set_option linter.unusedSimpArgs false
namespace Go.Proofs.YtbldfgaogmfoaaaGreat
open Go.RowKit Go.Sort

theorem probe_fields : ((Tryz.prog.fieldsOf 62).toList.map fun f => (f.name, f.type, f.offset)) = [("Node", 3, 0), ("Done", 3, 1)] := by kernel_rfl
theorem equalIn_probe (x y : Int × Int) (W : World) : (Op.equalIn 10000 62 (.agg #[.int .i64 x.1, .int .i64 x.2]) (.agg #[.int .i64 y.1, .int .i64 y.2])).run Tryz.prog W = .ok (decide (x = y)) W := by
 rw [run_equalIn_agg W 9999 62 _ _ (by kernel_rfl) (by kernel_rfl)]
 rw [eqFields_map 9999 _ _ _ [⟨ "Node", 3, 0, false, "", "", 0⟩, ⟨ "Done", 3, 1, false, "", "", 0⟩] probe_fields]
 have h0 : ∀ W : World, (part 3 #[.int .i64 x.1, .int .i64 x.2] 0).run Tryz.prog W = .ok (.int .i64 x.1) W := fun W => by kernel_rfl
 have h1 : ∀ W : World, (part 3 #[.int .i64 x.1, .int .i64 x.2] 1).run Tryz.prog W = .ok (.int .i64 x.2) W := fun W => by kernel_rfl
 have g0 : ∀ W : World, (part 3 #[.int .i64 y.1, .int .i64 y.2] 0).run Tryz.prog W = .ok (.int .i64 y.1) W := fun W => by kernel_rfl
 have g1 : ∀ W : World, (part 3 #[.int .i64 y.1, .int .i64 y.2] 1).run Tryz.prog W = .ok (.int .i64 y.2) W := fun W => by kernel_rfl
 simp only [Op.eqFields, Sem.run_bind, Sem.run_ite, Sem.run_pure, h0, h1, g0, g1, Result.andThen_ok, run_equalIn_int _ _ _ _ _ _ _ Tryz.underlying3]
 obtain ⟨a, b⟩ := x
 obtain ⟨c, d⟩ := y
 by_cases e1 : a = c <;> by_cases e2 : b = d <;> simp [e1, e2]
theorem neq_probe (x y : Int × Int) (W : World) : (binOp .neq 62 (.agg #[.int .i64 x.1, .int .i64 x.2]) (.agg #[.int .i64 y.1, .int .i64 y.2])).run Tryz.prog W = .ok (.bool (!decide (x = y))) W := by
 rw [run_neq_struct, equalIn_probe]
 rfl
theorem slH_le {fold : Bool} {wss : List (List Int)} {st wm : Int} {bs : List Int} {z d m : Int} (hb : bs.length ≤ 900000) : (slH fold wss st wm bs z d m).length ≤ 400 * 900000 := by
 cases hr : rightP fold wss with
 | false =>
  unfold slH
  rw [prbD_no hr]
  simp
 | true =>
  have h1 : (nodesL wss).length ≤ 400 := read_n (readP_iff.2 ⟨right_false hr, rfl, rfl⟩)
  exact Nat.le_trans slH_len (Nat.mul_le_mul h1 hb)
theorem whH_le {fold : Bool} {wss : List (List Int)} {st wm : Int} {bs : List Int} (hb : bs.length ≤ 900000) : (whH fold wss st wm bs).length ≤ 400 * 900000 := slH_le hb
theorem whH_bd {fold : Bool} {wss : List (List Int)} {st wm : Int} {bs : List Int} (hw : wss.length ≤ 1000000) (hb : bs.length ≤ 900000) : ∀ h ∈ whH fold wss st wm bs, I64 h.1 ∧ I64 h.2 := slH_bd hw hb

set_option maxRecDepth 100000 in
set_option maxHeartbeats 16000000 in
theorem probeTells_walk (fold : Bool) (a : Option Addr) (la ca : Nat) (nu st wm : Int) (b : Option Addr) (n c : Nat) (nu2 st2 wm2 : Int) (b2 : Option Addr) (n2 c2 : Nat) (z d m : Int) (wss : List (List Int)) (bs bs2 : List Int) (w : World)
  (hA : Wds w a la wss) (hD : Bys w b n bs) (hnc : n ≤ c) (hD2 : Bys w b2 n2 bs2) (hnc2 : n2 ≤ c2) (hm : -9223372036854775808 ≤ m ∧ m ≤ 9223372036854775807) :
  Calls Tryz.prog 7 #[.agg (setV fold a la ca), .agg (blV nu st wm b n c), .agg (blV nu2 st2 wm2 b2 n2 c2), prV z d, .int .i64 m] w fun e w' => e = .returned (.bool true) ∧ Below w.heap.size w w' := by
 obtain ⟨i0, hi, hz0, hz1, hz2⟩ := info_parts hit_info
 have HLEN := Lib.hid hA.len
 obtain ⟨W, hW⟩ : ∃ W, W = (((w.alloc (.cells (setV fold a la ca) 24)).alloc (.cells (blV nu st wm b n c) 60)).alloc (.cells (blV nu2 st2 wm2 b2 n2 c2) 60)).alloc (.cells #[.int .i64 z, .int .i64 d] 62) := ⟨_, rfl⟩
 have hB : Below w.heap.size w W := by rw [hW]; exact ((((Below.refl _ _).alloc (Nat.le_refl _) _).alloc (by simp) _).alloc (by simp; omega) _).alloc (by simp; omega) _
 have hO : Bx w.heap.size [.cells (setV fold a la ca) 24, .cells (blV nu st wm b n c) 60, .cells (blV nu2 st2 wm2 b2 n2 c2) 60, .cells #[.int .i64 z, .int .i64 d] 62] W := by rw [hW]; exact ((((Bx.nil _ w).snoc _ rfl).snoc _ (by simp)).snoc _ (by simp)).snoc _ (by simp)
 have K0 : Hid (∀ V, RowKit.Below W.heap.size W V → (V.cell? ⟨w.heap.size, 0, none⟩ = some (.bool fold) ∧ V.cell? ⟨w.heap.size, 1, none⟩ = some (.slice a la ca)) ∧ (V.cell? ⟨w.heap.size + 1, 0, none⟩ = some (.int .i64 nu) ∧ V.cell? ⟨w.heap.size + 1, 1, none⟩ = some (.int .i64 st) ∧ V.cell? ⟨w.heap.size + 1, 2, none⟩ = some (.int .i64 wm) ∧ V.cell? ⟨w.heap.size + 1, 3, none⟩ = some (.slice b n c)) ∧ (V.cell? ⟨w.heap.size + 1 + 1, 0, none⟩ = some (.int .i64 nu2) ∧ V.cell? ⟨w.heap.size + 1 + 1, 1, none⟩ = some (.int .i64 st2) ∧ V.cell? ⟨w.heap.size + 1 + 1, 2, none⟩ = some (.int .i64 wm2) ∧ V.cell? ⟨w.heap.size + 1 + 1, 3, none⟩ = some (.slice b2 n2 c2)) ∧ (V.cell? ⟨w.heap.size + 1 + 1 + 1, 0, none⟩ = some (.int .i64 z) ∧ V.cell? ⟨w.heap.size + 1 + 1 + 1, 1, none⟩ = some (.int .i64 d)) ∧ Wds V a la wss ∧ Bys V b n bs ∧ Bys V b2 n2 bs2 ∧ RowKit.Below w.heap.size w V) := fun V hV => by
   have h := hO.below hV
   have h1 := hB.trans (hV.mono hB.size)
   exact ⟨⟨h.cell (i := 0) rfl rfl, h.cell (i := 0) rfl rfl⟩, ⟨h.cell (i := 1) rfl rfl, h.cell (i := 1) rfl rfl, h.cell (i := 1) rfl rfl, h.cell (i := 1) rfl rfl⟩, ⟨h.cell (i := 2) rfl rfl, h.cell (i := 2) rfl rfl, h.cell (i := 2) rfl rfl, h.cell (i := 2) rfl rfl⟩, ⟨h.cell (i := 3) rfl rfl, h.cell (i := 3) rfl rfl⟩, hA.below h1, hD.below h1, hD2.below h1, h1⟩
 obtain ⟨f_set, f_b, f_c, f_p, f_A, f_D, f_D2, f_bw⟩ := K0.out W (Below.refl _ _)
 obtain ⟨s0, s1⟩ := f_set
 obtain ⟨p0, p1, p2, p3⟩ := f_b
 obtain ⟨r0, r1, r2, r3⟩ := f_c
 obtain ⟨t0, t1⟩ := f_p
 obtain ⟨G1, hG1⟩ : ∃ G, (greatP wss || decide (400 < n)) = G := ⟨_, rfl⟩
 obtain ⟨G2, hG2⟩ : ∃ G, (greatP wss || decide (400 < n2)) = G := ⟨_, rfl⟩
 have HG1 := great20_any fold a b la ca n c nu st wm wss W f_A
 rw [hG1] at HG1
 have HG1 := Lib.hid HG1
 clear f_A f_D f_D2 f_bw hO hB hA hD hD2
 go_enter Tryz.func7, Tryz.ntmps7
 go_upto_region 1 with fail
 rw [← hW]
 clear hW
 go_wp2_with fail
 refine HG1.out.mono ?_
 rintro e w1 ⟨rfl, hb1⟩
 clear HG1 s0 s1 p0 p1 p2 p3 r0 r1 r2 r3 t0 t1
 have K1 : Hid (∀ V, RowKit.Below w1.heap.size w1 V → (V.cell? ⟨w.heap.size, 0, none⟩ = some (.bool fold) ∧ V.cell? ⟨w.heap.size, 1, none⟩ = some (.slice a la ca)) ∧ (V.cell? ⟨w.heap.size + 1, 0, none⟩ = some (.int .i64 nu) ∧ V.cell? ⟨w.heap.size + 1, 1, none⟩ = some (.int .i64 st) ∧ V.cell? ⟨w.heap.size + 1, 2, none⟩ = some (.int .i64 wm) ∧ V.cell? ⟨w.heap.size + 1, 3, none⟩ = some (.slice b n c)) ∧ (V.cell? ⟨w.heap.size + 1 + 1, 0, none⟩ = some (.int .i64 nu2) ∧ V.cell? ⟨w.heap.size + 1 + 1, 1, none⟩ = some (.int .i64 st2) ∧ V.cell? ⟨w.heap.size + 1 + 1, 2, none⟩ = some (.int .i64 wm2) ∧ V.cell? ⟨w.heap.size + 1 + 1, 3, none⟩ = some (.slice b2 n2 c2)) ∧ (V.cell? ⟨w.heap.size + 1 + 1 + 1, 0, none⟩ = some (.int .i64 z) ∧ V.cell? ⟨w.heap.size + 1 + 1 + 1, 1, none⟩ = some (.int .i64 d)) ∧ Wds V a la wss ∧ Bys V b n bs ∧ Bys V b2 n2 bs2 ∧ RowKit.Below w.heap.size w V) := fun V hV => by
  obtain ⟨f_set, f_b, f_c, f_p, f_A, f_D, f_D2, f_bw⟩ := K0.out V (hb1.trans (hV.mono hb1.size))
  exact ⟨f_set, f_b, f_c, f_p, f_A, f_D, f_D2, f_bw⟩
 clear hb1 K0
 cases G1 with
 | true =>
  obtain ⟨f_set, f_b, f_c, f_p, f_A, f_D, f_D2, f_bw⟩ := K1.out w1 (Below.refl _ _)
  have HBW := Lib.hid f_bw
  clear f_set f_b f_c f_p f_A f_D f_D2 f_bw
  go_wp2_with fail
  refine (wakes20 _).mono ?_
  rintro e w9 ⟨rfl, hb9⟩
  go_wp2
  go_ret
  exact ⟨rfl, HBW.out.trans (hb9.mono HBW.out.size)⟩
 | false =>
  obtain ⟨f_set, f_b, f_c, f_p, f_A, f_D, f_D2, f_bw⟩ := K1.out w1 (Below.refl _ _)
  obtain ⟨s0, s1⟩ := f_set
  obtain ⟨p0, p1, p2, p3⟩ := f_b
  obtain ⟨r0, r1, r2, r3⟩ := f_c
  obtain ⟨t0, t1⟩ := f_p
  have HG2 := great20_any fold a b2 la ca n2 c2 nu2 st2 wm2 wss w1 f_A
  rw [hG2] at HG2
  have HG2 := Lib.hid HG2
  clear f_A f_D f_D2 f_bw
  go_wp2_with fail
  refine HG2.out.mono ?_
  rintro e w2 ⟨rfl, hb2⟩
  clear HG2 s0 s1 p0 p1 p2 p3 r0 r1 r2 r3 t0 t1
  have K2 : Hid (∀ V, RowKit.Below w2.heap.size w2 V → (V.cell? ⟨w.heap.size, 0, none⟩ = some (.bool fold) ∧ V.cell? ⟨w.heap.size, 1, none⟩ = some (.slice a la ca)) ∧ (V.cell? ⟨w.heap.size + 1, 0, none⟩ = some (.int .i64 nu) ∧ V.cell? ⟨w.heap.size + 1, 1, none⟩ = some (.int .i64 st) ∧ V.cell? ⟨w.heap.size + 1, 2, none⟩ = some (.int .i64 wm) ∧ V.cell? ⟨w.heap.size + 1, 3, none⟩ = some (.slice b n c)) ∧ (V.cell? ⟨w.heap.size + 1 + 1, 0, none⟩ = some (.int .i64 nu2) ∧ V.cell? ⟨w.heap.size + 1 + 1, 1, none⟩ = some (.int .i64 st2) ∧ V.cell? ⟨w.heap.size + 1 + 1, 2, none⟩ = some (.int .i64 wm2) ∧ V.cell? ⟨w.heap.size + 1 + 1, 3, none⟩ = some (.slice b2 n2 c2)) ∧ (V.cell? ⟨w.heap.size + 1 + 1 + 1, 0, none⟩ = some (.int .i64 z) ∧ V.cell? ⟨w.heap.size + 1 + 1 + 1, 1, none⟩ = some (.int .i64 d)) ∧ Wds V a la wss ∧ Bys V b n bs ∧ Bys V b2 n2 bs2 ∧ RowKit.Below w.heap.size w V) := fun V hV => by
   obtain ⟨f_set, f_b, f_c, f_p, f_A, f_D, f_D2, f_bw⟩ := K1.out V (hb2.trans (hV.mono hb2.size))
   exact ⟨f_set, f_b, f_c, f_p, f_A, f_D, f_D2, f_bw⟩
  clear hb2 K1
  cases G2 with
  | true =>
   obtain ⟨f_set, f_b, f_c, f_p, f_A, f_D, f_D2, f_bw⟩ := K2.out w2 (Below.refl _ _)
   have HBW := Lib.hid f_bw
   clear f_set f_b f_c f_p f_A f_D f_D2 f_bw
   go_wp2_with fail
   refine (wakes20 _).mono ?_
   rintro e w9 ⟨rfl, hb9⟩
   go_wp2
   go_ret
   exact ⟨rfl, HBW.out.trans (hb9.mono HBW.out.size)⟩
  | false =>
   obtain ⟨f_set, f_b, f_c, f_p, f_A, f_D, f_D2, f_bw⟩ := K2.out w2 (Below.refl _ _)
   obtain ⟨s0, s1⟩ := f_set
   obtain ⟨p0, p1, p2, p3⟩ := f_b
   obtain ⟨r0, r1, r2, r3⟩ := f_c
   obtain ⟨t0, t1⟩ := f_p
   obtain ⟨hgr, hn4⟩ := Bool.or_eq_false_iff.1 hG1
   have hn4' := of_decide_eq_false hn4
   have hm4' := of_decide_eq_false (Bool.or_eq_false_iff.1 hG2).2
   obtain ⟨gg1, gg2, gg3⟩ := gr8_bd hgr fold
   rw [HLEN.out] at gg1
   have hM : ∀ x ∈ wss, x.length ≤ 1000000 := fun x hx => by have := gg2 x hx; omega
   have HML := Lib.hid hM
   have hws : wss.length ≤ 1000000 := by rw [HLEN.out]; omega
   have HWS := Lib.hid hws
   have HC := Lib.hid (mach20 fold a la ca wss w2 f_A (by omega) hM (by omega))
   have hn9 : n ≤ 900000 := by omega
   have hm9 : n2 ≤ 900000 := by omega
   have hla9 : la ≤ 1000 := by omega
   have hbl : bs.length ≤ 900000 := by rw [f_D.len]; exact hn9
   have hbl2 : bs2.length ≤ 900000 := by rw [f_D2.len]; exact hm9
   have HBL := Lib.hid hbl
   have HBL2 := Lib.hid hbl2
   clear f_A f_D f_D2 f_bw hgr hn4 hn4' hm4' gg1 gg2 gg3 hM hws hbl hbl2 hG1 hG2
   go_upto_region 4 with (go_at_call 30; refine HC.out.mono ?_; rintro e w3 ⟨p, er, rfl, hm20, _, hb3⟩)
   clear HC s0 s1 p0 p1 p2 p3 r0 r1 r2 r3 t0 t1
   have K3 : Hid (∀ V, RowKit.Below w3.heap.size w3 V → (V.cell? ⟨w.heap.size, 0, none⟩ = some (.bool fold) ∧ V.cell? ⟨w.heap.size, 1, none⟩ = some (.slice a la ca)) ∧ (V.cell? ⟨w.heap.size + 1, 0, none⟩ = some (.int .i64 nu) ∧ V.cell? ⟨w.heap.size + 1, 1, none⟩ = some (.int .i64 st) ∧ V.cell? ⟨w.heap.size + 1, 2, none⟩ = some (.int .i64 wm) ∧ V.cell? ⟨w.heap.size + 1, 3, none⟩ = some (.slice b n c)) ∧ (V.cell? ⟨w.heap.size + 1 + 1, 0, none⟩ = some (.int .i64 nu2) ∧ V.cell? ⟨w.heap.size + 1 + 1, 1, none⟩ = some (.int .i64 st2) ∧ V.cell? ⟨w.heap.size + 1 + 1, 2, none⟩ = some (.int .i64 wm2) ∧ V.cell? ⟨w.heap.size + 1 + 1, 3, none⟩ = some (.slice b2 n2 c2)) ∧ (V.cell? ⟨w.heap.size + 1 + 1 + 1, 0, none⟩ = some (.int .i64 z) ∧ V.cell? ⟨w.heap.size + 1 + 1 + 1, 1, none⟩ = some (.int .i64 d)) ∧ Wds V a la wss ∧ Bys V b n bs ∧ Bys V b2 n2 bs2 ∧ RowKit.Below w.heap.size w V) := fun V hV => by
    obtain ⟨f_set, f_b, f_c, f_p, f_A, f_D, f_D2, f_bw⟩ := K2.out V (hb3.trans (hV.mono hb3.size))
    exact ⟨f_set, f_b, f_c, f_p, f_A, f_D, f_D2, f_bw⟩
   clear hb3 K2
   have HM20 : Hid (∀ V, RowKit.Below w3.heap.size w3 V → Mach20 w3 p fold wss ∧ RowKit.Below w3.heap.size w3 V) := fun V hV => ⟨hm20, hV⟩
   clear hm20
   obtain ⟨f_set, f_b, f_c, f_p, f_A, f_D, f_D2, f_bw⟩ := K3.out w3 (Below.refl _ _)
   obtain ⟨s0, s1⟩ := f_set
   obtain ⟨p0, p1, p2, p3⟩ := f_b
   obtain ⟨r0, r1, r2, r3⟩ := f_c
   obtain ⟨t0, t1⟩ := f_p
   obtain ⟨z1, hz1e⟩ : ∃ x, slZ fold wss st wm bs z d m = x := ⟨_, rfl⟩
   obtain ⟨d1, hd1e⟩ : ∃ x, slD fold wss st wm bs z d m = x := ⟨_, rfl⟩
   obtain ⟨o1, ho1e⟩ : ∃ x, slO fold wss st wm bs z d m = x := ⟨_, rfl⟩
   obtain ⟨H1, hH1e⟩ : ∃ x, slH fold wss st wm bs z d m = x := ⟨_, rfl⟩
   have HC := (HM20.out w3 (Below.refl _ _)).1.slice w3 (Below.refl _ _) nu st wm b n c bs z d m f_D hn9 hm
   have HC2 := fun (V : World) (hA : Wds V a la wss) (hD : Bys V b n bs) => rslice20_u fold a la ca nu st wm b n c z d m wss bs V hA hD hnc hla9 HML.out hn9
   have hbd := slH_bd (fold := fold) (st := st) (wm := wm) (z := z) (d := d) (m := m) HWS.out HBL.out
   have hle := slH_le (fold := fold) (wss := wss) (st := st) (wm := wm) (z := z) (d := d) (m := m) HBL.out
   rw [hz1e, hd1e, ho1e, hH1e] at HC
   rw [hz1e, hd1e, ho1e, hH1e] at HC2
   rw [hH1e] at hbd hle
   have HC := Lib.hid HC
   have HC2 := Lib.hid HC2
   have HBD := Lib.hid hbd
   obtain ⟨k1, hk1⟩ : ∃ k, H1.length = k := ⟨_, rfl⟩
   have HK1 := Lib.hid hk1
   have hk1le : k1 ≤ 360000000 := by omega
   clear f_A f_D f_D2 f_bw hz1e hd1e ho1e hH1e hbd hle hk1
   go_upto_region 5 with (go_at_call 31; refine HC.out.mono ?_; rintro e u4 ⟨v4, rfl, ho4, hb4⟩)
   obtain ⟨a4, c4, rfl, _, hs4⟩ := OwnH.hts ho4 HBD.out
   rw [HK1.out] at hs4
   rw [HK1.out]
   obtain ⟨V4, hV4⟩ : ∃ X, X = u4.alloc (.cells #[.int .i64 z1, .int .i64 d1] 62) := ⟨_, rfl⟩
   have hx4 : V4.heap[u4.heap.size]? = some (.cells #[.int .i64 z1, .int .i64 d1] 62 (0, 0)) := by rw [hV4]; exact World.alloc_heap_new _ _
   have hbx4 : RowKit.Below u4.heap.size u4 V4 := by rw [hV4]; exact below_alloc _ _
   rw [← hV4]
   obtain ⟨y4, hy4⟩ : ∃ k, u4.heap.size = k := ⟨_, rfl⟩
   have hbs4 := hb4.trans (hbx4.mono hb4.size)
   have hss4 := hs4.below hbx4
   rw [hy4] at hx4 ⊢
   clear HC hV4 hbx4 hy4 hb4 hs4 ho4 s0 s1 p0 p1 p2 p3 r0 r1 r2 r3 t0 t1
   have K4 : Hid (∀ V, RowKit.Below V4.heap.size V4 V → (V.cell? ⟨w.heap.size, 0, none⟩ = some (.bool fold) ∧ V.cell? ⟨w.heap.size, 1, none⟩ = some (.slice a la ca)) ∧ (V.cell? ⟨w.heap.size + 1, 0, none⟩ = some (.int .i64 nu) ∧ V.cell? ⟨w.heap.size + 1, 1, none⟩ = some (.int .i64 st) ∧ V.cell? ⟨w.heap.size + 1, 2, none⟩ = some (.int .i64 wm) ∧ V.cell? ⟨w.heap.size + 1, 3, none⟩ = some (.slice b n c)) ∧ (V.cell? ⟨w.heap.size + 1 + 1, 0, none⟩ = some (.int .i64 nu2) ∧ V.cell? ⟨w.heap.size + 1 + 1, 1, none⟩ = some (.int .i64 st2) ∧ V.cell? ⟨w.heap.size + 1 + 1, 2, none⟩ = some (.int .i64 wm2) ∧ V.cell? ⟨w.heap.size + 1 + 1, 3, none⟩ = some (.slice b2 n2 c2)) ∧ (V.cell? ⟨w.heap.size + 1 + 1 + 1, 0, none⟩ = some (.int .i64 z) ∧ V.cell? ⟨w.heap.size + 1 + 1 + 1, 1, none⟩ = some (.int .i64 d)) ∧ Wds V a la wss ∧ Bys V b n bs ∧ Bys V b2 n2 bs2 ∧ RowKit.Below w.heap.size w V ∧ (Mach20 w3 p fold wss ∧ RowKit.Below w3.heap.size w3 V) ∧ Hts V a4 k1 H1 ∧ (V.cell? ⟨y4, 0, none⟩ = some (.int .i64 z1) ∧ V.cell? ⟨y4, 1, none⟩ = some (.int .i64 d1))) := fun V hV => by
    obtain ⟨f_set, f_b, f_c, f_p, f_A, f_D, f_D2, f_bw⟩ := K3.out V (hbs4.trans (hV.mono hbs4.size))
    exact ⟨f_set, f_b, f_c, f_p, f_A, f_D, f_D2, f_bw, HM20.out V (hbs4.trans (hV.mono hbs4.size)), hss4.below hV, (by have h := (hV.block y4 (Array.getElem?_eq_some_iff.1 hx4).1).trans hx4; exact ⟨by simp [World.cell?, h], by simp [World.cell?, h]⟩)⟩
   clear hbs4 K3
   obtain ⟨f_set, f_b, f_c, f_p, f_A, f_D, f_D2, f_bw, f_m, f_s4, f_x4⟩ := K4.out V4 (Below.refl _ _)
   obtain ⟨s0, s1⟩ := f_set
   obtain ⟨p0, p1, p2, p3⟩ := f_b
   obtain ⟨r0, r1, r2, r3⟩ := f_c
   obtain ⟨t0, t1⟩ := f_p
   have HC := Lib.hid (HC2.out V4 f_A f_D)
   clear f_A f_D f_D2 f_bw f_m f_s4 f_x4 hss4 hx4 HM20 HC2
   go_upto_region 6 with (go_at_call 32; refine HC.out.mono ?_; rintro e u5 ⟨v5, rfl, ho5, hb5⟩)
   obtain ⟨a5, c5, rfl, _, hs5⟩ := OwnH.hts ho5 HBD.out
   rw [HK1.out] at hs5
   rw [HK1.out]
   obtain ⟨V5, hV5⟩ : ∃ X, X = u5.alloc (.cells #[.int .i64 z1, .int .i64 d1] 62) := ⟨_, rfl⟩
   have hx5 : V5.heap[u5.heap.size]? = some (.cells #[.int .i64 z1, .int .i64 d1] 62 (0, 0)) := by rw [hV5]; exact World.alloc_heap_new _ _
   have hbx5 : RowKit.Below u5.heap.size u5 V5 := by rw [hV5]; exact below_alloc _ _
   rw [← hV5]
   obtain ⟨y5, hy5⟩ : ∃ k, u5.heap.size = k := ⟨_, rfl⟩
   have hbs5 := hb5.trans (hbx5.mono hb5.size)
   have hss5 := hs5.below hbx5
   rw [hy5] at hx5 ⊢
   clear HC hV5 hbx5 hy5 hb5 hs5 ho5 HBD s0 s1 p0 p1 p2 p3 r0 r1 r2 r3 t0 t1
   have K5 : Hid (∀ V, RowKit.Below V5.heap.size V5 V → (V.cell? ⟨w.heap.size, 0, none⟩ = some (.bool fold) ∧ V.cell? ⟨w.heap.size, 1, none⟩ = some (.slice a la ca)) ∧ (V.cell? ⟨w.heap.size + 1, 0, none⟩ = some (.int .i64 nu) ∧ V.cell? ⟨w.heap.size + 1, 1, none⟩ = some (.int .i64 st) ∧ V.cell? ⟨w.heap.size + 1, 2, none⟩ = some (.int .i64 wm) ∧ V.cell? ⟨w.heap.size + 1, 3, none⟩ = some (.slice b n c)) ∧ (V.cell? ⟨w.heap.size + 1 + 1, 0, none⟩ = some (.int .i64 nu2) ∧ V.cell? ⟨w.heap.size + 1 + 1, 1, none⟩ = some (.int .i64 st2) ∧ V.cell? ⟨w.heap.size + 1 + 1, 2, none⟩ = some (.int .i64 wm2) ∧ V.cell? ⟨w.heap.size + 1 + 1, 3, none⟩ = some (.slice b2 n2 c2)) ∧ (V.cell? ⟨w.heap.size + 1 + 1 + 1, 0, none⟩ = some (.int .i64 z) ∧ V.cell? ⟨w.heap.size + 1 + 1 + 1, 1, none⟩ = some (.int .i64 d)) ∧ Wds V a la wss ∧ Bys V b n bs ∧ Bys V b2 n2 bs2 ∧ RowKit.Below w.heap.size w V ∧ (Mach20 w3 p fold wss ∧ RowKit.Below w3.heap.size w3 V) ∧ Hts V a4 k1 H1 ∧ (V.cell? ⟨y4, 0, none⟩ = some (.int .i64 z1) ∧ V.cell? ⟨y4, 1, none⟩ = some (.int .i64 d1)) ∧ Hts V a5 k1 H1 ∧ (V.cell? ⟨y5, 0, none⟩ = some (.int .i64 z1) ∧ V.cell? ⟨y5, 1, none⟩ = some (.int .i64 d1))) := fun V hV => by
    obtain ⟨f_set, f_b, f_c, f_p, f_A, f_D, f_D2, f_bw, f_m, f_s4, f_x4⟩ := K4.out V (hbs5.trans (hV.mono hbs5.size))
    exact ⟨f_set, f_b, f_c, f_p, f_A, f_D, f_D2, f_bw, f_m, f_s4, f_x4, hss5.below hV, (by have h := (hV.block y5 (Array.getElem?_eq_some_iff.1 hx5).1).trans hx5; exact ⟨by simp [World.cell?, h], by simp [World.cell?, h]⟩)⟩
   clear hbs5 K4
   clear hss5 hx5
   have kz : ∀ W, (binOp .neq 62 (.agg #[.int .i64 z1, .int .i64 d1]) (.agg #[.int .i64 z1, .int .i64 d1])).run Tryz.prog W = .ok (.bool false) W := fun W => by have h := neq_probe (z1, d1) (z1, d1) W; rw [decide_eq_true rfl] at h; exact h
   obtain ⟨R, hR⟩ : ∃ R, prbD fold wss st wm n z d = R := ⟨_, rfl⟩
   have hR' : ((rightP fold wss && scanR (nodesL wss).length z 0) && scnP (longL wss) st wm n && decide (0 ≤ d ∧ d ≤ (n : Int))) = R := hR
   have HCL : Hid (∀ V, RowKit.Below V5.heap.size V5 V → (V.cell? ⟨w.heap.size, 0, none⟩ = some (.bool fold) ∧ V.cell? ⟨w.heap.size, 1, none⟩ = some (.slice a la ca)) ∧ (V.cell? ⟨w.heap.size + 1, 0, none⟩ = some (.int .i64 nu) ∧ V.cell? ⟨w.heap.size + 1, 1, none⟩ = some (.int .i64 st) ∧ V.cell? ⟨w.heap.size + 1, 2, none⟩ = some (.int .i64 wm) ∧ V.cell? ⟨w.heap.size + 1, 3, none⟩ = some (.slice b n c)) ∧ (V.cell? ⟨w.heap.size + 1 + 1, 0, none⟩ = some (.int .i64 nu2) ∧ V.cell? ⟨w.heap.size + 1 + 1, 1, none⟩ = some (.int .i64 st2) ∧ V.cell? ⟨w.heap.size + 1 + 1, 2, none⟩ = some (.int .i64 wm2) ∧ V.cell? ⟨w.heap.size + 1 + 1, 3, none⟩ = some (.slice b2 n2 c2)) ∧ (V.cell? ⟨w.heap.size + 1 + 1 + 1, 0, none⟩ = some (.int .i64 z) ∧ V.cell? ⟨w.heap.size + 1 + 1 + 1, 1, none⟩ = some (.int .i64 d)) ∧ (V.cell? ⟨y4, 0, none⟩ = some (.int .i64 z1) ∧ V.cell? ⟨y4, 1, none⟩ = some (.int .i64 d1)) ∧ (V.cell? ⟨y5, 0, none⟩ = some (.int .i64 z1) ∧ V.cell? ⟨y5, 1, none⟩ = some (.int .i64 d1))) := fun V hV => by
    obtain ⟨f_set, f_b, f_c, f_p, f_A, f_D, f_D2, f_bw, f_m, f_s4, f_x4, f_s5, f_x5⟩ := K5.out V hV
    exact ⟨f_set, f_b, f_c, f_p, f_x4, f_x5⟩
   have HS6 : Hid (∀ V, RowKit.Below V5.heap.size V5 V → Calls Tryz.prog 33 #[.slice a4 k1 c4, .slice a5 k1 c5] V fun e w' => e = .returned (.bool true) ∧ RowKit.Below V.heap.size V w') := fun V hV => by
    obtain ⟨f_set, f_b, f_c, f_p, f_A, f_D, f_D2, f_bw, f_m, f_s4, f_x4, f_s5, f_x5⟩ := K5.out V hV
    have h := rsame6_any a4 a5 k1 c4 k1 c5 H1 H1 V f_s4 f_s5 (by omega)
    rw [decide_eq_true rfl] at h
    exact h
   have HR6 : Hid (∀ V, RowKit.Below V5.heap.size V5 V → Calls Tryz.prog 34 #[.pointer p, .agg (blV nu st wm b n c), prV z d] V fun e w' => e = .returned (.bool R) ∧ RowKit.Below V.heap.size V w') := fun V hV => by
    obtain ⟨f_set, f_b, f_c, f_p, f_A, f_D, f_D2, f_bw, f_m, f_s4, f_x4, f_s5, f_x5⟩ := K5.out V hV
    have h := f_m.1.right V f_m.2 nu st wm b n c z d hn9
    rw [hR] at h
    exact h
   have HD6 : Hid (∀ V, RowKit.Below V5.heap.size V5 V → Calls Tryz.prog 35 #[.agg (setV fold a la ca), .agg (blV nu st wm b n c), prV z d] V fun e w' => e = .returned (.bool R) ∧ RowKit.Below V.heap.size V w') := fun V hV => by
    obtain ⟨f_set, f_b, f_c, f_p, f_A, f_D, f_D2, f_bw, f_m, f_s4, f_x4, f_s5, f_x5⟩ := K5.out V hV
    have h := rright20_any fold a la ca nu st wm b n c z d wss V f_A (by omega) HML.out (by omega)
    rw [hR'] at h
    exact h
   clear hR hR'
   refine wp_region_noPanic ?_
   refine wp_region_held_drew (S := RowKit.Below V5.heap.size V5) (by kernel_rfl) (bel_drewN V5 1) (fun hS => ?_)
   obtain ⟨w6, hw6⟩ : ∃ X, X = V5.drew := ⟨_, rfl⟩
   rw [← hw6] at hS ⊢
   clear hw6
   change wpAnyH _ _ _ _ _ 25 _ _ _
   iterate 6 (refine tkF 24 (v := ?_) ?_ ?_; rotate_left; (· intro V hV; obtain ⟨⟨s0, s1⟩, ⟨p0, p1, p2, p3⟩, ⟨r0, r1, r2, r3⟩, ⟨t0, t1⟩, ⟨x0, x1⟩, x2, x3⟩ := HCL.out V hV; first | (go_simp; done) | (go_simp; with_reducible rfl)); try simp only [Act.put, pA, pB, pC])
   refine rdy 6 (fun K hK => ?_)
   go_simp
   go_at_call 33; refine (HS6.out w6 hS).mono ?_; rintro e u6 ⟨rfl, hb6⟩
   refine hK.out _ _ (hS.trans (hb6.mono hS.size)) (fun hS2 => ?_)
   clear hK K
   try simp only [Act.put, pA, pB, pC]
   iterate 11 (refine tkF 24 (v := ?_) ?_ ?_; rotate_left; (· intro V hV; obtain ⟨⟨s0, s1⟩, ⟨p0, p1, p2, p3⟩, ⟨r0, r1, r2, r3⟩, ⟨t0, t1⟩, ⟨x0, x1⟩, x2, x3⟩ := HCL.out V hV; first | (go_simp; done) | (go_simp; with_reducible rfl)); try simp only [Act.put, pA, pB, pC])
   iterate 3 (refine tkF 25 (v := ?_) ?_ ?_; rotate_left; (· intro V hV; obtain ⟨⟨s0, s1⟩, ⟨p0, p1, p2, p3⟩, ⟨r0, r1, r2, r3⟩, ⟨t0, t1⟩, ⟨x0, x1⟩, x2, x3⟩ := HCL.out V hV; first | (go_simp; done) | (go_simp; with_reducible rfl)); try simp only [Act.put, pA, pB, pC])
   refine rdy 18 (fun K hK => ?_)
   go_simp
   go_at_call 34; refine (HR6.out u6 hS2).mono ?_; rintro e u7 ⟨rfl, hb7⟩
   refine hK.out _ _ (hS2.trans (hb7.mono hS2.size)) (fun hS3 => ?_)
   clear hK K
   try simp only [Act.put, pA, pB, pC]
   refine rdy 22 (fun K hK => ?_)
   go_simp
   go_at_call 35; refine (HD6.out u7 hS3).mono ?_; rintro e u8 ⟨rfl, hb8⟩
   refine hK.out _ _ (hS3.trans (hb8.mono hS3.size)) (fun hS4 => ?_)
   clear hK K
   try simp only [Act.put, pA, pB, pC]
   iterate 2 (refine tkF 24 (v := ?_) ?_ ?_; rotate_left; (· intro V hV; first | (go_simp; done) | (go_simp; with_reducible rfl)); try simp only [Act.put, pA, pB, pC])
   refine wpAnyH_done (by kernel_rfl) ?_ _
   refine NoPanic.normal ?_
   clear kz HS6 HR6 HD6 HCL hb6 hb7 hb8 hS hS2 hS3
   have K6 : Hid (∀ V, RowKit.Below u8.heap.size u8 V → (V.cell? ⟨w.heap.size, 0, none⟩ = some (.bool fold) ∧ V.cell? ⟨w.heap.size, 1, none⟩ = some (.slice a la ca)) ∧ (V.cell? ⟨w.heap.size + 1, 0, none⟩ = some (.int .i64 nu) ∧ V.cell? ⟨w.heap.size + 1, 1, none⟩ = some (.int .i64 st) ∧ V.cell? ⟨w.heap.size + 1, 2, none⟩ = some (.int .i64 wm) ∧ V.cell? ⟨w.heap.size + 1, 3, none⟩ = some (.slice b n c)) ∧ (V.cell? ⟨w.heap.size + 1 + 1, 0, none⟩ = some (.int .i64 nu2) ∧ V.cell? ⟨w.heap.size + 1 + 1, 1, none⟩ = some (.int .i64 st2) ∧ V.cell? ⟨w.heap.size + 1 + 1, 2, none⟩ = some (.int .i64 wm2) ∧ V.cell? ⟨w.heap.size + 1 + 1, 3, none⟩ = some (.slice b2 n2 c2)) ∧ (V.cell? ⟨w.heap.size + 1 + 1 + 1, 0, none⟩ = some (.int .i64 z) ∧ V.cell? ⟨w.heap.size + 1 + 1 + 1, 1, none⟩ = some (.int .i64 d)) ∧ Wds V a la wss ∧ Bys V b n bs ∧ Bys V b2 n2 bs2 ∧ RowKit.Below w.heap.size w V ∧ (Mach20 w3 p fold wss ∧ RowKit.Below w3.heap.size w3 V) ∧ Hts V a4 k1 H1 ∧ (V.cell? ⟨y4, 0, none⟩ = some (.int .i64 z1) ∧ V.cell? ⟨y4, 1, none⟩ = some (.int .i64 d1)) ∧ Hts V a5 k1 H1 ∧ (V.cell? ⟨y5, 0, none⟩ = some (.int .i64 z1) ∧ V.cell? ⟨y5, 1, none⟩ = some (.int .i64 d1))) := fun V hV => by
    obtain ⟨f_set, f_b, f_c, f_p, f_A, f_D, f_D2, f_bw, f_m, f_s4, f_x4, f_s5, f_x5⟩ := K5.out V (hS4.trans (hV.mono hS4.size))
    exact ⟨f_set, f_b, f_c, f_p, f_A, f_D, f_D2, f_bw, f_m, f_s4, f_x4, f_s5, f_x5⟩
   clear hS4 K5
   go_upto_region 8 with fail
   obtain ⟨D1, hD1⟩ : ∃ x, whH fold wss st wm bs = x := ⟨_, rfl⟩
   obtain ⟨D2, hD2e⟩ : ∃ x, whH fold wss st2 wm2 bs2 = x := ⟨_, rfl⟩
   have hbd1 := whH_bd (fold := fold) (st := st) (wm := wm) HWS.out HBL.out
   have hbd2 := whH_bd (fold := fold) (st := st2) (wm := wm2) HWS.out HBL2.out
   have hle1 := whH_le (fold := fold) (wss := wss) (st := st) (wm := wm) HBL.out
   have hle2 := whH_le (fold := fold) (wss := wss) (st := st2) (wm := wm2) HBL2.out
   rw [hD1] at hbd1 hle1
   rw [hD2e] at hbd2 hle2
   have HBD1 := Lib.hid hbd1
   have HBD2 := Lib.hid hbd2
   obtain ⟨k2, hk2⟩ : ∃ k, D1.length = k := ⟨_, rfl⟩
   obtain ⟨k3, hk3⟩ : ∃ k, D2.length = k := ⟨_, rfl⟩
   rw [hk2] at hle1
   rw [hk3] at hle2
   have HK2 := Lib.hid hk2
   have HK3 := Lib.hid hk3
   have hk2le : k2 ≤ 360000000 := by omega
   have hk3le : k3 ≤ 360000000 := by omega
   have HCL : Hid (∀ V, RowKit.Below u8.heap.size u8 V → (V.cell? ⟨w.heap.size, 0, none⟩ = some (.bool fold) ∧ V.cell? ⟨w.heap.size, 1, none⟩ = some (.slice a la ca)) ∧ (V.cell? ⟨w.heap.size + 1, 0, none⟩ = some (.int .i64 nu) ∧ V.cell? ⟨w.heap.size + 1, 1, none⟩ = some (.int .i64 st) ∧ V.cell? ⟨w.heap.size + 1, 2, none⟩ = some (.int .i64 wm) ∧ V.cell? ⟨w.heap.size + 1, 3, none⟩ = some (.slice b n c)) ∧ (V.cell? ⟨w.heap.size + 1 + 1, 0, none⟩ = some (.int .i64 nu2) ∧ V.cell? ⟨w.heap.size + 1 + 1, 1, none⟩ = some (.int .i64 st2) ∧ V.cell? ⟨w.heap.size + 1 + 1, 2, none⟩ = some (.int .i64 wm2) ∧ V.cell? ⟨w.heap.size + 1 + 1, 3, none⟩ = some (.slice b2 n2 c2))) := fun V hV => by
    obtain ⟨f_set, f_b, f_c, f_p, f_A, f_D, f_D2, f_bw, f_m, f_s4, f_x4, f_s5, f_x5⟩ := K6.out V hV
    exact ⟨f_set, f_b, f_c⟩
   have HW1 : Hid (∀ V, RowKit.Below u8.heap.size u8 V → Calls Tryz.prog 36 #[.agg (setV fold a la ca), .agg (blV nu st wm b n c)] V fun e w' => ∃ a1 c1, e = .returned (.slice a1 k2 c1) ∧ Hts w' a1 k2 D1 ∧ RowKit.Below V.heap.size V w') := fun V hV => by
    obtain ⟨f_set, f_b, f_c, f_p, f_A, f_D, f_D2, f_bw, f_m, f_s4, f_x4, f_s5, f_x5⟩ := K6.out V hV
    have h := rwhole20_any fold a la ca nu st wm b n c wss bs V f_A f_D hnc hla9 HML.out hn9
    rw [hD1] at h
    refine h.mono ?_
    rintro e w' ⟨v, rfl, ho, hbw⟩
    obtain ⟨a1, c1, rfl, _, hts⟩ := OwnH.hts ho HBD1.out
    rw [hk2] at hts
    exact ⟨a1, c1, by rw [hk2], hts, hbw⟩
   have HW2 : Hid (∀ V, RowKit.Below u8.heap.size u8 V → Calls Tryz.prog 36 #[.agg (setV fold a la ca), .agg (blV nu2 st2 wm2 b2 n2 c2)] V fun e w' => ∃ a1 c1, e = .returned (.slice a1 k3 c1) ∧ Hts w' a1 k3 D2 ∧ RowKit.Below V.heap.size V w') := fun V hV => by
    obtain ⟨f_set, f_b, f_c, f_p, f_A, f_D, f_D2, f_bw, f_m, f_s4, f_x4, f_s5, f_x5⟩ := K6.out V hV
    have h := rwhole20_any fold a la ca nu2 st2 wm2 b2 n2 c2 wss bs2 V f_A f_D2 hnc2 hla9 HML.out hm9
    rw [hD2e] at h
    refine h.mono ?_
    rintro e w' ⟨v, rfl, ho, hbw⟩
    obtain ⟨a1, c1, rfl, _, hts⟩ := OwnH.hts ho HBD2.out
    rw [hk3] at hts
    exact ⟨a1, c1, by rw [hk3], hts, hbw⟩
   clear hbd1 hbd2 hle1 hle2 hk2 hk3
   refine wp_region_noPanic ?_
   refine wp_region_held_drew (S := RowKit.Below u8.heap.size u8) (by kernel_rfl) (bel_drewN u8 1) (fun hS => ?_)
   obtain ⟨w6, hw6⟩ : ∃ X, X = u8.drew := ⟨_, rfl⟩
   rw [← hw6] at hS ⊢
   clear hw6
   change wpAnyH _ _ _ _ _ 8 _ _ _
   iterate 2 (refine tkF 7 (v := ?_) ?_ ?_; rotate_left; (· intro V hV; obtain ⟨⟨s0, s1⟩, ⟨p0, p1, p2, p3⟩, ⟨r0, r1, r2, r3⟩⟩ := HCL.out V hV; first | (go_simp; done) | (go_simp; with_reducible rfl)); try simp only [Act.put, pA, pB, pC])
   iterate 2 (refine tkF 8 (v := ?_) ?_ ?_; rotate_left; (· intro V hV; obtain ⟨⟨s0, s1⟩, ⟨p0, p1, p2, p3⟩, ⟨r0, r1, r2, r3⟩⟩ := HCL.out V hV; first | (go_simp; done) | (go_simp; with_reducible rfl)); try simp only [Act.put, pA, pB, pC])
   refine rdy 2 (fun K hK => ?_)
   go_simp
   go_at_call 36; refine (HW1.out w6 hS).mono ?_; rintro e u9 ⟨a9, c9, rfl, hs9, hb9⟩
   refine hK.out _ _ (hS.trans (hb9.mono hS.size)) (fun hS2 => ?_)
   clear hK K
   try simp only [Act.put, pA, pB, pC]
   refine rdy 5 (fun K hK => ?_)
   go_simp
   go_at_call 36; refine (HW2.out u9 hS2).mono ?_; rintro e u10 ⟨a10, c10, rfl, hs10, hb10⟩
   refine hK.out _ _ (hS2.trans (hb10.mono hS2.size)) (fun hS3 => ?_)
   clear hK K
   try simp only [Act.put, pA, pB, pC]
   iterate 2 (refine tkF 7 (v := ?_) ?_ ?_; rotate_left; (· intro V hV; first | (go_simp; done) | (go_simp; with_reducible rfl)); try simp only [Act.put, pA, pB, pC])
   refine wpAnyH_done (by kernel_rfl) ?_ _
   refine NoPanic.normal ?_
   have hs9' := hs9.below hb10
   clear HW1 HW2 HCL hb9 hb10 hS hS2 hs9
   have K7 : Hid (∀ V, RowKit.Below u10.heap.size u10 V → (V.cell? ⟨w.heap.size, 0, none⟩ = some (.bool fold) ∧ V.cell? ⟨w.heap.size, 1, none⟩ = some (.slice a la ca)) ∧ (V.cell? ⟨w.heap.size + 1, 0, none⟩ = some (.int .i64 nu) ∧ V.cell? ⟨w.heap.size + 1, 1, none⟩ = some (.int .i64 st) ∧ V.cell? ⟨w.heap.size + 1, 2, none⟩ = some (.int .i64 wm) ∧ V.cell? ⟨w.heap.size + 1, 3, none⟩ = some (.slice b n c)) ∧ (V.cell? ⟨w.heap.size + 1 + 1, 0, none⟩ = some (.int .i64 nu2) ∧ V.cell? ⟨w.heap.size + 1 + 1, 1, none⟩ = some (.int .i64 st2) ∧ V.cell? ⟨w.heap.size + 1 + 1, 2, none⟩ = some (.int .i64 wm2) ∧ V.cell? ⟨w.heap.size + 1 + 1, 3, none⟩ = some (.slice b2 n2 c2)) ∧ (V.cell? ⟨w.heap.size + 1 + 1 + 1, 0, none⟩ = some (.int .i64 z) ∧ V.cell? ⟨w.heap.size + 1 + 1 + 1, 1, none⟩ = some (.int .i64 d)) ∧ Wds V a la wss ∧ Bys V b n bs ∧ Bys V b2 n2 bs2 ∧ RowKit.Below w.heap.size w V ∧ (Mach20 w3 p fold wss ∧ RowKit.Below w3.heap.size w3 V) ∧ Hts V a4 k1 H1 ∧ (V.cell? ⟨y4, 0, none⟩ = some (.int .i64 z1) ∧ V.cell? ⟨y4, 1, none⟩ = some (.int .i64 d1)) ∧ Hts V a5 k1 H1 ∧ (V.cell? ⟨y5, 0, none⟩ = some (.int .i64 z1) ∧ V.cell? ⟨y5, 1, none⟩ = some (.int .i64 d1)) ∧ Hts V a9 k2 D1 ∧ Hts V a10 k3 D2) := fun V hV => by
    obtain ⟨f_set, f_b, f_c, f_p, f_A, f_D, f_D2, f_bw, f_m, f_s4, f_x4, f_s5, f_x5⟩ := K6.out V (hS3.trans (hV.mono hS3.size))
    exact ⟨f_set, f_b, f_c, f_p, f_A, f_D, f_D2, f_bw, f_m, f_s4, f_x4, f_s5, f_x5, hs9'.below hV, hs10.below hV⟩
   clear hS3 K6
   clear hs9' hs10
   obtain ⟨f_set, f_b, f_c, f_p, f_A, f_D, f_D2, f_bw, f_m, f_s4, f_x4, f_s5, f_x5, f_s9, f_s10⟩ := K7.out u10 (Below.refl _ _)
   have HT9 := Lib.hid f_s9
   have HT10 := Lib.hid f_s10
   clear f_set f_b f_c f_p f_A f_D f_D2 f_bw f_m f_s4 f_x4 f_s5 f_x5 f_s9 f_s10
   have hown0 : (u10.alloc (.cells #[] 87)).ownsRow u10.heap.size 87 2 (.slice (some ⟨u10.heap.size, 0, none⟩) 0 0) 0 [] := World.ownsRow_lit u10 #[] 0 (Nat.le_refl _) (Nat.zero_le _) rfl
   have hT9 := HT9.out.below (below_alloc u10 (.cells #[] 87))
   have hbA := below_alloc u10 (.cells #[] 87)
   have hsz : u10.heap.size ≤ (u10.alloc (.cells #[] 87)).heap.size := by simp
   obtain ⟨X0, hX0⟩ : ∃ X, X = u10.alloc (.cells #[] 87) := ⟨_, rfl⟩
   have HT10X := HT10.out.below hbA
   have HAPP : Hid (∀ (v1 : Value) (wa : World), wa.ownsRow u10.heap.size 87 2 v1 (0 + k2) ([] ++ hcells D1) → (u10.alloc (.cells #[] 87)).grownBy wa (.slice (some ⟨u10.heap.size, 0, none⟩) 0 0 : Value).ownBlock → RowKit.Below u10.heap.size u10 wa) := fun v1 wa _ hg => hbA.grown hg hsz (fun j hj => (row_lt hown0 j hj).1)
   clear hX0 X0
   go_upto_region 10 with (first | (at_builtin; refine wpList_append_slK rfl _ _ 67 rfl u10.heap.size 87 i0 (.agg #[.int .i64 0, .int .i64 0]) 2 16 Tryz.underlying67 hi hz0 hz1 hz2 rfl (by decide) _ _ _ rfl hown0 a9 k2 c9 (hcells D1) rfl hT9.1 (hcells_one _) (by unfold maxLen; omega) (by omega) hsz ?_; intro v1 wa hown1 hgrow1 hat1; have hb3 := HAPP.out _ _ hown1 hgrow1; rw [Nat.zero_add, List.nil_append] at hown1; obtain ⟨a11, c11, rfl, _, _⟩ := SlK.own hown1; have hT10 := HT10.out.below hb3; clear hown0 hT9 hsz) | (at_builtin; refine wpList_append_slK rfl _ _ 67 rfl u10.heap.size 87 i0 (.agg #[.int .i64 0, .int .i64 0]) 2 16 Tryz.underlying67 hi hz0 hz1 hz2 rfl (by decide) _ _ _ rfl hown1 a10 k3 c10 (hcells D2) rfl hT10.1 (hcells_one _) (by unfold maxLen; omega) (by omega) hb3.size ?_; intro v2 w4 hown2 hgrow2 hat2; clear hT10 hgrow1))
   have hb4 : RowKit.Below u10.heap.size u10 w4 := hb3.grown hgrow2 hb3.size (fun j hj => (row_lt hown1 j hj).1)
   obtain ⟨a12, c12, rfl, _, hsl12⟩ := SlK.own hown2
   rw [← hcells_append] at hsl12
   have hts12 : Hts w4 a12 (k2 + k3) (D1 ++ D2) := ⟨hsl12, fun x hx => by rcases List.mem_append.1 hx with h | h; exact HBD1.out x h; exact HBD2.out x h⟩
   clear hown1 hown2 hgrow2 hat1 hat2 hb3 hbA HAPP HT9 HT10 HT10X hsl12

   have K8 : Hid (∀ V, RowKit.Below w4.heap.size w4 V → (V.cell? ⟨w.heap.size, 0, none⟩ = some (.bool fold) ∧ V.cell? ⟨w.heap.size, 1, none⟩ = some (.slice a la ca)) ∧ (V.cell? ⟨w.heap.size + 1, 0, none⟩ = some (.int .i64 nu) ∧ V.cell? ⟨w.heap.size + 1, 1, none⟩ = some (.int .i64 st) ∧ V.cell? ⟨w.heap.size + 1, 2, none⟩ = some (.int .i64 wm) ∧ V.cell? ⟨w.heap.size + 1, 3, none⟩ = some (.slice b n c)) ∧ (V.cell? ⟨w.heap.size + 1 + 1, 0, none⟩ = some (.int .i64 nu2) ∧ V.cell? ⟨w.heap.size + 1 + 1, 1, none⟩ = some (.int .i64 st2) ∧ V.cell? ⟨w.heap.size + 1 + 1, 2, none⟩ = some (.int .i64 wm2) ∧ V.cell? ⟨w.heap.size + 1 + 1, 3, none⟩ = some (.slice b2 n2 c2)) ∧ (V.cell? ⟨w.heap.size + 1 + 1 + 1, 0, none⟩ = some (.int .i64 z) ∧ V.cell? ⟨w.heap.size + 1 + 1 + 1, 1, none⟩ = some (.int .i64 d)) ∧ Wds V a la wss ∧ Bys V b n bs ∧ Bys V b2 n2 bs2 ∧ RowKit.Below w.heap.size w V ∧ (Mach20 w3 p fold wss ∧ RowKit.Below w3.heap.size w3 V) ∧ Hts V a4 k1 H1 ∧ (V.cell? ⟨y4, 0, none⟩ = some (.int .i64 z1) ∧ V.cell? ⟨y4, 1, none⟩ = some (.int .i64 d1)) ∧ Hts V a5 k1 H1 ∧ (V.cell? ⟨y5, 0, none⟩ = some (.int .i64 z1) ∧ V.cell? ⟨y5, 1, none⟩ = some (.int .i64 d1)) ∧ Hts V a9 k2 D1 ∧ Hts V a10 k3 D2 ∧ Hts V a12 (k2 + k3) (D1 ++ D2)) := fun V hV => by
    obtain ⟨f_set, f_b, f_c, f_p, f_A, f_D, f_D2, f_bw, f_m, f_s4, f_x4, f_s5, f_x5, f_s9, f_s10⟩ := K7.out V (hb4.trans (hV.mono hb4.size))
    exact ⟨f_set, f_b, f_c, f_p, f_A, f_D, f_D2, f_bw, f_m, f_s4, f_x4, f_s5, f_x5, f_s9, f_s10, hts12.below hV⟩
   clear hb4 K7
   clear hts12
   obtain ⟨f_set, f_b, f_c, f_p, f_A, f_D, f_D2, f_bw, f_m, f_s4, f_x4, f_s5, f_x5, f_s9, f_s10, f_s12⟩ := K8.out w4 (Below.refl _ _)
   obtain ⟨s0, s1⟩ := f_set
   obtain ⟨p0, p1, p2, p3⟩ := f_b
   obtain ⟨r0, r1, r2, r3⟩ := f_c
   obtain ⟨t0, t1⟩ := f_p
   have HC := Lib.hid (he_whole f_m.1 f_m.2 nu st wm b n c bs f_D hn9 hD1 HBD1.out HK2.out)
   clear f_A f_D f_D2 f_bw f_m f_s4 f_x4 f_s5 f_x5 f_s9 f_s10 f_s12
   go_wp2_with fail
   refine HC.out.mono ?_
   rintro e u13 ⟨a13, c13, rfl, hs13, hb13⟩
   clear HC s0 s1 p0 p1 p2 p3 r0 r1 r2 r3 t0 t1
   have K9 : Hid (∀ V, RowKit.Below u13.heap.size u13 V → (V.cell? ⟨w.heap.size, 0, none⟩ = some (.bool fold) ∧ V.cell? ⟨w.heap.size, 1, none⟩ = some (.slice a la ca)) ∧ (V.cell? ⟨w.heap.size + 1, 0, none⟩ = some (.int .i64 nu) ∧ V.cell? ⟨w.heap.size + 1, 1, none⟩ = some (.int .i64 st) ∧ V.cell? ⟨w.heap.size + 1, 2, none⟩ = some (.int .i64 wm) ∧ V.cell? ⟨w.heap.size + 1, 3, none⟩ = some (.slice b n c)) ∧ (V.cell? ⟨w.heap.size + 1 + 1, 0, none⟩ = some (.int .i64 nu2) ∧ V.cell? ⟨w.heap.size + 1 + 1, 1, none⟩ = some (.int .i64 st2) ∧ V.cell? ⟨w.heap.size + 1 + 1, 2, none⟩ = some (.int .i64 wm2) ∧ V.cell? ⟨w.heap.size + 1 + 1, 3, none⟩ = some (.slice b2 n2 c2)) ∧ (V.cell? ⟨w.heap.size + 1 + 1 + 1, 0, none⟩ = some (.int .i64 z) ∧ V.cell? ⟨w.heap.size + 1 + 1 + 1, 1, none⟩ = some (.int .i64 d)) ∧ Wds V a la wss ∧ Bys V b n bs ∧ Bys V b2 n2 bs2 ∧ RowKit.Below w.heap.size w V ∧ (Mach20 w3 p fold wss ∧ RowKit.Below w3.heap.size w3 V) ∧ Hts V a4 k1 H1 ∧ (V.cell? ⟨y4, 0, none⟩ = some (.int .i64 z1) ∧ V.cell? ⟨y4, 1, none⟩ = some (.int .i64 d1)) ∧ Hts V a5 k1 H1 ∧ (V.cell? ⟨y5, 0, none⟩ = some (.int .i64 z1) ∧ V.cell? ⟨y5, 1, none⟩ = some (.int .i64 d1)) ∧ Hts V a9 k2 D1 ∧ Hts V a10 k3 D2 ∧ Hts V a12 (k2 + k3) (D1 ++ D2) ∧ Hts V a13 k2 D1) := fun V hV => by
    obtain ⟨f_set, f_b, f_c, f_p, f_A, f_D, f_D2, f_bw, f_m, f_s4, f_x4, f_s5, f_x5, f_s9, f_s10, f_s12⟩ := K8.out V (hb13.trans (hV.mono hb13.size))
    exact ⟨f_set, f_b, f_c, f_p, f_A, f_D, f_D2, f_bw, f_m, f_s4, f_x4, f_s5, f_x5, f_s9, f_s10, f_s12, hs13.below hV⟩
   clear hb13 K8
   clear hs13
   obtain ⟨f_set, f_b, f_c, f_p, f_A, f_D, f_D2, f_bw, f_m, f_s4, f_x4, f_s5, f_x5, f_s9, f_s10, f_s12, f_s13⟩ := K9.out u13 (Below.refl _ _)
   have HC := rsame6_any a13 a9 k2 c13 k2 c9 D1 D1 u13 f_s13 f_s9 (by omega)
   rw [decide_eq_true rfl] at HC
   have HC := Lib.hid HC
   clear f_set f_b f_c f_p f_A f_D f_D2 f_bw f_m f_s4 f_x4 f_s5 f_x5 f_s9 f_s10 f_s12 f_s13
   go_wp2_with fail
   refine HC.out.mono ?_
   rintro e u14 ⟨rfl, hb14⟩
   clear HC
   have K10 : Hid (∀ V, RowKit.Below u14.heap.size u14 V → (V.cell? ⟨w.heap.size, 0, none⟩ = some (.bool fold) ∧ V.cell? ⟨w.heap.size, 1, none⟩ = some (.slice a la ca)) ∧ (V.cell? ⟨w.heap.size + 1, 0, none⟩ = some (.int .i64 nu) ∧ V.cell? ⟨w.heap.size + 1, 1, none⟩ = some (.int .i64 st) ∧ V.cell? ⟨w.heap.size + 1, 2, none⟩ = some (.int .i64 wm) ∧ V.cell? ⟨w.heap.size + 1, 3, none⟩ = some (.slice b n c)) ∧ (V.cell? ⟨w.heap.size + 1 + 1, 0, none⟩ = some (.int .i64 nu2) ∧ V.cell? ⟨w.heap.size + 1 + 1, 1, none⟩ = some (.int .i64 st2) ∧ V.cell? ⟨w.heap.size + 1 + 1, 2, none⟩ = some (.int .i64 wm2) ∧ V.cell? ⟨w.heap.size + 1 + 1, 3, none⟩ = some (.slice b2 n2 c2)) ∧ (V.cell? ⟨w.heap.size + 1 + 1 + 1, 0, none⟩ = some (.int .i64 z) ∧ V.cell? ⟨w.heap.size + 1 + 1 + 1, 1, none⟩ = some (.int .i64 d)) ∧ Wds V a la wss ∧ Bys V b n bs ∧ Bys V b2 n2 bs2 ∧ RowKit.Below w.heap.size w V ∧ (Mach20 w3 p fold wss ∧ RowKit.Below w3.heap.size w3 V) ∧ Hts V a4 k1 H1 ∧ (V.cell? ⟨y4, 0, none⟩ = some (.int .i64 z1) ∧ V.cell? ⟨y4, 1, none⟩ = some (.int .i64 d1)) ∧ Hts V a5 k1 H1 ∧ (V.cell? ⟨y5, 0, none⟩ = some (.int .i64 z1) ∧ V.cell? ⟨y5, 1, none⟩ = some (.int .i64 d1)) ∧ Hts V a9 k2 D1 ∧ Hts V a10 k3 D2 ∧ Hts V a12 (k2 + k3) (D1 ++ D2) ∧ Hts V a13 k2 D1) := fun V hV => by
    obtain ⟨f_set, f_b, f_c, f_p, f_A, f_D, f_D2, f_bw, f_m, f_s4, f_x4, f_s5, f_x5, f_s9, f_s10, f_s12, f_s13⟩ := K9.out V (hb14.trans (hV.mono hb14.size))
    exact ⟨f_set, f_b, f_c, f_p, f_A, f_D, f_D2, f_bw, f_m, f_s4, f_x4, f_s5, f_x5, f_s9, f_s10, f_s12, f_s13⟩
   clear hb14 K9
   obtain ⟨f_set, f_b, f_c, f_p, f_A, f_D, f_D2, f_bw, f_m, f_s4, f_x4, f_s5, f_x5, f_s9, f_s10, f_s12, f_s13⟩ := K10.out u14 (Below.refl _ _)
   obtain ⟨s0, s1⟩ := f_set
   obtain ⟨p0, p1, p2, p3⟩ := f_b
   obtain ⟨r0, r1, r2, r3⟩ := f_c
   obtain ⟨t0, t1⟩ := f_p
   obtain ⟨A, hA⟩ : ∃ X, X = u14.alloc (.cells #[.int .i64 nu, .int .i64 st, .int .i64 wm, .slice b n c, .int .i64 nu2, .int .i64 st2, .int .i64 wm2, .slice b2 n2 c2] 60) := ⟨_, rfl⟩
   have hL : Bls A (some ⟨u14.heap.size, 0, none⟩) 2 [⟨nu, st, wm, b, n, c, bs⟩, ⟨nu2, st2, wm2, b2, n2, c2, bs2⟩] := by rw [hA]; exact bls2 ⟨f_D, hn9⟩ ⟨f_D2, hm9⟩
   have hbA : RowKit.Below u14.heap.size u14 A := by rw [hA]; exact below_alloc _ _
   have hwo : woH fold wss [⟨nu, st, wm, b, n, c, bs⟩, ⟨nu2, st2, wm2, b2, n2, c2, bs2⟩] = D1 ++ D2 := by
    show whH fold wss st wm bs ++ (whH fold wss st2 wm2 bs2 ++ []) = _
    rw [hD1, hD2e, List.append_nil]
   have hsum : ∀ k, (woH fold wss (([⟨nu, st, wm, b, n, c, bs⟩, ⟨nu2, st2, wm2, b2, n2, c2, bs2⟩] : List BlkP).take k)).length ≤ 1000000000 := fun k => by
    match k with
    | 0 => exact Nat.zero_le _
    | 1 =>
     show (whH fold wss st wm bs ++ []).length ≤ _
     rw [hD1, List.append_nil, HK2.out]
     omega
    | k + 2 =>
     have e : ([⟨nu, st, wm, b, n, c, bs⟩, ⟨nu2, st2, wm2, b2, n2, c2, bs2⟩] : List BlkP).take (k + 2) = [⟨nu, st, wm, b, n, c, bs⟩, ⟨nu2, st2, wm2, b2, n2, c2, bs2⟩] := by simp
     rw [e, hwo, List.length_append, HK2.out, HK3.out]
     omega
   have HC := he_whoever f_m.1 HWS.out (f_m.2.trans (hbA.mono f_m.2.size)) _ 2 2 _ hL (by decide) hsum hwo (fun x hx => by rcases List.mem_append.1 hx with h | h; exact HBD1.out x h; exact HBD2.out x h) (by rw [List.length_append, HK2.out, HK3.out])
   rw [hA] at HC
   have HC := Lib.hid HC
   have HA := Lib.hid hA
   clear hL hwo hsum hA
   clear f_A f_D f_D2 f_bw f_m f_s4 f_x4 f_s5 f_x5 f_s9 f_s10 f_s12 f_s13
   go_wp2_with fail
   refine HC.out.mono ?_
   rintro e u15 ⟨a15, c15, rfl, hs15, hb15⟩
   rw [← HA.out] at hb15
   have hbs15 := hbA.trans (hb15.mono hbA.size)
   clear HC HA hb15 hbA s0 s1 p0 p1 p2 p3 r0 r1 r2 r3 t0 t1
   have K11 : Hid (∀ V, RowKit.Below u15.heap.size u15 V → (V.cell? ⟨w.heap.size, 0, none⟩ = some (.bool fold) ∧ V.cell? ⟨w.heap.size, 1, none⟩ = some (.slice a la ca)) ∧ (V.cell? ⟨w.heap.size + 1, 0, none⟩ = some (.int .i64 nu) ∧ V.cell? ⟨w.heap.size + 1, 1, none⟩ = some (.int .i64 st) ∧ V.cell? ⟨w.heap.size + 1, 2, none⟩ = some (.int .i64 wm) ∧ V.cell? ⟨w.heap.size + 1, 3, none⟩ = some (.slice b n c)) ∧ (V.cell? ⟨w.heap.size + 1 + 1, 0, none⟩ = some (.int .i64 nu2) ∧ V.cell? ⟨w.heap.size + 1 + 1, 1, none⟩ = some (.int .i64 st2) ∧ V.cell? ⟨w.heap.size + 1 + 1, 2, none⟩ = some (.int .i64 wm2) ∧ V.cell? ⟨w.heap.size + 1 + 1, 3, none⟩ = some (.slice b2 n2 c2)) ∧ (V.cell? ⟨w.heap.size + 1 + 1 + 1, 0, none⟩ = some (.int .i64 z) ∧ V.cell? ⟨w.heap.size + 1 + 1 + 1, 1, none⟩ = some (.int .i64 d)) ∧ Wds V a la wss ∧ Bys V b n bs ∧ Bys V b2 n2 bs2 ∧ RowKit.Below w.heap.size w V ∧ (Mach20 w3 p fold wss ∧ RowKit.Below w3.heap.size w3 V) ∧ Hts V a4 k1 H1 ∧ (V.cell? ⟨y4, 0, none⟩ = some (.int .i64 z1) ∧ V.cell? ⟨y4, 1, none⟩ = some (.int .i64 d1)) ∧ Hts V a5 k1 H1 ∧ (V.cell? ⟨y5, 0, none⟩ = some (.int .i64 z1) ∧ V.cell? ⟨y5, 1, none⟩ = some (.int .i64 d1)) ∧ Hts V a9 k2 D1 ∧ Hts V a10 k3 D2 ∧ Hts V a12 (k2 + k3) (D1 ++ D2) ∧ Hts V a13 k2 D1 ∧ Hts V a15 (k2 + k3) (D1 ++ D2)) := fun V hV => by
    obtain ⟨f_set, f_b, f_c, f_p, f_A, f_D, f_D2, f_bw, f_m, f_s4, f_x4, f_s5, f_x5, f_s9, f_s10, f_s12, f_s13⟩ := K10.out V (hbs15.trans (hV.mono hbs15.size))
    exact ⟨f_set, f_b, f_c, f_p, f_A, f_D, f_D2, f_bw, f_m, f_s4, f_x4, f_s5, f_x5, f_s9, f_s10, f_s12, f_s13, hs15.below hV⟩
   clear hbs15 K10
   clear hs15
   obtain ⟨f_set, f_b, f_c, f_p, f_A, f_D, f_D2, f_bw, f_m, f_s4, f_x4, f_s5, f_x5, f_s9, f_s10, f_s12, f_s13, f_s15⟩ := K11.out u15 (Below.refl _ _)
   have HC := rsame6_any a15 a12 (k2 + k3) c15 (k2 + k3) c12 (D1 ++ D2) (D1 ++ D2) u15 f_s15 f_s12 (by omega)
   rw [decide_eq_true rfl] at HC
   have HC := Lib.hid HC
   have HBW := Lib.hid f_bw
   clear f_set f_b f_c f_p f_A f_D f_D2 f_bw f_m f_s4 f_x4 f_s5 f_x5 f_s9 f_s10 f_s12 f_s13 f_s15
   go_wp2_with fail
   refine HC.out.mono ?_
   rintro e u16 ⟨rfl, hb16⟩
   clear HC
   have HB16 := Lib.hid (HBW.out.trans (hb16.mono HBW.out.size))
   clear hb16
   go_wp2_with fail
   refine (wakes20 _).mono ?_
   rintro e w9 ⟨rfl, hb9⟩
   go_wp2
   go_ret
   exact ⟨rfl, HB16.out.trans (hb9.mono HB16.out.size)⟩
end Go.Proofs.YtbldfgaogmfoaaaGreat
