/- What the law's walk takes besides: Fx, QH, QF, QG. -/
import Derived.Lib.MinMax
import Derived.Test.YtbldfgaogmfoaaaGreatZP1
import Derived.Test.YtbldfgaogmfoaaaGreatZP2
import Derived.Test.YtbldfgaogmfoaaaGreatZP3
import Derived.Test.YtbldfgaogmfoaaaGreatZP4
import Derived.Test.YtbldfgaogmfoaaaGreatZP5
import Derived.Test.YtbldfgaogmfoaaaGreatZP6
import Derived.Test.YtbldfgaogmfoaaaGreatZP7
import Derived.Test.YtbldfgaogmfoaaaGreatZP8
import Derived.Test.YtbldfgaogmfoaaaGreatZP9
import Derived.Test.YtbldfgaogmfoaaaGreatZP10
import Derived.Test.YtbldfgaogmfoaaaGreatZP11
import Derived.Test.YtbldfgaogmfoaaaGreatZP12
import Derived.Test.YtbldfgaogmfoaaaGreatZP13
import Derived.Test.YtbldfgaogmfoaaaGreatZP14
import Derived.Test.YtbldfgaogmfoaaaGreatZP15
import Derived.Test.YtbldfgaogmfoaaaGreatZP16
import Derived.Test.YtbldfgaogmfoaaaGreatZP17
import Derived.Test.YtbldfgaogmfoaaaGreatZP18
set_option linter.unusedVariables false
set_option linter.unusedSimpArgs false

namespace Go.Proofs.YtbldfgaogmfoaaaGreat
open Go.ChangeShapes Go.WideShapes Go.ChangeAt Go.RowKit Go.Joins Go.Deep
set_option maxRecDepth 100000

section
variable {H : Type} {enc : TypeId × Value → H} {W : World} {r : Reach} {base : Nat} {d : DataW H} {p : List MemPlace} {v : Value}

theorem open_sl_ints (hv : Value.okWide Tryz.prog W r base 32 v) (h : DataW.Trod enc Tryz.prog W 0 (fun _ => true) true 32 v d p) :
  ∃ (a : Option Addr) (len cap : Nat) (zs : List Int), v = .slice a len cap ∧ Sl1 (Value.int .i64) W a len zs ∧ ∀ z ∈ zs, I64 z := by
 obtain ⟨a, len, cap, rfl⟩ := okWide_slice Tryz.underlying32 hv
 refine ⟨a, len, cap, ?_⟩
 obtain ⟨fuel, hf⟩ := h
 rcases open_ints Tryz.underlying32 Tryz.underlying3 (by kernel_rfl) hf with ⟨hcs, _⟩ | ⟨x, l, c, zs, hcs, _, hl, hm, hz, _, hcell, hwz⟩
 ·
  simp [Value.cells] at hcs
  obtain ⟨rfl, rfl, rfl⟩ := hcs
  exact ⟨[], rfl, ⟨rfl, .inl rfl⟩, fun z hz => by cases hz⟩
 ·
  simp [Value.cells] at hcs
  obtain ⟨rfl, rfl, rfl⟩ := hcs
  have hz' : zs.length = cap := by simpa using hz
  refine ⟨zs.take len, rfl, ⟨by simp; omega, ?_⟩, fun z hz => wf_i64 (hwz z (List.mem_of_mem_take hz))⟩
  by_cases h0 : len = 0
  · exact .inl h0
  ·
   right
   obtain ⟨b, off, spot⟩ := x
   have hc := hcell 0 (by omega)
   have hspot : spot = none := by simpa [Addr.add] using World.cell?_spot hc
   subst hspot
   refine ⟨b, off, rfl, ?_, ?_⟩
   ·
    have := World.block_lt_of_cell? W _ hc
    simpa [Addr.add] using this
   ·
    intro i x hx
    have hi : i < len := by have := (List.getElem?_eq_some_iff.1 hx).1; simp at this; omega
    have h1 := hcell i (by omega)
    rw [Addr.add_lit] at h1
    rw [h1]
    rw [List.getElem?_take, if_pos hi] at hx
    simp [hx]
end
end Go.Proofs.YtbldfgaogmfoaaaGreat

namespace Go.Proofs.YtbldfgaogmfoaaaGreat
open Go.RowKit Go.Sort

/-- The node behind so many bytes of a block; the hits told of them. -/
def prZ (fold : Bool) (wss : List (List Int)) (bs : List Int) (d : Nat) : Nat := feedZ fold wss 0 (bs.take d)
def prH (fold : Bool) (wss : List (List Int)) (st wm : Int) (bs : List Int) (d : Nat) : List HitP := ownB20 st (scanH fold wss 0 (st - wm) (bs.take d))
section
variable {fold : Bool} {wss : List (List Int)} {st wm : Int} {bs : List Int}
theorem take_slc {d : Nat} {m : Int} (hd : d ≤ bs.length) : bs.take (d + takeN bs.length d m) = bs.take d ++ slcF bs d m := by
 unfold slcF
 rw [Int.toNat_natCast, List.take_add]
theorem prZ_lt (h : prbD fold wss st wm bs.length 0 0 = true) (d : Nat) : prZ fold wss bs d < (nodesL wss).length := feedZ_lt (by have := (prbD_parts h).2.2.1; omega) _
theorem prb_ok (h : prbD fold wss st wm bs.length 0 0 = true) {d : Nat} (hd : d ≤ bs.length) : prbD fold wss st wm bs.length (prZ fold wss bs d) d = true := by
 obtain ⟨h1, h2, _⟩ := prbD_parts h
 have h3 := prZ_lt h d
 unfold prbD scanR
 rw [h1, h2, decide_eq_true (show (0 : Int) ≤ (d : Int) ∧ (d : Int) ≤ (bs.length : Int) by omega), decide_eq_true (show ((0 : Int) ≤ (prZ fold wss bs d : Int) ∧ (prZ fold wss bs d : Int) < ((nodesL wss).length : Int)) ∧ (0 : Int) ≤ 0 ∧ (0 : Int) ≤ 4611686020574871551 by omega)]
 rfl
theorem prb_step (h : prbD fold wss st wm bs.length 0 0 = true) {d : Nat} (hd : d ≤ bs.length) (m : Int) :
  slZ fold wss st wm bs (prZ fold wss bs d) d m = (prZ fold wss bs (d + takeN bs.length d m) : Nat) ∧ slD fold wss st wm bs (prZ fold wss bs d) d m = ((d + takeN bs.length d m : Nat) : Int) ∧
  prH fold wss st wm bs d ++ slH fold wss st wm bs (prZ fold wss bs d) d m = prH fold wss st wm bs (d + takeN bs.length d m) ∧ slO fold wss st wm bs (prZ fold wss bs d) d m = (((d + takeN bs.length d m : Nat) : Int) == (bs.length : Int)) ∧ d + takeN bs.length d m ≤ bs.length := by
 have hp := prb_ok h hd
 have ht := takeN_le (n := bs.length) (d := (d : Int)) (m := m) (by omega) (by omega)
 rw [Int.toNat_natCast] at ht
 unfold slZ slD slH slO
 rw [if_pos hp, if_pos hp, if_pos hp, if_pos hp]
 refine ⟨?_, by omega, ?_, ?_, ht⟩
 ·
  unfold prZ
  rw [take_slc hd, feedZ_append, Int.toNat_natCast]
 ·
  unfold prH slcH
  rw [take_slc hd, scanH_append, ownB20_append, List.length_take, Nat.min_eq_left hd, Int.toNat_natCast]
  rfl
 ·
  rw [show (d : Int) + ((takeN bs.length d m : Nat) : Int) = ((d + takeN bs.length d m : Nat) : Int) by omega]
  rfl
theorem prb_none (h : prbD fold wss st wm bs.length 0 0 = true) (m : Int) : takeN bs.length bs.length m = 0 ∧ slH fold wss st wm bs (prZ fold wss bs bs.length) bs.length m = [] := by
 have ht : takeN bs.length (bs.length : Int) m = 0 := by unfold takeN; omega
 refine ⟨ht, ?_⟩
 have h3 := (prb_step h (Nat.le_refl _) m).2.2.1
 rw [ht, Nat.add_zero] at h3
 have h4 := congrArg List.length h3
 rw [List.length_append] at h4
 exact List.eq_nil_of_length_eq_zero (by omega)
theorem prb_whole (h : prbD fold wss st wm bs.length 0 0 = true) : whH fold wss st wm bs = prH fold wss st wm bs bs.length := by
 have h3 := (prb_step h (Nat.zero_le _) (bs.length : Int)).2.2.1
 have ht : takeN bs.length ((0 : Nat) : Int) (bs.length : Int) = bs.length := by unfold takeN; omega
 rw [ht, Nat.zero_add] at h3
 rw [← h3]
 rfl
theorem prH_len (h : prbD fold wss st wm bs.length 0 0 = true) (hb : bs.length ≤ 900000) (d : Nat) : (prH fold wss st wm bs d).length ≤ 360000000 := by
 obtain ⟨h1, _, ⟨h2, h3⟩, _⟩ := prbD_parts h
 have h4 : (nodesL wss).length ≤ 400 := read_n (readP_iff.2 ⟨right_false h1, rfl, rfl⟩)
 unfold prH ownB20
 refine Nat.le_trans (List.length_filter_le _ _) (Nat.le_trans (scanH_len _ _ _ (by omega)) (Nat.le_trans (Nat.mul_le_mul h4 (show (bs.take d).length ≤ 900000 from ?_)) (by decide)))
 rw [List.length_take]
 omega
end
end Go.Proofs.YtbldfgaogmfoaaaGreat

namespace Go.Proofs.YtbldfgaogmfoaaaGreat
open Go.RowKit Go.Sort

theorem probe_fields : ((Tryz.prog.fieldsOf 62).toList.map fun f => (f.name, f.type, f.offset)) = [("Node", 3, 0), ("Done", 3, 1)] := by kernel_rfl
theorem equalIn_probe (x y : Int × Int) (W : World) : (Op.equalIn 10000 62 (.agg #[.int .i64 x.1, .int .i64 x.2]) (.agg #[.int .i64 y.1, .int .i64 y.2])).run Tryz.prog W = .ok (decide (x = y)) W := by
 rw [run_equalIn_agg W 9999 62 _ _ (by kernel_rfl) (by kernel_rfl)]
 rw [eqFields_map 9999 _ _ _ [⟨ "Node", 3, 0, false, "", "", 0⟩, ⟨ "Done", 3, 1, false, "", "", 0⟩] probe_fields]
 have h0 : ∀ W : World, (part 3 #[.int .i64 x.1, .int .i64 x.2] 0).run Tryz.prog W = .ok (.int .i64 x.1) W := fun W => by kernel_rfl
 have h1 : ∀ W : World, (part 3 #[.int .i64 x.1, .int .i64 x.2] 1).run Tryz.prog W = .ok (.int .i64 x.2) W := fun W => by kernel_rfl
 have g0 : ∀ W : World, (part 3 #[.int .i64 y.1, .int .i64 y.2] 0).run Tryz.prog W = .ok (.int .i64 y.1) W := fun W => by kernel_rfl
 have g1 : ∀ W : World, (part 3 #[.int .i64 y.1, .int .i64 y.2] 1).run Tryz.prog W = .ok (.int .i64 y.2) W := fun W => by kernel_rfl
 simp only [Op.eqFields, Sem.run_bind, Sem.run_ite, Sem.run_pure, h0, h1, g0, g1, Result.andThen_ok, run_equalIn_int _ _ _ _ _ _ _ Tryz.underlying3]
 obtain ⟨a, b⟩ := x
 obtain ⟨c, d⟩ := y
 by_cases e1 : a = c <;> by_cases e2 : b = d <;> simp [e1, e2]
theorem eql_probe (x y : Int × Int) (W : World) : (binOp .eql 62 (.agg #[.int .i64 x.1, .int .i64 x.2]) (.agg #[.int .i64 y.1, .int .i64 y.2])).run Tryz.prog W = .ok (.bool (decide (x = y))) W := by
 rw [run_eql_struct, equalIn_probe]
 rfl
theorem slH_le {fold : Bool} {wss : List (List Int)} {st wm : Int} {bs : List Int} {z d m : Int} (hb : bs.length ≤ 900000) : (slH fold wss st wm bs z d m).length ≤ 400 * 900000 := by
 cases hr : rightP fold wss with
 | false =>
  unfold slH
  rw [prbD_no hr]
  simp
 | true =>
  have h1 : (nodesL wss).length ≤ 400 := read_n (readP_iff.2 ⟨right_false hr, rfl, rfl⟩)
  exact Nat.le_trans slH_len (Nat.mul_le_mul h1 hb)
theorem whH_bd {fold : Bool} {wss : List (List Int)} {st wm : Int} {bs : List Int} (hw : wss.length ≤ 1000000) (hb : bs.length ≤ 900000) : ∀ h ∈ whH fold wss st wm bs, I64 h.1 ∧ I64 h.2 := slH_bd hw hb

end Go.Proofs.YtbldfgaogmfoaaaGreat

namespace Go.Proofs.YtbldfgaogmfoaaaGreat
open Go.RowKit Go.Sort

set_option maxRecDepth 100000 in
set_option maxHeartbeats 16000000 in
theorem probeSlices_walk (fold : Bool) (a : Option Addr) (la ca : Nat) (nu st wm : Int) (b : Option Addr) (n c : Nat) (sa : Option Addr) (ls cs : Nat) (wss : List (List Int)) (bs zs : List Int) (w : World)
  (hA : Wds w a la wss) (hD : Bys w b n bs) (hZ : Sl1 (Value.int .i64) w sa ls zs) (hZb : ∀ z ∈ zs, I64 z) :
  Calls Tryz.prog 9 #[.agg (setV fold a la ca), .agg (blV nu st wm b n c), .slice sa ls cs] w fun e w' => e = .returned (.bool true) ∧ Below w.heap.size w w' := by
 obtain ⟨i0, hi, hz0, hz1, hz2⟩ := info_parts hit_info
 have HLEN := Lib.hid hA.len
 have hDl : bs.length = n := hD.len
 subst hDl
 have hZl : zs.length = ls := hZ.1
 have HZB := Lib.hid hZb
 obtain ⟨W, hW⟩ : ∃ W, W = (w.alloc (.cells (setV fold a la ca) 24)).alloc (.cells (blV nu st wm b bs.length c) 60) := ⟨_, rfl⟩
 have hB : Below w.heap.size w W := by rw [hW]; exact ((Below.refl _ _).alloc (Nat.le_refl _) _).alloc (by simp) _
 have hO : Bx w.heap.size [.cells (setV fold a la ca) 24, .cells (blV nu st wm b bs.length c) 60] W := by rw [hW]; exact ((Bx.nil _ w).snoc _ rfl).snoc _ (by simp)
 have K0 : Hid (∀ V, RowKit.Below W.heap.size W V → (V.cell? ⟨w.heap.size, 0, none⟩ = some (.bool fold) ∧ V.cell? ⟨w.heap.size, 1, none⟩ = some (.slice a la ca)) ∧ (V.cell? ⟨w.heap.size + 1, 0, none⟩ = some (.int .i64 nu) ∧ V.cell? ⟨w.heap.size + 1, 1, none⟩ = some (.int .i64 st) ∧ V.cell? ⟨w.heap.size + 1, 2, none⟩ = some (.int .i64 wm) ∧ V.cell? ⟨w.heap.size + 1, 3, none⟩ = some (.slice b bs.length c)) ∧ Wds V a la wss ∧ Bys V b bs.length bs ∧ Sl1 (Value.int .i64) V sa ls zs ∧ RowKit.Below w.heap.size w V) := fun V hV => by
   have h := hO.below hV
   have h1 := hB.trans (hV.mono hB.size)
   exact ⟨⟨h.cell (i := 0) rfl rfl, h.cell (i := 0) rfl rfl⟩, ⟨h.cell (i := 1) rfl rfl, h.cell (i := 1) rfl rfl, h.cell (i := 1) rfl rfl, h.cell (i := 1) rfl rfl⟩, hA.below h1, hD.below h1, hZ.below h1, h1⟩
 obtain ⟨f_set, f_b, f_A, f_D, f_Z, f_bw⟩ := K0.out W (Below.refl _ _)
 obtain ⟨s0, s1⟩ := f_set
 obtain ⟨p0, p1, p2, p3⟩ := f_b
 obtain ⟨G1, hG1⟩ : ∃ G, (greatP wss || decide (400 < bs.length)) = G := ⟨_, rfl⟩
 have HG1 := great20_any fold a b la ca bs.length c nu st wm wss W f_A
 rw [hG1] at HG1
 have HG1 := Lib.hid HG1
 clear f_A f_D f_Z f_bw hO hB hA hD hZ hZb
 go_enter Tryz.func9, Tryz.ntmps9
 go_upto_region 1 with fail
 rw [← hW]
 clear hW
 go_wp2_with fail
 refine HG1.out.mono ?_
 rintro e w1 ⟨rfl, hb1⟩
 clear HG1 s0 s1 p0 p1 p2 p3
 have K1 : Hid (∀ V, RowKit.Below w1.heap.size w1 V → (V.cell? ⟨w.heap.size, 0, none⟩ = some (.bool fold) ∧ V.cell? ⟨w.heap.size, 1, none⟩ = some (.slice a la ca)) ∧ (V.cell? ⟨w.heap.size + 1, 0, none⟩ = some (.int .i64 nu) ∧ V.cell? ⟨w.heap.size + 1, 1, none⟩ = some (.int .i64 st) ∧ V.cell? ⟨w.heap.size + 1, 2, none⟩ = some (.int .i64 wm) ∧ V.cell? ⟨w.heap.size + 1, 3, none⟩ = some (.slice b bs.length c)) ∧ Wds V a la wss ∧ Bys V b bs.length bs ∧ Sl1 (Value.int .i64) V sa ls zs ∧ RowKit.Below w.heap.size w V) := fun V hV => by
  obtain ⟨f_set, f_b, f_A, f_D, f_Z, f_bw⟩ := K0.out V (hb1.trans (hV.mono hb1.size))
  exact ⟨f_set, f_b, f_A, f_D, f_Z, f_bw⟩
 clear hb1 K0
 cases G1 with
 | true =>
  obtain ⟨f_set, f_b, f_A, f_D, f_Z, f_bw⟩ := K1.out w1 (Below.refl _ _)
  have HBW := Lib.hid f_bw
  clear f_set f_b f_A f_D f_Z f_bw
  go_wp2_with fail
  refine (wakes20 _).mono ?_
  rintro e w9 ⟨rfl, hb9⟩
  go_wp2
  go_ret
  exact ⟨rfl, HBW.out.trans (hb9.mono HBW.out.size)⟩
 | false =>
  by_cases hls : 60 < ls
  case pos =>
   have d1 : decide ((60 : Int) < (ls : Int)) = true := by simp; omega
   obtain ⟨f_set, f_b, f_A, f_D, f_Z, f_bw⟩ := K1.out w1 (Below.refl _ _)
   have HBW := Lib.hid f_bw
   clear f_set f_b f_A f_D f_Z f_bw
   go_wp2_with fail
   refine (wakes20 _).mono ?_
   rintro e w9 ⟨rfl, hb9⟩
   go_wp2
   go_ret
   exact ⟨rfl, HBW.out.trans (hb9.mono HBW.out.size)⟩
  have d1 : decide ((60 : Int) < (ls : Int)) = false := by simp; omega
  obtain ⟨hgr, hn4⟩ := Bool.or_eq_false_iff.1 hG1
  have hn4' := of_decide_eq_false hn4
  obtain ⟨gg1, gg2, gg3⟩ := gr8_bd hgr fold
  rw [HLEN.out] at gg1
  have hM : ∀ x ∈ wss, x.length ≤ 1000000 := fun x hx => by have := gg2 x hx; omega
  have hbg : (begL fold wss).length ≤ 1000000 := by omega
  have HML := Lib.hid hM
  have HBG := Lib.hid hbg
  have hws : wss.length ≤ 1000000 := by rw [HLEN.out]; omega
  have HWS := Lib.hid hws
  have hn9 : bs.length ≤ 900000 := by omega
  have hla9 : la ≤ 1000 := by omega
  obtain ⟨R, hR⟩ : ∃ R, prbD fold wss st wm bs.length 0 0 = R := ⟨_, rfl⟩
  have hR' : ((rightP fold wss && scanR (nodesL wss).length 0 0) && scnP (longL wss) st wm bs.length && decide ((0 : Int) ≤ 0 ∧ (0 : Int) ≤ (bs.length : Int))) = R := hR
  obtain ⟨f_set, f_b, f_A, f_D, f_Z, f_bw⟩ := K1.out w1 (Below.refl _ _)
  obtain ⟨s0, s1⟩ := f_set
  obtain ⟨p0, p1, p2, p3⟩ := f_b
  have HC := rright20_any fold a la ca nu st wm b bs.length c 0 0 wss w1 f_A (by omega) HML.out (by omega)
  rw [hR'] at HC
  have HC := Lib.hid HC
  clear f_A f_D f_Z f_bw hgr hn4 hn4' gg1 gg2 gg3 hM hws hbg hR' hG1
  go_wp2_with fail
  refine HC.out.mono ?_
  rintro e w2 ⟨rfl, hb2⟩
  clear HC d1 s0 s1 p0 p1 p2 p3
  have K2 : Hid (∀ V, RowKit.Below w2.heap.size w2 V → (V.cell? ⟨w.heap.size, 0, none⟩ = some (.bool fold) ∧ V.cell? ⟨w.heap.size, 1, none⟩ = some (.slice a la ca)) ∧ (V.cell? ⟨w.heap.size + 1, 0, none⟩ = some (.int .i64 nu) ∧ V.cell? ⟨w.heap.size + 1, 1, none⟩ = some (.int .i64 st) ∧ V.cell? ⟨w.heap.size + 1, 2, none⟩ = some (.int .i64 wm) ∧ V.cell? ⟨w.heap.size + 1, 3, none⟩ = some (.slice b bs.length c)) ∧ Wds V a la wss ∧ Bys V b bs.length bs ∧ Sl1 (Value.int .i64) V sa ls zs ∧ RowKit.Below w.heap.size w V) := fun V hV => by
   obtain ⟨f_set, f_b, f_A, f_D, f_Z, f_bw⟩ := K1.out V (hb2.trans (hV.mono hb2.size))
   exact ⟨f_set, f_b, f_A, f_D, f_Z, f_bw⟩
  clear hb2 K1
  cases R with
  | false =>
   obtain ⟨f_set, f_b, f_A, f_D, f_Z, f_bw⟩ := K2.out w2 (Below.refl _ _)
   have HBW := Lib.hid f_bw
   clear f_set f_b f_A f_D f_Z f_bw
   go_wp2_with fail
   refine (wakes20 _).mono ?_
   rintro e w9 ⟨rfl, hb9⟩
   go_wp2
   go_ret
   exact ⟨rfl, HBW.out.trans (hb9.mono HBW.out.size)⟩
  | true =>
   have HR := Lib.hid hR
   obtain ⟨hr, hscn, _⟩ := prbD_parts hR
   obtain ⟨f_set, f_b, f_A, f_D, f_Z, f_bw⟩ := K2.out w2 (Below.refl _ _)
   obtain ⟨s0, s1⟩ := f_set
   obtain ⟨p0, p1, p2, p3⟩ := f_b
   have HC := Lib.hid (compile13_use fold a la ca wss w2 f_A (by omega) HML.out HBG.out hr)
   have HRR := Lib.hid hr
   clear f_A f_D f_Z f_bw hR hr hscn
   go_upto_region 4 with (go_at_call 30; refine HC.out.mono ?_; rintro e w3 ⟨B, rfl, hU⟩)
   have hm20 := mach20_use hU HRR.out
   have hb3 := hU.bel
   clear HC hU s0 s1 p0 p1 p2 p3
   have K3 : Hid (∀ V, RowKit.Below w3.heap.size w3 V → (V.cell? ⟨w.heap.size, 0, none⟩ = some (.bool fold) ∧ V.cell? ⟨w.heap.size, 1, none⟩ = some (.slice a la ca)) ∧ (V.cell? ⟨w.heap.size + 1, 0, none⟩ = some (.int .i64 nu) ∧ V.cell? ⟨w.heap.size + 1, 1, none⟩ = some (.int .i64 st) ∧ V.cell? ⟨w.heap.size + 1, 2, none⟩ = some (.int .i64 wm) ∧ V.cell? ⟨w.heap.size + 1, 3, none⟩ = some (.slice b bs.length c)) ∧ Wds V a la wss ∧ Bys V b bs.length bs ∧ Sl1 (Value.int .i64) V sa ls zs ∧ RowKit.Below w.heap.size w V) := fun V hV => by
    obtain ⟨f_set, f_b, f_A, f_D, f_Z, f_bw⟩ := K2.out V (hb3.trans (hV.mono hb3.size))
    exact ⟨f_set, f_b, f_A, f_D, f_Z, f_bw⟩
   clear hb3 K2
   have HM20 := Lib.hid hm20
   clear hm20
   go_upto_region 7 with fail
   have hx : (w3.alloc (.cells #[.int .i64 0, .int .i64 0] 62)).heap[w3.heap.size]? = some (.cells #[.int .i64 0, .int .i64 0] 62 (0, 0)) := World.alloc_heap_new _ _
   have hb4 := below_alloc w3 (.cells #[.int .i64 0, .int .i64 0] 62)
   obtain ⟨V4, hV4⟩ : ∃ X, X = w3.alloc (.cells #[.int .i64 0, .int .i64 0] 62) := ⟨_, rfl⟩
   rw [← hV4] at hx hb4 ⊢
   obtain ⟨y, hy⟩ : ∃ k, w3.heap.size = k := ⟨_, rfl⟩
   rw [hy] at hx ⊢
   have HY := Lib.hid hy
   clear hV4 hy
   have HPL : Hid (∀ d, (prH fold wss st wm bs d).length ≤ 360000000) := fun d => prH_len HR.out hn9 d
   go_loopw [10, 11] (fun s10 s11 wr => ∃ i d : Nat, i ≤ ls + 1 ∧ s11 = .int .i64 (i : Int) ∧ d ≤ bs.length ∧ (i = ls + 1 → d = bs.length) ∧ Hid (OwnH wr (y + 1) s10 (prH fold wss st wm bs d)) ∧ Hid (wr.heap[y]? = some (.cells #[.int .i64 ((prZ fold wss bs d : Nat) : Int), .int .i64 (d : Int)] 62 (0, 0))) ∧ Hid (RowKit.Below w3.heap.size w3 wr)) (fun _ s _ => ls + 1 - (intOf s).toNat)
   case atStart => exact ⟨0, 0, Nat.zero_le _, rfl, Nat.zero_le _, by omega, World.ownsRow_nil _ _ _ _, hx, hb4⟩
   case round =>
    clear hx hb4
    obtain ⟨i, d, hil, rfl, hdn, hfin, HO, HY1, HBr⟩ := hrel
    obtain ⟨f_set, f_b, f_A, f_D, f_Z, f_bw⟩ := K3.out wr HBr.out
    obtain ⟨s0, s1⟩ := f_set
    obtain ⟨p0, p1, p2, p3⟩ := f_b
    have hy1 := HY1.out
    have t0 : wr.cell? ⟨y, 0, none⟩ = some (.int .i64 ((prZ fold wss bs d : Nat) : Int)) := by simp [World.cell?, hy1]
    have t1 : wr.cell? ⟨y, 1, none⟩ = some (.int .i64 (d : Int)) := by simp [World.cell?, hy1]
    have hil2 : (i : Int) ≤ (ls : Int) + 1 := by omega
    clear hy1
    by_cases hin : i ≤ ls
    case neg =>
     obtain rfl : i = ls + 1 := by omega
     obtain rfl : d = bs.length := hfin rfl
     have hd : decide (((ls + 1 : Nat) : Int) ≤ (ls : Int)) = false := by simp; omega

     have J0 : Hid (∀ V, RowKit.Below wr.heap.size wr V → (V.cell? ⟨w.heap.size, 0, none⟩ = some (.bool fold) ∧ V.cell? ⟨w.heap.size, 1, none⟩ = some (.slice a la ca)) ∧ (V.cell? ⟨w.heap.size + 1, 0, none⟩ = some (.int .i64 nu) ∧ V.cell? ⟨w.heap.size + 1, 1, none⟩ = some (.int .i64 st) ∧ V.cell? ⟨w.heap.size + 1, 2, none⟩ = some (.int .i64 wm) ∧ V.cell? ⟨w.heap.size + 1, 3, none⟩ = some (.slice b bs.length c)) ∧ Wds V a la wss ∧ Bys V b bs.length bs ∧ RowKit.Below w.heap.size w V ∧ (Mach20 w3 (some ⟨B, 0, none⟩) fold wss ∧ RowKit.Below w3.heap.size w3 V)) := fun V hV => by
           have h3 := HBr.out.trans (hV.mono HBr.out.size)
           obtain ⟨f_set, f_b, f_A, f_D, f_Z, f_bw⟩ := K3.out V h3
           exact ⟨f_set, f_b, f_A, f_D, f_bw, ⟨HM20.out, h3⟩⟩
     have hst := prb_step HR.out (Nat.le_refl bs.length) 1
     obtain ⟨hn0, hn1⟩ := prb_none HR.out 1
     rw [hn0, Nat.add_zero] at hst
     obtain ⟨e1, e2, _, e4, _⟩ := hst
     have e4' : slO fold wss st wm bs (prZ fold wss bs bs.length) bs.length 1 = true := by rw [e4]; simp
     have hwh := prb_whole HR.out
     have hpl := HPL.out bs.length
     have hbd := whH_bd (fold := fold) (st := st) (wm := wm) HWS.out hn9
     rw [hwh] at hbd
     obtain ⟨Z1, hZ1⟩ : ∃ x, prZ fold wss bs bs.length = x := ⟨_, rfl⟩
     obtain ⟨P, hP⟩ : ∃ x, prH fold wss st wm bs bs.length = x := ⟨_, rfl⟩
     obtain ⟨k, hk⟩ : ∃ x, P.length = x := ⟨_, rfl⟩
     rw [hZ1] at e1 e2 hn1 e4' t0 HY1
     rw [hP] at HO hwh hpl hbd
     rw [hk] at hpl
     have HBD := Lib.hid hbd
     have HK := Lib.hid hk
     obtain ⟨f_set, f_b, f_A, f_D, f_bw, f_m⟩ := J0.out wr (Below.refl _ _)
     have HC := Lib.hid (he_slice f_m.1 f_m.2 nu st wm b bs.length c bs Z1 bs.length 1 f_D hn9 (by decide) ⟨e1, e2, hn1, e4'⟩ i64_0 rfl)
     have HWH := Lib.hid hwh
     obtain ⟨a10, c10, rfl, _, hs10⟩ := OwnH.hts HO.out HBD.out
     rw [hk] at hs10 ⊢
     have HS10 := Lib.hid hs10
     have HYY := HY1
     clear f_set f_b f_A f_D f_bw f_m e1 e2 e4 e4' hn0 hn1 hwh hbd hZ1 hP hk hs10 HO HY1 hin hil hil2 hfin
     go_upto_region 18 with (go_at_call 31; refine HC.out.mono ?_; rintro e u1 ⟨a1, c1, rfl, hs1, hb1⟩)
     obtain ⟨V5, hV5⟩ : ∃ X, X = u1.alloc (.cells #[.int .i64 (Z1 : Int), .int .i64 (bs.length : Int)] 62) := ⟨_, rfl⟩
     have hx5 : V5.heap[u1.heap.size]? = some (.cells #[.int .i64 (Z1 : Int), .int .i64 (bs.length : Int)] 62 (0, 0)) := by rw [hV5]; exact World.alloc_heap_new _ _
     have hbx5 : RowKit.Below u1.heap.size u1 V5 := by rw [hV5]; exact below_alloc _ _
     rw [← hV5]
     obtain ⟨y5, hy5⟩ : ∃ k, u1.heap.size = k := ⟨_, rfl⟩
     have hbs5 := hb1.trans (hbx5.mono hb1.size)
     rw [hy5] at hx5 ⊢
     clear HC hV5 hbx5 hy5 hb1 hs1 hd s0 s1 p0 p1 p2 p3 t0 t1
     have J1 : Hid (∀ V, RowKit.Below V5.heap.size V5 V → (V.cell? ⟨w.heap.size, 0, none⟩ = some (.bool fold) ∧ V.cell? ⟨w.heap.size, 1, none⟩ = some (.slice a la ca)) ∧ (V.cell? ⟨w.heap.size + 1, 0, none⟩ = some (.int .i64 nu) ∧ V.cell? ⟨w.heap.size + 1, 1, none⟩ = some (.int .i64 st) ∧ V.cell? ⟨w.heap.size + 1, 2, none⟩ = some (.int .i64 wm) ∧ V.cell? ⟨w.heap.size + 1, 3, none⟩ = some (.slice b bs.length c)) ∧ Wds V a la wss ∧ Bys V b bs.length bs ∧ RowKit.Below w.heap.size w V ∧ (Mach20 w3 (some ⟨B, 0, none⟩) fold wss ∧ RowKit.Below w3.heap.size w3 V) ∧ (V.cell? ⟨y5, 0, none⟩ = some (.int .i64 (Z1 : Int)) ∧ V.cell? ⟨y5, 1, none⟩ = some (.int .i64 (bs.length : Int))) ∧ (V.cell? ⟨y, 0, none⟩ = some (.int .i64 (Z1 : Int)) ∧ V.cell? ⟨y, 1, none⟩ = some (.int .i64 (bs.length : Int))) ∧ Hts V a10 k P) := fun V hV => by
      obtain ⟨f_set, f_b, f_A, f_D, f_bw, f_m⟩ := J0.out V (hbs5.trans (hV.mono hbs5.size))
      exact ⟨f_set, f_b, f_A, f_D, f_bw, f_m, (by have h := (hV.block y5 (Array.getElem?_eq_some_iff.1 hx5).1).trans hx5; exact ⟨by simp [World.cell?, h], by simp [World.cell?, h]⟩), (by have hV2 := hbs5.trans (hV.mono hbs5.size); have h := (hV2.block y (Array.getElem?_eq_some_iff.1 HYY.out).1).trans HYY.out; exact ⟨by simp [World.cell?, h], by simp [World.cell?, h]⟩), HS10.out.below (hbs5.trans (hV.mono hbs5.size))⟩
     clear hbs5 J0
     clear hx5
     obtain ⟨f_set, f_b, f_A, f_D, f_bw, f_m, f_x5, f_y, f_s10⟩ := J1.out V5 (Below.refl _ _)
     obtain ⟨s0, s1⟩ := f_set
     obtain ⟨p0, p1, p2, p3⟩ := f_b
     have HC := Lib.hid (he_whole f_m.1 f_m.2 nu st wm b bs.length c bs f_D hn9 HWH.out HBD.out HK.out)
     clear f_A f_D f_bw f_m f_x5 f_y f_s10
     go_wp2_with fail
     refine HC.out.mono ?_
     rintro e u2 ⟨a2, c2, rfl, hs2, hb2⟩
     clear HC s0 s1 p0 p1 p2 p3
     have J2 : Hid (∀ V, RowKit.Below u2.heap.size u2 V → (V.cell? ⟨w.heap.size, 0, none⟩ = some (.bool fold) ∧ V.cell? ⟨w.heap.size, 1, none⟩ = some (.slice a la ca)) ∧ (V.cell? ⟨w.heap.size + 1, 0, none⟩ = some (.int .i64 nu) ∧ V.cell? ⟨w.heap.size + 1, 1, none⟩ = some (.int .i64 st) ∧ V.cell? ⟨w.heap.size + 1, 2, none⟩ = some (.int .i64 wm) ∧ V.cell? ⟨w.heap.size + 1, 3, none⟩ = some (.slice b bs.length c)) ∧ Wds V a la wss ∧ Bys V b bs.length bs ∧ RowKit.Below w.heap.size w V ∧ (Mach20 w3 (some ⟨B, 0, none⟩) fold wss ∧ RowKit.Below w3.heap.size w3 V) ∧ (V.cell? ⟨y5, 0, none⟩ = some (.int .i64 (Z1 : Int)) ∧ V.cell? ⟨y5, 1, none⟩ = some (.int .i64 (bs.length : Int))) ∧ (V.cell? ⟨y, 0, none⟩ = some (.int .i64 (Z1 : Int)) ∧ V.cell? ⟨y, 1, none⟩ = some (.int .i64 (bs.length : Int))) ∧ Hts V a10 k P ∧ Hts V a2 k P) := fun V hV => by
      obtain ⟨f_set, f_b, f_A, f_D, f_bw, f_m, f_x5, f_y, f_s10⟩ := J1.out V (hb2.trans (hV.mono hb2.size))
      exact ⟨f_set, f_b, f_A, f_D, f_bw, f_m, f_x5, f_y, f_s10, hs2.below hV⟩
     clear hb2 J1
     clear hs2
     obtain ⟨f_set, f_b, f_A, f_D, f_bw, f_m, f_x5, f_y, f_s10, f_s2⟩ := J2.out u2 (Below.refl _ _)
     have HC := rsame6_any a10 a2 k c10 k c2 P P u2 f_s10 f_s2 (by omega)
     rw [decide_eq_true rfl] at HC
     have HC := Lib.hid HC
     clear f_set f_b f_A f_D f_bw f_m f_x5 f_y f_s10 f_s2
     go_wp2_with fail
     refine HC.out.mono ?_
     rintro e u3 ⟨rfl, hb3⟩
     clear HC
     have J3 : Hid (∀ V, RowKit.Below u3.heap.size u3 V → (V.cell? ⟨w.heap.size, 0, none⟩ = some (.bool fold) ∧ V.cell? ⟨w.heap.size, 1, none⟩ = some (.slice a la ca)) ∧ (V.cell? ⟨w.heap.size + 1, 0, none⟩ = some (.int .i64 nu) ∧ V.cell? ⟨w.heap.size + 1, 1, none⟩ = some (.int .i64 st) ∧ V.cell? ⟨w.heap.size + 1, 2, none⟩ = some (.int .i64 wm) ∧ V.cell? ⟨w.heap.size + 1, 3, none⟩ = some (.slice b bs.length c)) ∧ Wds V a la wss ∧ Bys V b bs.length bs ∧ RowKit.Below w.heap.size w V ∧ (Mach20 w3 (some ⟨B, 0, none⟩) fold wss ∧ RowKit.Below w3.heap.size w3 V) ∧ (V.cell? ⟨y5, 0, none⟩ = some (.int .i64 (Z1 : Int)) ∧ V.cell? ⟨y5, 1, none⟩ = some (.int .i64 (bs.length : Int))) ∧ (V.cell? ⟨y, 0, none⟩ = some (.int .i64 (Z1 : Int)) ∧ V.cell? ⟨y, 1, none⟩ = some (.int .i64 (bs.length : Int))) ∧ Hts V a10 k P ∧ Hts V a2 k P) := fun V hV => by
      obtain ⟨f_set, f_b, f_A, f_D, f_bw, f_m, f_x5, f_y, f_s10, f_s2⟩ := J2.out V (hb3.trans (hV.mono hb3.size))
      exact ⟨f_set, f_b, f_A, f_D, f_bw, f_m, f_x5, f_y, f_s10, f_s2⟩
     clear hb3 J2
     obtain ⟨f_set, f_b, f_A, f_D, f_bw, f_m, f_x5, f_y, f_s10, f_s2⟩ := J3.out u3 (Below.refl _ _)
     obtain ⟨x0, x1⟩ := f_x5
     obtain ⟨y0, y1⟩ := f_y
     have kz : ∀ W, (binOp .eql 62 (.agg #[.int .i64 (Z1 : Int), .int .i64 (bs.length : Int)]) (.agg #[.int .i64 (Z1 : Int), .int .i64 (bs.length : Int)])).run Tryz.prog W = .ok (.bool true) W := fun W => by have h := eql_probe ((Z1 : Int), (bs.length : Int)) ((Z1 : Int), (bs.length : Int)) W; rw [decide_eq_true rfl] at h; exact h
     have HBW := Lib.hid f_bw
     clear f_set f_b f_A f_D f_bw f_m f_s10 f_s2
     go_wp2_with fail
     refine (wakes20 _).mono ?_
     rintro e w9 ⟨rfl, hb9⟩
     go_wp2
     go_ret
     exact ⟨rfl, HBW.out.trans (hb9.mono HBW.out.size)⟩
    have hd : decide ((i : Int) ≤ (ls : Int)) = true := by simp; omega
    by_cases hi2 : i < ls
    case neg =>
     obtain rfl : ls = i := by omega
     have hd2 : decide ((ls : Int) < (ls : Int)) = false := by simp
     have hmb : -9223372036854775808 ≤ (bs.length : Int) ∧ (bs.length : Int) ≤ 9223372036854775807 := by omega
     have J0 : Hid (∀ V, RowKit.Below wr.heap.size wr V → (V.cell? ⟨w.heap.size, 0, none⟩ = some (.bool fold) ∧ V.cell? ⟨w.heap.size, 1, none⟩ = some (.slice a la ca)) ∧ (V.cell? ⟨w.heap.size + 1, 0, none⟩ = some (.int .i64 nu) ∧ V.cell? ⟨w.heap.size + 1, 1, none⟩ = some (.int .i64 st) ∧ V.cell? ⟨w.heap.size + 1, 2, none⟩ = some (.int .i64 wm) ∧ V.cell? ⟨w.heap.size + 1, 3, none⟩ = some (.slice b bs.length c)) ∧ Wds V a la wss ∧ Bys V b bs.length bs ∧ RowKit.Below w.heap.size w V ∧ (Mach20 w3 (some ⟨B, 0, none⟩) fold wss ∧ RowKit.Below w3.heap.size w3 V)) := fun V hV => by
           have h3 := HBr.out.trans (hV.mono HBr.out.size)
           obtain ⟨f_set, f_b, f_A, f_D, f_Z, f_bw⟩ := K3.out V h3
           exact ⟨f_set, f_b, f_A, f_D, f_bw, ⟨HM20.out, h3⟩⟩
     obtain ⟨e1, e2, e3, e4, e5⟩ := prb_step HR.out hdn (bs.length : Int)
     have hcast := takeN_cast (m := (bs.length : Int)) (show (d : Int) ≤ (bs.length : Int) by omega)
     have hok := prb_ok HR.out e5
     have hbd := slH_bd (fold := fold) (st := st) (wm := wm) (z := (prZ fold wss bs d : Nat)) (d := (d : Int)) (m := (bs.length : Int)) HWS.out hn9
     have hle := slH_le (fold := fold) (wss := wss) (st := st) (wm := wm) (bs := bs) (z := (prZ fold wss bs d : Nat)) (d := (d : Int)) (m := (bs.length : Int)) hn9
     have hpl := HPL.out d
     obtain ⟨T, hT⟩ : ∃ x, takeN bs.length (d : Int) (bs.length : Int) = x := ⟨_, rfl⟩
     rw [hT] at e1 e2 e3 e4 e5 hcast hok
     obtain ⟨H1, hH1⟩ : ∃ x, slH fold wss st wm bs (prZ fold wss bs d : Nat) d (bs.length : Int) = x := ⟨_, rfl⟩
     rw [hH1] at e3 hbd hle
     obtain ⟨k, hk⟩ : ∃ x, H1.length = x := ⟨_, rfl⟩
     rw [hk] at hle
     obtain ⟨d2, hd2⟩ : ∃ x, d + T = x := ⟨_, rfl⟩
     rw [hd2] at e1 e2 e3 e4 e5 hok
     have hd2i : (d : Int) + (T : Int) = (d2 : Int) := by omega
     have HFN : Hid (d2 = bs.length) := by rw [Hid, ← hd2, ← hT]; unfold takeN; omega
     obtain ⟨Z1, hZ1⟩ : ∃ x, prZ fold wss bs d = x := ⟨_, rfl⟩
     obtain ⟨Z2, hZ2⟩ : ∃ x, prZ fold wss bs d2 = x := ⟨_, rfl⟩
     rw [hZ1] at e1 e2 e4 hH1 t0 HY1
     rw [hZ2] at e1 hok
     have HBD := Lib.hid hbd
     have HK := Lib.hid hk
     obtain ⟨f_set, f_b, f_A, f_D, f_bw, f_m⟩ := J0.out wr (Below.refl _ _)
     have HC := Lib.hid (he_slice f_m.1 f_m.2 nu st wm b bs.length c bs Z1 d (bs.length : Int) f_D hn9 hmb ⟨e1, e2, hH1, e4⟩ hbd hk)
     have E3 := Lib.hid e3
     have HZ2 := Lib.hid hZ2
     have HOK := Lib.hid hok
     have HDI := Lib.hid hd2i
     have HCA := Lib.hid hcast
     have HYY := HY1
     clear f_set f_b f_A f_D f_bw f_m e1 e2 e4 e3 hbd hH1 hk hZ1 hZ2 hok hT hd2 hd2i hcast
     go_upto_region 13 with (go_at_call 31; refine HC.out.mono ?_; rintro e u1 ⟨a1, c1, rfl, hs1, hb1⟩)
     obtain ⟨V5, hV5⟩ : ∃ X, X = u1.alloc (.cells #[.int .i64 (Z2 : Int), .int .i64 (d2 : Int)] 62) := ⟨_, rfl⟩
     have hx5 : V5.heap[u1.heap.size]? = some (.cells #[.int .i64 (Z2 : Int), .int .i64 (d2 : Int)] 62 (0, 0)) := by rw [hV5]; exact World.alloc_heap_new _ _
     have hbx5 : RowKit.Below u1.heap.size u1 V5 := by rw [hV5]; exact below_alloc _ _
     rw [← hV5]
     obtain ⟨y5, hy5⟩ : ∃ k, u1.heap.size = k := ⟨_, rfl⟩
     have hbs5 := hb1.trans (hbx5.mono hb1.size)
     have hs5 := hs1.below hbx5
     rw [hy5] at hx5 ⊢
     have hy5y : y < y5 := by have h := (Array.getElem?_eq_some_iff.1 HYY.out).1; have := hb1.size; omega
     clear HC hV5 hbx5 hy5 hb1 hs1 s0 s1 p0 p1 p2 p3 t0 t1
     have J1 : Hid (∀ V, RowKit.Below V5.heap.size V5 V → (V.cell? ⟨w.heap.size, 0, none⟩ = some (.bool fold) ∧ V.cell? ⟨w.heap.size, 1, none⟩ = some (.slice a la ca)) ∧ (V.cell? ⟨w.heap.size + 1, 0, none⟩ = some (.int .i64 nu) ∧ V.cell? ⟨w.heap.size + 1, 1, none⟩ = some (.int .i64 st) ∧ V.cell? ⟨w.heap.size + 1, 2, none⟩ = some (.int .i64 wm) ∧ V.cell? ⟨w.heap.size + 1, 3, none⟩ = some (.slice b bs.length c)) ∧ Wds V a la wss ∧ Bys V b bs.length bs ∧ RowKit.Below w.heap.size w V ∧ (Mach20 w3 (some ⟨B, 0, none⟩) fold wss ∧ RowKit.Below w3.heap.size w3 V) ∧ (V.cell? ⟨y5, 0, none⟩ = some (.int .i64 (Z2 : Int)) ∧ V.cell? ⟨y5, 1, none⟩ = some (.int .i64 (d2 : Int))) ∧ V.heap[y5]? = some (.cells #[.int .i64 (Z2 : Int), .int .i64 (d2 : Int)] 62 (0, 0)) ∧ V.heap[y]? = some (.cells #[.int .i64 (Z1 : Int), .int .i64 (d : Int)] 62 (0, 0)) ∧ Hts V a1 k H1 ∧ OwnH V (y + 1) u10 (prH fold wss st wm bs d)) := fun V hV => by
      obtain ⟨f_set, f_b, f_A, f_D, f_bw, f_m⟩ := J0.out V (hbs5.trans (hV.mono hbs5.size))
      exact ⟨f_set, f_b, f_A, f_D, f_bw, f_m, (by have h := (hV.block y5 (Array.getElem?_eq_some_iff.1 hx5).1).trans hx5; exact ⟨by simp [World.cell?, h], by simp [World.cell?, h]⟩), (hV.block y5 (Array.getElem?_eq_some_iff.1 hx5).1).trans hx5, ((hbs5.trans (hV.mono hbs5.size)).block y (Array.getElem?_eq_some_iff.1 HYY.out).1).trans HYY.out, hs5.below hV, own_below_ HO.out (hbs5.trans (hV.mono hbs5.size))⟩
     clear hbs5 J0
     clear hx5 hs5
     obtain ⟨f_set, f_b, f_A, f_D, f_bw, f_m, f_x5, f_xb, f_y, f_s1, f_own⟩ := J1.out V5 (Below.refl _ _)
     obtain ⟨s0, s1⟩ := f_set
     obtain ⟨p0, p1, p2, p3⟩ := f_b
     obtain ⟨x0, x1⟩ := f_x5
     have t0 : V5.cell? ⟨y, 0, none⟩ = some (.int .i64 (Z1 : Int)) := by simp [World.cell?, f_y]
     have t1 : V5.cell? ⟨y, 1, none⟩ = some (.int .i64 (d : Int)) := by simp [World.cell?, f_y]
     have HC := f_m.1.right V5 f_m.2 nu st wm b bs.length c Z2 d2 hn9
     rw [HOK.out] at HC
     have HC := Lib.hid HC
     have hca := HCA.out
     have hdi := HDI.out
     have kw1 : IntKind.i64.wrap ((bs.length : Int) - (d : Int)) = (bs.length : Int) - (d : Int) := by rw [IntKind.wrap_i64]; omega
     have kw2 : IntKind.i64.wrap ((d : Int) + min (max (bs.length : Int) 0) ((bs.length : Int) - (d : Int))) = (d2 : Int) := by rw [hca, hdi, IntKind.wrap_i64]; omega
     have kw3 : (d : Int) + min (max (bs.length : Int) 0) ((bs.length : Int) - (d : Int)) = (d2 : Int) := by rw [hca, hdi]
     have kw4 : IntKind.i64.wrap ((d : Int) + min (bs.length : Int) ((bs.length : Int) - (d : Int))) = (d2 : Int) := by rw [IntKind.wrap_i64]; omega
     have kw5 : (d : Int) + min (bs.length : Int) ((bs.length : Int) - (d : Int)) = (d2 : Int) := by omega
     clear hca hdi
     clear f_A f_D f_bw f_m f_xb f_y f_s1 f_own
     go_wp2_with fail
     refine HC.out.mono ?_
     rintro e u2 ⟨rfl, hb2⟩
     clear HC kw1 kw2 kw3 kw4 kw5 s0 s1 p0 p1 p2 p3 x0 x1 t0 t1
     have J2 : Hid (∀ V, RowKit.Below u2.heap.size u2 V → (V.cell? ⟨w.heap.size, 0, none⟩ = some (.bool fold) ∧ V.cell? ⟨w.heap.size, 1, none⟩ = some (.slice a la ca)) ∧ (V.cell? ⟨w.heap.size + 1, 0, none⟩ = some (.int .i64 nu) ∧ V.cell? ⟨w.heap.size + 1, 1, none⟩ = some (.int .i64 st) ∧ V.cell? ⟨w.heap.size + 1, 2, none⟩ = some (.int .i64 wm) ∧ V.cell? ⟨w.heap.size + 1, 3, none⟩ = some (.slice b bs.length c)) ∧ Wds V a la wss ∧ Bys V b bs.length bs ∧ RowKit.Below w.heap.size w V ∧ (Mach20 w3 (some ⟨B, 0, none⟩) fold wss ∧ RowKit.Below w3.heap.size w3 V) ∧ (V.cell? ⟨y5, 0, none⟩ = some (.int .i64 (Z2 : Int)) ∧ V.cell? ⟨y5, 1, none⟩ = some (.int .i64 (d2 : Int))) ∧ V.heap[y5]? = some (.cells #[.int .i64 (Z2 : Int), .int .i64 (d2 : Int)] 62 (0, 0)) ∧ V.heap[y]? = some (.cells #[.int .i64 (Z1 : Int), .int .i64 (d : Int)] 62 (0, 0)) ∧ Hts V a1 k H1 ∧ OwnH V (y + 1) u10 (prH fold wss st wm bs d)) := fun V hV => by
      obtain ⟨f_set, f_b, f_A, f_D, f_bw, f_m, f_x5, f_xb, f_y, f_s1, f_own⟩ := J1.out V (hb2.trans (hV.mono hb2.size))
      exact ⟨f_set, f_b, f_A, f_D, f_bw, f_m, f_x5, f_xb, f_y, f_s1, f_own⟩
     clear hb2 J1
     obtain ⟨f_set, f_b, f_A, f_D, f_bw, f_m, f_x5, f_xb, f_y, f_s1, f_own⟩ := J2.out u2 (Below.refl _ _)
     obtain ⟨s0, s1⟩ := f_set
     obtain ⟨p0, p1, p2, p3⟩ := f_b
     obtain ⟨x0, x1⟩ := f_x5
     have t0 : u2.cell? ⟨y, 0, none⟩ = some (.int .i64 (Z1 : Int)) := by simp [World.cell?, f_y]
     have t1 : u2.cell? ⟨y, 1, none⟩ = some (.int .i64 (d : Int)) := by simp [World.cell?, f_y]
     obtain ⟨P, hP⟩ : ∃ x, prH fold wss st wm bs d = x := ⟨_, rfl⟩
     rw [hP] at f_own hpl
     have E3' := E3.out
     rw [hP] at E3'
     obtain ⟨kp, hkp⟩ : ∃ x, P.length = x := ⟨_, rfl⟩
     have hown : u2.ownsRow (y + 1) 87 2 u10 kp (hcells P) := by unfold OwnH at f_own; rwa [hkp] at f_own
     rw [hkp] at hpl
     obtain ⟨a10, c10, rfl, _, _⟩ := SlK.own hown
     have HKP := Lib.hid hkp
     have E4 := Lib.hid E3'
     have HOW := Lib.hid hown
     have HT1 := Lib.hid f_s1
     have HYU := Lib.hid f_y
     have HX5 : Hid (u2.heap[y5]? = some (.cells #[.int .i64 (Z2 : Int), .int .i64 (d2 : Int)] 62 (0, 0))) := f_xb
     have HM2 := Lib.hid f_m.2
     have hyu : y + 1 ≤ u2.heap.size := (Array.getElem?_eq_some_iff.1 f_y).1
     clear f_A f_D f_bw f_m f_xb f_y f_s1 f_own E3 E3' hP hkp hown HO J2 s0 s1 p0 p1 p2 p3 x0 x1 t0 t1
     go_upto_region 16 with (at_builtin; refine wpList_append_slK rfl _ _ 67 rfl (y + 1) 87 i0 (.agg #[.int .i64 0, .int .i64 0]) 2 16 Tryz.underlying67 hi hz0 hz1 hz2 rfl (by decide) (.slice a10 kp c10) kp (hcells P) rfl HOW.out a1 k c1 (hcells H1) rfl HT1.out.1 (hcells_one _) (by unfold maxLen; omega) (by omega) hyu ?_; intro v' w5 hown' hgrow hat)
     obtain ⟨a6, c6, rfl, _, _⟩ := SlK.own hown'
     have hfar : ∀ j, j ≤ y → (Value.slice a10 kp c10).ownBlock ≠ some j := fun j hj e => by have := (row_lt HOW.out j e).1; omega
     have hyw : w5.heap[y]? = some (.cells #[.int .i64 (Z1 : Int), .int .i64 (d : Int)] 62 (0, 0)) := (hgrow.block y (by omega) (fun e => hfar y (Nat.le_refl _) e.symm)).trans HYU.out
     have hx5w : w5.heap[y5]? = some (.cells #[.int .i64 (Z2 : Int), .int .i64 (d2 : Int)] 62 (0, 0)) := by
      have h := HX5.out
      refine (hgrow.block y5 (Array.getElem?_eq_some_iff.1 h).1 (fun e => ?_)).trans h
      rcases HOW.out.2 with ⟨e0, _⟩ | ⟨g', cap, cur, e0, _, hgb, _⟩
      · rw [e0] at e; cases e
      ·
       rw [e0] at e
       have e' : y5 = g' := by simpa [Value.ownBlock] using e
       rw [← e', h] at hgb
       cases hgb
     have hB5 : RowKit.Below w3.heap.size w3 w5 := HM2.out.grown hgrow HM2.out.size (fun j hj => by have := (row_lt HOW.out j hj).1; have := HY.out; omega)
     have t0 : w5.cell? ⟨y, 0, none⟩ = some (.int .i64 (Z1 : Int)) := by simp [World.cell?, hyw]
     have t1 : w5.cell? ⟨y, 1, none⟩ = some (.int .i64 (d : Int)) := by simp [World.cell?, hyw]
     have t2 : w5.frozen? ⟨y, 0, none⟩ = false := by simp [World.frozen?, hyw]
     have t3 : w5.frozen? ⟨y, 1, none⟩ = false := by simp [World.frozen?, hyw]
     have x0 : w5.cell? ⟨y5, 0, none⟩ = some (.int .i64 (Z2 : Int)) := by simp [World.cell?, hx5w]
     have x1 : w5.cell? ⟨y5, 1, none⟩ = some (.int .i64 (d2 : Int)) := by simp [World.cell?, hx5w]
     have hset := set2 (u0 := .int .i64 (Z2 : Int)) (u1 := .int .i64 (d2 : Int)) hyw
     have hown6 := hown'.kept hset.2 (.inr (fun e => by have := (row_lt hown' y e).1; omega))
     have HS1 := Lib.hid hset.1
     have HO6 := Lib.hid hown6
     have HB6 : Hid (RowKit.Below w3.heap.size w3 ((w5.setCell ⟨y, 0, none⟩ (.int .i64 (Z2 : Int))).setCell ⟨y, 1, none⟩ (.int .i64 (d2 : Int)))) := (hB5.setCell (by show w3.heap.size ≤ y; have := HY.out; omega) _).setCell (by show w3.heap.size ≤ y; have := HY.out; omega) _
     clear hfar hyw hx5w hB5 hset hown6 hown' hgrow hat HYU HM2 HT1 HOW
     go_wp2_with fail
     go_roundw
     case rel =>
      refine ⟨ls + 1, d2, by omega, by go_num, e5, fun _ => HFN.out, ?_, ?_, HB6.out⟩
      ·
       rw [Hid, ← E4.out]
       unfold OwnH
       rw [List.length_append, HKP.out, HK.out, hcells_append]
       exact HO6.out
      ·
       rw [Hid, HZ2.out]
       exact HS1.out
     case measure => first | (simp [intOf]; done) | (simp [intOf]; omega)
    have hd2 : decide ((i : Int) < (ls : Int)) = true := by simp; omega
    obtain ⟨b3, o3, m, e3, hl3, cc, hmi⟩ := sl1_at f_Z hi2
    subst e3
    have hmb := HZB.out m (List.mem_of_getElem? hmi)
    unfold I64 at hmb
    have i1 : (0 : Int) ≤ (i : Int) := by omega
    have i2 : (i : Int) < (ls : Int) := by omega
    clear hmi
    have J0 : Hid (∀ V, RowKit.Below wr.heap.size wr V → (V.cell? ⟨w.heap.size, 0, none⟩ = some (.bool fold) ∧ V.cell? ⟨w.heap.size, 1, none⟩ = some (.slice a la ca)) ∧ (V.cell? ⟨w.heap.size + 1, 0, none⟩ = some (.int .i64 nu) ∧ V.cell? ⟨w.heap.size + 1, 1, none⟩ = some (.int .i64 st) ∧ V.cell? ⟨w.heap.size + 1, 2, none⟩ = some (.int .i64 wm) ∧ V.cell? ⟨w.heap.size + 1, 3, none⟩ = some (.slice b bs.length c)) ∧ Wds V a la wss ∧ Bys V b bs.length bs ∧ RowKit.Below w.heap.size w V ∧ (Mach20 w3 (some ⟨B, 0, none⟩) fold wss ∧ RowKit.Below w3.heap.size w3 V)) := fun V hV => by
         have h3 := HBr.out.trans (hV.mono HBr.out.size)
         obtain ⟨f_set, f_b, f_A, f_D, f_Z, f_bw⟩ := K3.out V h3
         exact ⟨f_set, f_b, f_A, f_D, f_bw, ⟨HM20.out, h3⟩⟩
    obtain ⟨e1, e2, e3, e4, e5⟩ := prb_step HR.out hdn m
    have hcast := takeN_cast (m := m) (show (d : Int) ≤ (bs.length : Int) by omega)
    have hok := prb_ok HR.out e5
    have hbd := slH_bd (fold := fold) (st := st) (wm := wm) (z := (prZ fold wss bs d : Nat)) (d := (d : Int)) (m := m) HWS.out hn9
    have hle := slH_le (fold := fold) (wss := wss) (st := st) (wm := wm) (bs := bs) (z := (prZ fold wss bs d : Nat)) (d := (d : Int)) (m := m) hn9
    have hpl := HPL.out d
    obtain ⟨T, hT⟩ : ∃ x, takeN bs.length (d : Int) m = x := ⟨_, rfl⟩
    rw [hT] at e1 e2 e3 e4 e5 hcast hok
    obtain ⟨H1, hH1⟩ : ∃ x, slH fold wss st wm bs (prZ fold wss bs d : Nat) d m = x := ⟨_, rfl⟩
    rw [hH1] at e3 hbd hle
    obtain ⟨k, hk⟩ : ∃ x, H1.length = x := ⟨_, rfl⟩
    rw [hk] at hle
    obtain ⟨d2, hd2⟩ : ∃ x, d + T = x := ⟨_, rfl⟩
    rw [hd2] at e1 e2 e3 e4 e5 hok
    have hd2i : (d : Int) + (T : Int) = (d2 : Int) := by omega
    obtain ⟨Z1, hZ1⟩ : ∃ x, prZ fold wss bs d = x := ⟨_, rfl⟩
    obtain ⟨Z2, hZ2⟩ : ∃ x, prZ fold wss bs d2 = x := ⟨_, rfl⟩
    rw [hZ1] at e1 e2 e4 hH1 t0 HY1
    rw [hZ2] at e1 hok
    have HBD := Lib.hid hbd
    have HK := Lib.hid hk
    obtain ⟨f_set, f_b, f_A, f_D, f_bw, f_m⟩ := J0.out wr (Below.refl _ _)
    have HC := Lib.hid (he_slice f_m.1 f_m.2 nu st wm b bs.length c bs Z1 d m f_D hn9 hmb ⟨e1, e2, hH1, e4⟩ hbd hk)
    have E3 := Lib.hid e3
    have HZ2 := Lib.hid hZ2
    have HOK := Lib.hid hok
    have HDI := Lib.hid hd2i
    have HCA := Lib.hid hcast
    have HYY := HY1
    clear f_set f_b f_A f_D f_bw f_m e1 e2 e4 e3 hbd hH1 hk hZ1 hZ2 hok hT hd2 hd2i hcast
    go_upto_region 13 with (go_at_call 31; refine HC.out.mono ?_; rintro e u1 ⟨a1, c1, rfl, hs1, hb1⟩)
    obtain ⟨V5, hV5⟩ : ∃ X, X = u1.alloc (.cells #[.int .i64 (Z2 : Int), .int .i64 (d2 : Int)] 62) := ⟨_, rfl⟩
    have hx5 : V5.heap[u1.heap.size]? = some (.cells #[.int .i64 (Z2 : Int), .int .i64 (d2 : Int)] 62 (0, 0)) := by rw [hV5]; exact World.alloc_heap_new _ _
    have hbx5 : RowKit.Below u1.heap.size u1 V5 := by rw [hV5]; exact below_alloc _ _
    rw [← hV5]
    obtain ⟨y5, hy5⟩ : ∃ k, u1.heap.size = k := ⟨_, rfl⟩
    have hbs5 := hb1.trans (hbx5.mono hb1.size)
    have hs5 := hs1.below hbx5
    rw [hy5] at hx5 ⊢
    have hy5y : y < y5 := by have h := (Array.getElem?_eq_some_iff.1 HYY.out).1; have := hb1.size; omega
    clear HC hV5 hbx5 hy5 hb1 hs1 s0 s1 p0 p1 p2 p3 t0 t1
    have J1 : Hid (∀ V, RowKit.Below V5.heap.size V5 V → (V.cell? ⟨w.heap.size, 0, none⟩ = some (.bool fold) ∧ V.cell? ⟨w.heap.size, 1, none⟩ = some (.slice a la ca)) ∧ (V.cell? ⟨w.heap.size + 1, 0, none⟩ = some (.int .i64 nu) ∧ V.cell? ⟨w.heap.size + 1, 1, none⟩ = some (.int .i64 st) ∧ V.cell? ⟨w.heap.size + 1, 2, none⟩ = some (.int .i64 wm) ∧ V.cell? ⟨w.heap.size + 1, 3, none⟩ = some (.slice b bs.length c)) ∧ Wds V a la wss ∧ Bys V b bs.length bs ∧ RowKit.Below w.heap.size w V ∧ (Mach20 w3 (some ⟨B, 0, none⟩) fold wss ∧ RowKit.Below w3.heap.size w3 V) ∧ (V.cell? ⟨y5, 0, none⟩ = some (.int .i64 (Z2 : Int)) ∧ V.cell? ⟨y5, 1, none⟩ = some (.int .i64 (d2 : Int))) ∧ V.heap[y5]? = some (.cells #[.int .i64 (Z2 : Int), .int .i64 (d2 : Int)] 62 (0, 0)) ∧ V.heap[y]? = some (.cells #[.int .i64 (Z1 : Int), .int .i64 (d : Int)] 62 (0, 0)) ∧ Hts V a1 k H1 ∧ OwnH V (y + 1) u10 (prH fold wss st wm bs d)) := fun V hV => by
     obtain ⟨f_set, f_b, f_A, f_D, f_bw, f_m⟩ := J0.out V (hbs5.trans (hV.mono hbs5.size))
     exact ⟨f_set, f_b, f_A, f_D, f_bw, f_m, (by have h := (hV.block y5 (Array.getElem?_eq_some_iff.1 hx5).1).trans hx5; exact ⟨by simp [World.cell?, h], by simp [World.cell?, h]⟩), (hV.block y5 (Array.getElem?_eq_some_iff.1 hx5).1).trans hx5, ((hbs5.trans (hV.mono hbs5.size)).block y (Array.getElem?_eq_some_iff.1 HYY.out).1).trans HYY.out, hs5.below hV, own_below_ HO.out (hbs5.trans (hV.mono hbs5.size))⟩
    clear hbs5 J0
    clear hx5 hs5
    obtain ⟨f_set, f_b, f_A, f_D, f_bw, f_m, f_x5, f_xb, f_y, f_s1, f_own⟩ := J1.out V5 (Below.refl _ _)
    obtain ⟨s0, s1⟩ := f_set
    obtain ⟨p0, p1, p2, p3⟩ := f_b
    obtain ⟨x0, x1⟩ := f_x5
    have t0 : V5.cell? ⟨y, 0, none⟩ = some (.int .i64 (Z1 : Int)) := by simp [World.cell?, f_y]
    have t1 : V5.cell? ⟨y, 1, none⟩ = some (.int .i64 (d : Int)) := by simp [World.cell?, f_y]
    have HC := f_m.1.right V5 f_m.2 nu st wm b bs.length c Z2 d2 hn9
    rw [HOK.out] at HC
    have HC := Lib.hid HC
    have hca := HCA.out
    have hdi := HDI.out
    have kw1 : IntKind.i64.wrap ((bs.length : Int) - (d : Int)) = (bs.length : Int) - (d : Int) := by rw [IntKind.wrap_i64]; omega
    have kw2 : IntKind.i64.wrap ((d : Int) + min (max m 0) ((bs.length : Int) - (d : Int))) = (d2 : Int) := by rw [hca, hdi, IntKind.wrap_i64]; omega
    have kw3 : (d : Int) + min (max m 0) ((bs.length : Int) - (d : Int)) = (d2 : Int) := by rw [hca, hdi]
    clear hca hdi
    clear f_A f_D f_bw f_m f_xb f_y f_s1 f_own
    go_wp2_with fail
    refine HC.out.mono ?_
    rintro e u2 ⟨rfl, hb2⟩
    clear HC kw1 kw2 kw3 s0 s1 p0 p1 p2 p3 x0 x1 t0 t1
    have J2 : Hid (∀ V, RowKit.Below u2.heap.size u2 V → (V.cell? ⟨w.heap.size, 0, none⟩ = some (.bool fold) ∧ V.cell? ⟨w.heap.size, 1, none⟩ = some (.slice a la ca)) ∧ (V.cell? ⟨w.heap.size + 1, 0, none⟩ = some (.int .i64 nu) ∧ V.cell? ⟨w.heap.size + 1, 1, none⟩ = some (.int .i64 st) ∧ V.cell? ⟨w.heap.size + 1, 2, none⟩ = some (.int .i64 wm) ∧ V.cell? ⟨w.heap.size + 1, 3, none⟩ = some (.slice b bs.length c)) ∧ Wds V a la wss ∧ Bys V b bs.length bs ∧ RowKit.Below w.heap.size w V ∧ (Mach20 w3 (some ⟨B, 0, none⟩) fold wss ∧ RowKit.Below w3.heap.size w3 V) ∧ (V.cell? ⟨y5, 0, none⟩ = some (.int .i64 (Z2 : Int)) ∧ V.cell? ⟨y5, 1, none⟩ = some (.int .i64 (d2 : Int))) ∧ V.heap[y5]? = some (.cells #[.int .i64 (Z2 : Int), .int .i64 (d2 : Int)] 62 (0, 0)) ∧ V.heap[y]? = some (.cells #[.int .i64 (Z1 : Int), .int .i64 (d : Int)] 62 (0, 0)) ∧ Hts V a1 k H1 ∧ OwnH V (y + 1) u10 (prH fold wss st wm bs d)) := fun V hV => by
     obtain ⟨f_set, f_b, f_A, f_D, f_bw, f_m, f_x5, f_xb, f_y, f_s1, f_own⟩ := J1.out V (hb2.trans (hV.mono hb2.size))
     exact ⟨f_set, f_b, f_A, f_D, f_bw, f_m, f_x5, f_xb, f_y, f_s1, f_own⟩
    clear hb2 J1
    obtain ⟨f_set, f_b, f_A, f_D, f_bw, f_m, f_x5, f_xb, f_y, f_s1, f_own⟩ := J2.out u2 (Below.refl _ _)
    obtain ⟨s0, s1⟩ := f_set
    obtain ⟨p0, p1, p2, p3⟩ := f_b
    obtain ⟨x0, x1⟩ := f_x5
    have t0 : u2.cell? ⟨y, 0, none⟩ = some (.int .i64 (Z1 : Int)) := by simp [World.cell?, f_y]
    have t1 : u2.cell? ⟨y, 1, none⟩ = some (.int .i64 (d : Int)) := by simp [World.cell?, f_y]
    obtain ⟨P, hP⟩ : ∃ x, prH fold wss st wm bs d = x := ⟨_, rfl⟩
    rw [hP] at f_own hpl
    have E3' := E3.out
    rw [hP] at E3'
    obtain ⟨kp, hkp⟩ : ∃ x, P.length = x := ⟨_, rfl⟩
    have hown : u2.ownsRow (y + 1) 87 2 u10 kp (hcells P) := by unfold OwnH at f_own; rwa [hkp] at f_own
    rw [hkp] at hpl
    obtain ⟨a10, c10, rfl, _, _⟩ := SlK.own hown
    have HKP := Lib.hid hkp
    have E4 := Lib.hid E3'
    have HOW := Lib.hid hown
    have HT1 := Lib.hid f_s1
    have HYU := Lib.hid f_y
    have HX5 : Hid (u2.heap[y5]? = some (.cells #[.int .i64 (Z2 : Int), .int .i64 (d2 : Int)] 62 (0, 0))) := f_xb
    have HM2 := Lib.hid f_m.2
    have hyu : y + 1 ≤ u2.heap.size := (Array.getElem?_eq_some_iff.1 f_y).1
    clear f_A f_D f_bw f_m f_xb f_y f_s1 f_own E3 E3' hP hkp hown HO J2 s0 s1 p0 p1 p2 p3 x0 x1 t0 t1
    go_upto_region 16 with (at_builtin; refine wpList_append_slK rfl _ _ 67 rfl (y + 1) 87 i0 (.agg #[.int .i64 0, .int .i64 0]) 2 16 Tryz.underlying67 hi hz0 hz1 hz2 rfl (by decide) (.slice a10 kp c10) kp (hcells P) rfl HOW.out a1 k c1 (hcells H1) rfl HT1.out.1 (hcells_one _) (by unfold maxLen; omega) (by omega) hyu ?_; intro v' w5 hown' hgrow hat)
    obtain ⟨a6, c6, rfl, _, _⟩ := SlK.own hown'
    have hfar : ∀ j, j ≤ y → (Value.slice a10 kp c10).ownBlock ≠ some j := fun j hj e => by have := (row_lt HOW.out j e).1; omega
    have hyw : w5.heap[y]? = some (.cells #[.int .i64 (Z1 : Int), .int .i64 (d : Int)] 62 (0, 0)) := (hgrow.block y (by omega) (fun e => hfar y (Nat.le_refl _) e.symm)).trans HYU.out
    have hx5w : w5.heap[y5]? = some (.cells #[.int .i64 (Z2 : Int), .int .i64 (d2 : Int)] 62 (0, 0)) := by
     have h := HX5.out
     refine (hgrow.block y5 (Array.getElem?_eq_some_iff.1 h).1 (fun e => ?_)).trans h
     rcases HOW.out.2 with ⟨e0, _⟩ | ⟨g', cap, cur, e0, _, hgb, _⟩
     · rw [e0] at e; cases e
     ·
      rw [e0] at e
      have e' : y5 = g' := by simpa [Value.ownBlock] using e
      rw [← e', h] at hgb
      cases hgb
    have hB5 : RowKit.Below w3.heap.size w3 w5 := HM2.out.grown hgrow HM2.out.size (fun j hj => by have := (row_lt HOW.out j hj).1; have := HY.out; omega)
    have t0 : w5.cell? ⟨y, 0, none⟩ = some (.int .i64 (Z1 : Int)) := by simp [World.cell?, hyw]
    have t1 : w5.cell? ⟨y, 1, none⟩ = some (.int .i64 (d : Int)) := by simp [World.cell?, hyw]
    have t2 : w5.frozen? ⟨y, 0, none⟩ = false := by simp [World.frozen?, hyw]
    have t3 : w5.frozen? ⟨y, 1, none⟩ = false := by simp [World.frozen?, hyw]
    have x0 : w5.cell? ⟨y5, 0, none⟩ = some (.int .i64 (Z2 : Int)) := by simp [World.cell?, hx5w]
    have x1 : w5.cell? ⟨y5, 1, none⟩ = some (.int .i64 (d2 : Int)) := by simp [World.cell?, hx5w]
    have hset := set2 (u0 := .int .i64 (Z2 : Int)) (u1 := .int .i64 (d2 : Int)) hyw
    have hown6 := hown'.kept hset.2 (.inr (fun e => by have := (row_lt hown' y e).1; omega))
    have HS1 := Lib.hid hset.1
    have HO6 := Lib.hid hown6
    have HB6 : Hid (RowKit.Below w3.heap.size w3 ((w5.setCell ⟨y, 0, none⟩ (.int .i64 (Z2 : Int))).setCell ⟨y, 1, none⟩ (.int .i64 (d2 : Int)))) := (hB5.setCell (by show w3.heap.size ≤ y; have := HY.out; omega) _).setCell (by show w3.heap.size ≤ y; have := HY.out; omega) _
    clear hfar hyw hx5w hB5 hset hown6 hown' hgrow hat HYU HM2 HT1 HOW
    go_wp2_with fail
    go_roundw
    case rel =>
     refine ⟨i + 1, d2, by omega, by go_num, e5, by omega, ?_, ?_, HB6.out⟩
     ·
      rw [Hid, ← E4.out]
      unfold OwnH
      rw [List.length_append, HKP.out, HK.out, hcells_append]
      exact HO6.out
     ·
      rw [Hid, HZ2.out]
      exact HS1.out
    case measure => first | (simp [intOf]; done) | (simp [intOf]; omega)
end Go.Proofs.YtbldfgaogmfoaaaGreat
