/- Parts of the proof, one behind the other: C3, C4, Vp, Gp, Gs, VG, Kp, V1. No condition but what each theorem states. -/
import Derived.Deep.DrawnRows
import Derived.Deep.RegionHeld3
import Derived.Test.YtbiinfnekhhfkaaGreatZS4
import Derived.Test.YtbiinfnekhhfkaaGreatZS5

/- Bytes that are told apart (layer 10): a set's classes; walked. Printed by exp.py. -/


namespace Go.Proofs.YtbiinfnekhhfkaaGreat
open Go.RowKit Go.Sort
set_option linter.unusedVariables false
set_option linter.unusedSimpArgs false

/-- The classes of the first bytes, and nothing behind them. -/
def clsZ (p : Int → Bool) (fold : Bool) (i : Nat) : List Int := (clsN p fold i).1 ++ List.replicate (256 - i) 0
theorem clsZ_len (p : Int → Bool) (fold : Bool) {i : Nat} (h : i ≤ 256) : (clsZ p fold i).length = 256 := by
  unfold clsZ
  rw [List.length_append, clsN_len, List.length_replicate]
  omega
theorem clsZ_at (p : Int → Bool) (fold : Bool) {i j : Nat} (h : j < i) : (clsZ p fold i)[j]? = (clsN p fold i).1[j]? := by
  unfold clsZ
  rw [List.getElem?_append_left (by rw [clsN_len]; exact h)]
theorem clsZ_set (p : Int → Bool) (fold : Bool) {i : Nat} (h : i < 256) (v : Int) : (clsZ p fold i).set i v = ((clsN p fold i).1 ++ [v]) ++ List.replicate (256 - (i + 1)) 0 := by
  unfold clsZ
  have hl := clsN_len p fold i
  rw [List.set_append_right _ _ (by omega), hl, Nat.sub_self, show 256 - i = (256 - (i + 1)) + 1 by omega, List.replicate_succ, List.set_cons_zero, List.append_assoc]
  rfl
theorem clsZ_no {p : Int → Bool} {fold : Bool} {i : Nat} (h : i < 256) (hp : p i = false) : clsZ p fold (i + 1) = clsZ p fold i ∧ (clsN p fold (i + 1)).2 = (clsN p fold i).2 := by
  unfold clsZ
  rw [clsN_succ, if_pos hp]
  refine ⟨?_, rfl⟩
  rw [show 256 - i = (256 - (i + 1)) + 1 by omega, List.replicate_succ, List.append_assoc]
  rfl
theorem clsZ_small {p : Int → Bool} {fold : Bool} {i : Nat} (h : i < 256) (hp : p i = true) (hs : (fold && smallI i) = true) : clsZ p fold (i + 1) = (clsZ p fold i).set i (((clsN p fold i).1[i - 32]?).getD 0) ∧ (clsN p fold (i + 1)).2 = (clsN p fold i).2 := by
  rw [clsZ_set p fold h]
  unfold clsZ
  rw [clsN_succ, if_neg (by rw [hp]; decide), if_pos hs]
  exact ⟨rfl, rfl⟩
theorem clsZ_own {p : Int → Bool} {fold : Bool} {i : Nat} (h : i < 256) (hp : p i = true) (hs : (fold && smallI i) = false) : clsZ p fold (i + 1) = (clsZ p fold i).set i ((clsN p fold i).2 : Int) ∧ (clsN p fold (i + 1)).2 = (clsN p fold i).2 + 1 := by
  rw [clsZ_set p fold h]
  unfold clsZ
  rw [clsN_succ, if_neg (by rw [hp]; decide), if_neg (by rw [hs]; decide)]
  exact ⟨rfl, rfl⟩
theorem hasL_at (fold : Bool) (ws : List (List Int)) {i : Nat} (h : i < 256) : ((hasL fold ws).map Value.bool)[i]? = some (.bool (inB fold ws (i : Int))) := by
  unfold hasL
  rw [List.getElem?_map, List.getElem?_map, List.getElem?_range h]
  rfl

theorem zero88 : Tryz.zeroCells202.setIfInBounds 256 (Value.int IntKind.i64 1) = ((List.replicate 256 (0 : Int) ++ [1]).map (Value.int .i64)).toArray := by kernel_rfl
theorem bool_info10 : (Tryz.prog.info? 4).map (fun i => (i.zero, i.size, i.bytes)) = some (some (.bool false), 1, 1) := by kernel_rfl
theorem run_ix108 {L : Array Value} {i : Nat} {b : Bool} (hi : i < 256) (h : L[i]? = some (.bool b)) (w : World) : Sem.run Tryz.prog (Instr.index 217 (.agg L) (.int .i64 (i : Int))) w = .ok (.bool b) w := by
  obtain ⟨i0, hi0, _, hz, _⟩ := info_parts bool_info10
  have e : (0 : Int) ≤ (i : Int) ∧ (i : Int) < 256 := by omega
  unfold Instr.index
  simp only [asIntOf, Sem.run_bind, Sem.run_pure, Result.andThen_ok, run_underlying Tryz.underlying217]
  simp [e, sizeOf, typeInfo, hi0, hz, part, isAgg, run_underlying Tryz.underlying4, h]

set_option maxRecDepth 100000 in
set_option maxHeartbeats 8000000 in
theorem count10_yes (fold : Bool) (a : Option Addr) (la ca : Nat) (wss : List (List Int)) (w : World) (hA : Wds w a la wss) (hla : la ≤ 1000000) (hM : ∀ x ∈ wss, x.length ≤ 1000000) (hT : (begL fold wss).length ≤ 1000000) (hr : rightP fold wss = true) :
    Calls Tryz.prog 130 #[.agg (setV fold a la ca)] w fun e w' => ∃ B, e = .returned (.tuple #[.pointer (some ⟨B, 0, none⟩), .bool true]) ∧ CB w' B (clsP fold wss) (manyP fold wss : Int) ∧ w.heap.size ≤ B ∧ Below w.heap.size w w' := by
  obtain ⟨W, hW⟩ : ∃ W, W = w.alloc (.cells (setV fold a la ca) 24) := ⟨_, rfl⟩
  have hB : Below w.heap.size w W := by rw [hW]; exact below_alloc _ _
  have hO : Bx w.heap.size [.cells (setV fold a la ca) 24] W := by rw [hW]; exact (Bx.nil _ w).snoc _ rfl
  have s0 : W.cell? ⟨w.heap.size, 0, none⟩ = some (.bool fold) := hO.cell (i := 0) rfl rfl
  have s1 : W.cell? ⟨w.heap.size, 1, none⟩ = some (.slice a la ca) := hO.cell (i := 0) rfl rfl
  have HC := Lib.hid (pright_any fold a la ca wss W (hA.below hB) hla hM hT)
  have HA := Lib.hid (hA.below hB)
  have HO := Lib.hid hO
  have HM := Lib.hid hM
  have hWs : W.heap.size = w.heap.size + 1 := by rw [hW]; simp
  have HWS := Lib.hid hWs
  rw [hr] at HC
  clear hr hA hO hM hWs
  go_enter Tryz.func130, Tryz.ntmps130
  go_upto_region 1 with fail
  rw [← hW]
  clear hW
  go_wp2_with fail
  refine HC.out.mono ?_
  rintro e w1 ⟨rfl, hb1⟩
  clear s0 s1 HC
  go_upto_region 4 with fail
  obtain ⟨W2, hW2⟩ : ∃ V, V = w1.alloc (.cells (Tryz.zeroCells202.setIfInBounds 256 (Value.int IntKind.i64 1)) 202) := ⟨_, rfl⟩
  have hb2' : RowKit.Below w1.heap.size w1 W2 := by rw [hW2]; exact below_alloc _ _
  have hC2 : CB W2 w1.heap.size (List.replicate 256 0) 1 := ⟨by rw [hW2, zero88]; exact World.alloc_heap_new _ _, by simp⟩
  rw [← hW2]
  clear hW2
  obtain ⟨B, hBe⟩ : ∃ B, w1.heap.size = B := ⟨_, rfl⟩
  have hWB : W.heap.size ≤ B := by rw [← hBe]; exact hb1.size
  have hb2 := hb1.trans (hb2'.mono hb1.size)
  rw [hBe] at hC2 ⊢
  clear hBe hb2' hb1
  have HB2 := Lib.hid hb2
  have HC2 := Lib.hid hC2
  have hO2 := HO.out.below hb2
  have s0 : W2.cell? ⟨w.heap.size, 0, none⟩ = some (.bool fold) := hO2.cell (i := 0) rfl rfl
  have s1 : W2.cell? ⟨w.heap.size, 1, none⟩ = some (.slice a la ca) := hO2.cell (i := 0) rfl rfl
  have HH := Lib.hid (has_any fold a la ca wss W2 (HA.out.below hb2) hla HM.out)
  clear hO2 hC2 hb2
  go_wp2_with fail
  refine HH.out.mono ?_
  rintro e W3 ⟨rfl, hb3⟩
  have HB3 := Lib.hid (HB2.out.trans (hb3.mono HB2.out.size))
  have HC3 := Lib.hid (HC2.out.below hb3)
  obtain ⟨L, hL⟩ : ∃ L, ((hasL fold wss).map Value.bool).toArray = L := ⟨_, rfl⟩
  have ix : Hid (∀ (i : Nat), i < 256 → L[i]? = some (.bool (inB fold wss (i : Int)))) := fun i hi => by
    rw [← hL]
    simpa using hasL_at fold wss hi
  have hLs : L.size = 256 := by rw [← hL]; simp [hasL]
  rw [hL]
  clear s0 s1 HH hb3 hL HC2 HB2
  have hB3s : B < W3.heap.size := HC3.out.lt
  go_wp2
  go_loopw [15] (fun s15 wr => ∃ i : Nat, i ≤ 256 ∧ s15 = .int .i64 i ∧ CB wr B (clsZ (inB fold wss) fold i) ((clsN (inB fold wss) fold i).2 : Int) ∧ RowKit.Below B W3 wr) (fun s _ => 256 - (intOf s).toNat)
  case atStart => exact ⟨0, Nat.zero_le _, rfl, HC3.out, RowKit.Below.refl _ _⟩
  case round =>
    obtain ⟨i, hi, rfl, hCi, hBi⟩ := hrel
    by_cases hil : i < 256
    · have hd : decide ((i : Int) < 256) = true := by simp; omega
      have i1 : (0 : Int) ≤ (i : Int) := by omega
      have i2 : (i : Int) < 256 := by omega
      have hix := ix.out i hil
      obtain ⟨b, hb⟩ : ∃ b, inB fold wss (i : Int) = b := ⟨_, rfl⟩
      rw [hb] at hix
      have hidx := fun (V : World) => run_ix108 hil hix V
      have hw8 : IntKind.u8.wrap (i : Int) = (i : Int) := by simp [IntKind.wrap, IntKind.bits, IntKind.signed]; omega
      have hCZ := Lib.hid hCi
      have hBZ := Lib.hid hBi
      have hOr := HO.out.below (HB3.out.trans (hBi.mono (by have := HB3.out.size; have := HWS.out; omega)))
      have s0 : wr.cell? ⟨w.heap.size, 0, none⟩ = some (.bool fold) := hOr.cell (i := 0) rfl rfl
      have HBB := Lib.hid hb
      clear hCi hBi hOr hix hb
      cases b with
      | false =>
        obtain ⟨z1, z2⟩ := clsZ_no (p := inB fold wss) (fold := fold) hil HBB.out
        have hC2 : CB wr B (clsZ (inB fold wss) fold (i + 1)) ((clsN (inB fold wss) fold (i + 1)).2 : Int) := by rw [z1, z2]; exact hCZ.out
        have HC2 := Lib.hid hC2
        clear z1 z2 hC2
        go_wp2
        go_roundw
        case rel => exact ⟨i + 1, by omega, by go_num, HC2.out, hBZ.out⟩
        case measure => simp [intOf]; omega
      | true =>
        have hmm := clsN_many (inB fold wss) fold i
        cases fold with
        | false =>
          obtain ⟨z1, z2⟩ := clsZ_own (p := inB false wss) (fold := false) hil HBB.out rfl
          have ho := own10_any B i (clsN (inB false wss) false i).2 _ wr hil hCZ.out (by omega)
          rw [← z1, ← z2] at ho
          have HOW := Lib.hid ho
          clear z1 z2 ho hmm
          go_wp2_with fail
          refine HOW.out.mono ?_
          rintro e w5 ⟨rfl, hc5, hb5⟩
          have HC5 := Lib.hid hc5
          clear hc5 hidx s0
          go_wp2
          go_roundw
          case rel => exact ⟨i + 1, by omega, by go_num, HC5.out, hBZ.out.trans hb5⟩
          case measure => simp [intOf]; omega
        | true =>
          have HSm := Lib.hid (small_any (i : Int) wr)
          go_wp2_with fail
          refine HSm.out.mono ?_
          rintro e w4 ⟨rfl, hb4⟩
          have hC4 := hCZ.out.below hb4
          have HC4 := Lib.hid hC4
          have HB4 := Lib.hid (hBZ.out.trans (hb4.mono (by have := hCZ.out.lt; omega)))
          clear hC4 hb4 s0 hidx HSm
          cases hsm : smallI (i : Int) with
          | false =>
            obtain ⟨z1, z2⟩ := clsZ_own (p := inB true wss) (fold := true) hil HBB.out (by rw [hsm]; rfl)
            have ho := own10_any B i (clsN (inB true wss) true i).2 _ w4 hil HC4.out (by omega)
            rw [← z1, ← z2] at ho
            have HOW := Lib.hid ho
            clear z1 z2 ho hmm hsm
            go_wp2_with fail
            refine HOW.out.mono ?_
            rintro e w5 ⟨rfl, hc5, hb5⟩
            have HC5 := Lib.hid hc5
            clear hc5
            go_wp2
            go_roundw
            case rel => exact ⟨i + 1, by omega, by go_num, HC5.out, HB4.out.trans hb5⟩
            case measure => simp [intOf]; omega
          | true =>
            obtain ⟨z1, z2⟩ := clsZ_small (p := inB true wss) (fold := true) hil HBB.out (by rw [hsm]; rfl)
            obtain ⟨p, rfl⟩ : ∃ p, i = p + 32 := ⟨i - 32, by unfold smallI at hsm; have := of_decide_eq_true hsm; omega⟩
            rw [Nat.add_sub_cancel] at z1
            obtain ⟨v, hv⟩ : ∃ v, (clsN (inB true wss) true (p + 32)).1[p]? = some v := ⟨(clsN (inB true wss) true (p + 32)).1[p]'(by rw [clsN_len]; omega), by simp⟩
            rw [hv, Option.getD_some] at z1
            have hvz : (clsZ (inB true wss) true (p + 32))[p]? = some v := by rw [clsZ_at _ _ (by omega)]; exact hv
            obtain ⟨u, hu⟩ : ∃ u, (clsZ (inB true wss) true (p + 32))[p + 32]? = some u := ⟨(clsZ (inB true wss) true (p + 32))[p + 32]'(by rw [clsZ_len _ _ (by omega)]; omega), by simp⟩
            have hpf : p < 256 := by omega
            have kg : Hid (∀ V, RowKit.Below w4.heap.size w4 V → Calls Tryz.prog 151 #[.int .u8 ((p + 32 : Nat) : Int)] V fun e w' => e = .returned (.int .u8 (p : Int)) ∧ RowKit.Below V.heap.size V w') := fun V hV => by
              have h := great10_any ((p + 32 : Nat) : Int) V (by omega)
              rwa [show ((p + 32 : Nat) : Int) - 32 = (p : Int) by omega] at h
            have ks : Hid (∀ V, RowKit.Below w4.heap.size w4 V → Calls Tryz.prog 150 #[.pointer (some ⟨B, 0, none⟩), .int .u8 ((p + 32 : Nat) : Int), .int .i64 v] V fun e w' => e = .returned (.tuple #[]) ∧ w' = V.setCell ⟨B, p + 32, none⟩ (.int .i64 v)) := fun V hV =>
              set10_any B (p + 32) v _ V hil ((HC4.out.below hV).cell hil hu) ((HC4.out.below hV).frozen _)
            have hcv : Hid (∀ V, RowKit.Below w4.heap.size w4 V → V.cell? ⟨B, p, none⟩ = some (.int .i64 v)) := fun V hV => (HC4.out.below hV).cell hpf hvz
            have HZ1 := Lib.hid z1
            have HZ2 := Lib.hid z2
            have j1 : (0 : Int) ≤ (p : Int) := by omega
            have j2 : (p : Int) < 256 := by omega
            have hlt4 := HC4.out.lt
            clear z1 z2 hv hvz hu hmm hsm
            go_upto_region 11 with fail
            refine wp_region_noPanic ?_
            refine wp_region_held_drew (S := fun V => RowKit.Below B w4 V ∧ V.cell? ⟨B, p, none⟩ = some (.int .i64 v)) (by kernel_rfl) ⟨(bel_drewN w4 1).mono (Nat.le_of_lt hlt4), hcv.out _ (bel_drewN w4 1)⟩ (fun hHeld => ?_)
            change wpAnyH _ _ _ _ _ 13 _ _ _
            iterate 6 (refine tkF 12 (v := ?_) ?_ ?_; rotate_left; (· intro V hV; first | (go_simp; done) | (go_simp; with_reducible rfl)); try simp only [Act.put, pA, pB, pC])
            iterate 3 (refine tkF 13 (v := ?_) ?_ ?_; rotate_left; (· intro V hV; first | (go_simp; done) | (go_simp; with_reducible rfl)); try simp only [Act.put, pA, pB, pC])
            refine rdy 6 (fun K hK => ?_)
            go_simp
            go_at_call 151; refine (kg.out _ (bel_drewN w4 1)).mono ?_; rintro e w5 ⟨rfl, hb5⟩
            have hB5 : RowKit.Below w4.heap.size w4 w5 := (bel_drewN w4 1).trans hb5
            refine hK.out _ _ ⟨hB5.mono (Nat.le_of_lt hlt4), hcv.out _ hB5⟩ (fun hNew => ?_)
            clear hK K hHeld
            have hHeld := hNew
            clear hNew hb5
            try simp only [Act.put, pA, pB, pC]
            refine tkW 10 (v := ?_) ?_ ?_
            rotate_left
            · intro V hV
              first | (go_simp; done) | (go_simp; with_reducible rfl)
            try simp only [Act.put, pA, pB, pC]
            refine tkW 11 (v := ?_) ?_ ?_
            rotate_left
            · intro V hV
              have r0 := hV.2
              first | (go_simp; done) | (go_simp; with_reducible rfl)
            try simp only [Act.put, pA, pB, pC]
            refine rdy 12 (fun K hK => ?_)
            go_simp
            go_at_call 150; refine (ks.out _ hB5).mono ?_; rintro e w6 ⟨rfl, hw6⟩
            have hC6 : CB w6 B (clsZ (inB true wss) true (p + 32 + 1)) ((clsN (inB true wss) true (p + 32 + 1)).2 : Int) := by
              rw [hw6, HZ1.out, HZ2.out]
              exact (HC4.out.below hB5).set hil v
            have hB6 : RowKit.Below B w4 w6 := by rw [hw6]; exact (hB5.mono (Nat.le_of_lt hlt4)).setCell (Nat.le_refl _) _
            have hc6 : w6.cell? ⟨B, p, none⟩ = some (.int .i64 v) := by
              rw [hw6, World.cell?_setCell_other _ _ _ _ (fun e => by injection e with e1 e2; omega)]
              exact hcv.out _ hB5
            refine hK.out _ _ ⟨hB6, hc6⟩ (fun hNew => ?_)
            clear hK K hHeld hNew hw6 hc6
            try simp only [Act.put, pA, pB, pC]
            refine wpAnyH_done (by kernel_rfl) ?_ _
            refine NoPanic.normal ?_
            have HC6 := Lib.hid hC6
            have HB6 := Lib.hid (HB4.out.trans hB6)
            clear hC6 hB6 hB5
            go_wp2
            go_roundw
            case rel => exact ⟨p + 32 + 1, by omega, by go_num, HC6.out, HB6.out⟩
            case measure => simp [intOf]; omega
    · obtain rfl : i = 256 := by omega
      have hd : decide (((256 : Nat) : Int) < 256) = false := by decide
      have hz : clsZ (inB fold wss) fold 256 = clsP fold wss := by
        unfold clsZ clsP
        simp
      rw [hz] at hCi
      have HCi := Lib.hid hCi
      have HBi := Lib.hid hBi
      clear hz hCi hBi
      go_wp2
      go_ret2
      exact ⟨B, rfl, HCi.out, by have := hB.size; omega, hB.trans ((HB3.out.trans (HBi.out.mono (by have := HB3.out.size; have := HWS.out; omega))).mono hB.size)⟩
end Go.Proofs.YtbiinfnekhhfkaaGreat

/- Bytes that are told apart (layer 10): a set's classes, told; walked. Printed by exp.py. -/


namespace Go.Proofs.YtbiinfnekhhfkaaGreat
open Go.RowKit Go.Sort
set_option linter.unusedVariables false
set_option linter.unusedSimpArgs false

theorem results_row3 {fn : Func} {p u v : Tmp} {tmps : Array Value} {W : World} {B : Nat} {cs : Array Value} (h : fn.results = #[.cell p 107, .tmp u, .tmp v]) (hp : tmps.getD p undef = .pointer (some ⟨B, 0, none⟩)) (hB : W.heap[B]? = some (.cells cs 107 (0, 0))) (hs : cs.size = 256) :
    (results fn tmps).run Tryz.prog W = .ok (.tuple #[.agg cs, tmps.getD u undef, tmps.getD v undef]) W := by
  have hp' : tmps[p]?.getD undef = .pointer (some ⟨B, 0, none⟩) := by simpa using hp
  simp [results, h, hp', asAddr, run_loadVar_row W B 107 107 cs (0, 0) _ hB Tryz.underlying107 rfl (by rw [hs]; exact info25)]
theorem rowI_size (l : List Int) : ((l.map (Value.int .i64)).toArray).size = l.length := by simp
theorem rowI_one (l : List Int) : ((l.map (Value.int .i64)).toArray).all (·.oneCell') = true := by simp [Value.oneCell']
/-- What Of tells of a set that may be, and of one that may not. -/
abbrev clsV (l : List Int) : Value := .agg (l.map (Value.int .i64)).toArray

theorem wanted_one {c : Bool} {p q : Prop} (hc : c = true) (h : p) : if c = true then p else q := by rw [if_pos hc]; exact h

set_option maxRecDepth 100000 in
set_option maxHeartbeats 8000000 in
theorem of10_yes (fold : Bool) (a : Option Addr) (la ca : Nat) (wss : List (List Int)) (w : World) (hA : Wds w a la wss) (hla : la ≤ 1000000) (hM : ∀ x ∈ wss, x.length ≤ 1000000) (hT : (begL fold wss).length ≤ 1000000) (hr : rightP fold wss = true) :
    Calls Tryz.prog 99 #[.agg (setV fold a la ca)] w fun e w' => e = .returned (.tuple #[clsV (clsP fold wss), .int .i64 (manyP fold wss), .int .i64 0]) ∧ Below w.heap.size w w' := by
  obtain ⟨W, hW⟩ : ∃ W, W = (w.alloc (.cells (setV fold a la ca) 24)).alloc (.cells Tryz.zeroCells107 107) := ⟨_, rfl⟩
  have hB : Below w.heap.size w W := by rw [hW]; exact ((Below.refl _ _).alloc (Nat.le_refl _) _).alloc (by simp) _
  have hO : Bx w.heap.size [.cells (setV fold a la ca) 24, .cells Tryz.zeroCells107 107] W := by rw [hW]; exact ((Bx.nil _ w).snoc _ rfl).snoc _ (by simp)
  have s0 : W.cell? ⟨w.heap.size, 0, none⟩ = some (.bool fold) := hO.cell (i := 0) rfl rfl
  have s1 : W.cell? ⟨w.heap.size, 1, none⟩ = some (.slice a la ca) := hO.cell (i := 0) rfl rfl
  have HC := Lib.hid (count10_yes fold a la ca wss W (hA.below hB) hla hM hT hr)
  have HO := Lib.hid hO
  clear hr hO
  go_enter Tryz.func99, Tryz.ntmps99
  go_upto_region 1 with fail
  rw [← hW]
  clear hW
  go_wp2_with fail
  refine HC.out.mono ?_
  rintro e w1 ⟨B, rfl, hC1, hBw, hb1⟩
  have h1 : w1.heap[w.heap.size + 1]? = some (.cells Tryz.zeroCells107 107 (0, 0)) := (HO.out.below hb1) 1 _ rfl
  rw [zero25] at h1
  have H1 := Lib.hid h1
  have HC1 := Lib.hid hC1
  obtain ⟨L, hL⟩ : ∃ L, clsP fold wss = L := ⟨_, rfl⟩
  obtain ⟨M, hM2⟩ : ∃ M : Int, (manyP fold wss : Int) = M := ⟨_, rfl⟩
  rw [hL, hM2] at HC1
  have HLe := Lib.hid hL
  have HMe := Lib.hid hM2
  have hLl : L.length = 256 := HC1.out.2
  have hi : (Tryz.prog.info? 107).map (·.size) = some ((L.map (Value.int .i64))).length := by rw [List.length_map, hLl]; exact info25
  have HI := Lib.hid hi
  have hOr : Hid (∀ V, CB V B L M → V.rangeAt B 0 (L.map (Value.int .i64)) ∧ V.cell? ⟨B, 256, none⟩ = some (.int .i64 M)) := fun V h => by
    refine ⟨fun j v hv => ?_, h.many⟩
    rw [List.getElem?_map, Option.map_eq_some_iff] at hv
    obtain ⟨x, hx, rfl⟩ := hv
    rw [Nat.zero_add]
    exact h.cell (by have := (List.getElem?_eq_some_iff.1 hx).1; omega) hx
  have hlt0 : w.heap.size + 1 < W.heap.size := (Array.getElem?_eq_some_iff.1 (HO.out 1 _ rfl)).1
  have hBne : B ≠ w.heap.size + 1 := by omega
  have hlt1 : w.heap.size + 1 < w1.heap.size := by have := hb1.size; omega
  clear h1 hC1 hi s0 s1 HC hL hM2
  go_upto_region 4 with fail
  refine wp_region_noPanic ?_
  refine wp_region_held_drew (S := fun V => CB V B L M ∧ RowKit.Below (w.heap.size + 1) w1 V) (by kernel_rfl) ⟨HC1.out.below (bel_drewN w1 1), (bel_drewN w1 1).mono (Nat.le_of_lt hlt1)⟩ (fun hHeld => ?_)
  change wpAnyH _ _ _ _ _ 12 _ _ _
  iterate 4 (refine tkF 11 (v := ?_) ?_ ?_; rotate_left; (· intro V hV; first | (go_simp; done) | (go_simp; with_reducible rfl)); try simp only [Act.put, pA, pB, pC])
  refine' wpAnyH_take (i := 4) (v := _) (by simp only [pD, pE, pF]; rfl) (by kernel_rfl) (by kernel_rfl) (by kernel_rfl) (fun _ _ _ h => h) (yieldsIf_load_mid (by rfl) _ _ rfl B 0 rfl (L.map (Value.int .i64)) _ (fun V hV => (hOr.out V hV.1).1) Tryz.underlying107 rfl HI.out) (by assumption) ?_
  try simp only [Act.put, pA, pB, pC]
  iterate 3 (refine tkF 11 (v := ?_) ?_ ?_; rotate_left; (· intro V hV; first | (go_simp; done) | (go_simp; with_reducible rfl)); try simp only [Act.put, pA, pB, pC])
  refine tkW 8 (v := ?_) ?_ ?_
  rotate_left
  · intro V hV
    have r0 := (hOr.out V hV.1).2
    first | (go_simp; done) | (go_simp; with_reducible rfl)
  try simp only [Act.put, pA, pB, pC]
  refine rdy 9 (fun K hK => ?_)
  have hg1 : w1.drew.heap[w.heap.size + 1]? = some (.cells ((List.replicate 256 (0 : Int)).map (Value.int .i64)).toArray 107 (0, 0)) := H1.out
  have hia : (Tryz.prog.info? 107).map (·.size) = some (((L.map (Value.int .i64))).toArray).size := by rw [List.size_toArray]; exact HI.out
  refine wanted_one (by kernel_rfl) ?_
  refine wp_store_row 107 _ _ rfl (w.heap.size + 1) _ rfl rfl 107 _ hg1 hia (by rw [rowI_size, rowI_size]; rw [hLl]; rfl) (rowI_one L) ?_
  have h2 := setRow_heap w1.drew (w.heap.size + 1) _ ((L.map (Value.int .i64)).toArray) _ _ hg1
  have H2 := Lib.hid h2
  have hS2 : CB (w1.drew.setRow (w.heap.size + 1) ((L.map (Value.int .i64)).toArray)) B L M ∧ RowKit.Below (w.heap.size + 1) w1 (w1.drew.setRow (w.heap.size + 1) ((L.map (Value.int .i64)).toArray)) :=
    ⟨⟨(setRow_other _ _ _ _ hBne).trans (HC1.out.below (bel_drewN w1 1)).1, hLl⟩, below_setRow ((bel_drewN w1 1).mono (Nat.le_of_lt hlt1)) (Nat.le_refl _) _⟩
  clear h2 hg1 hia
  obtain ⟨w2, hw2⟩ : ∃ w2, w2 = w1.drew.setRow (w.heap.size + 1) ((L.map (Value.int .i64)).toArray) := ⟨_, rfl⟩
  rw [← hw2] at H2 hS2 ⊢
  clear hw2
  refine hK.out _ _ hS2 (fun hNew => ?_)
  clear hK K hHeld
  have hHeld := hNew
  clear hNew
  try simp only [Act.put, pA, pB, pC]
  iterate 2 (refine tkF 11 (v := ?_) ?_ ?_; rotate_left; (· intro V hV; first | (go_simp; done) | (go_simp; with_reducible rfl)); try simp only [Act.put, pA, pB, pC])
  refine wpAnyH_done (by kernel_rfl) ?_ _
  refine NoPanic.normal ?_
  go_wp2_with fail
  refine bodyPost_ret (results_row3 rfl rfl H2.out (by rw [rowI_size]; exact hLl)) rfl ?_
  rw [← HLe.out, ← HMe.out]
  exact ⟨rfl, hB.trans ((hb1.mono hB.size).trans (hS2.2.mono (by omega)))⟩
end Go.Proofs.YtbiinfnekhhfkaaGreat

/- Plain laws of layer 7: what is found in a trie. -/

namespace Go.Proofs.YtbiinfnekhhfkaaGreat
set_option linter.unusedVariables false

/-- The node of a text's bytes. -/
def findP (sp : List (List Int)) (b : List Int) : Int × Bool := if b ∈ sp then ((sp.idxOf b : Int), true) else (0, false)
theorem findP_at {sp : List (List Int)} (hn : sp.Nodup) {i : Nat} {b : List Int} (h : sp[i]? = some b) : findP sp b = ((i : Int), true) := by
  unfold findP
  rw [if_pos (List.mem_of_getElem? h)]
  have := placeS_at hn h
  unfold placeS at this
  rw [if_pos (List.mem_of_getElem? h)] at this
  rw [this]
section
variable {ws : List (List Int)}
theorem trie_up {i : Nat} {x : List Int} (hx : (nodesL ws)[i]? = some x) (h0 : x ≠ []) : ∃ j : Nat, j < i ∧ (trieP ws).up[i]? = some (j : Int) ∧ (nodesL ws)[j]? = some x.dropLast := by
  obtain ⟨j, h1, h2, h3⟩ := up_lt hx h0
  exact ⟨j, h1, by simp [trieP, hx, h3], h2⟩
theorem trie_byt {i : Nat} {x : List Int} (hx : (nodesL ws)[i]? = some x) : (trieP ws).byt[i]? = some (lastB x) := by simp [trieP, hx]
theorem trie_wrd {i : Nat} {x : List Int} (hx : (nodesL ws)[i]? = some x) : (trieP ws).wrd[i]? = some (placeS ws x) := by simp [trieP, hx]
theorem trie_lens : (trieP ws).up.length = (nodesL ws).length ∧ (trieP ws).dep.length = (nodesL ws).length ∧ (trieP ws).wrd.length = (nodesL ws).length ∧ (trieP ws).byt.length = (nodesL ws).length := by simp [trieP]
theorem prefix_node {w x : List Int} (hw : w ∈ ws) (hp : x <+: w) : x ∈ nodesL ws := by
  rw [mem_nodesL, IsBeg.iff]
  by_cases e : x = []
  · exact .inl e
  · exact .inr ⟨e, w, hw, hp⟩
theorem node_prefix (hne : ws ≠ []) {x : List Int} (hx : x ∈ nodesL ws) : ∃ w ∈ ws, x <+: w := by
  rw [mem_nodesL, IsBeg.iff] at hx
  rcases hx with rfl | ⟨_, w, hw, hp⟩
  · obtain ⟨w, hw⟩ := List.exists_mem_of_ne_nil _ hne
    exact ⟨w, hw, List.nil_prefix⟩
  · exact ⟨w, hw, hp⟩
theorem word_find (h : rightP false ws = true) {k : Nat} {x : List Int} (hx : ws[k]? = some x) : ∃ j : Nat, 1 ≤ j ∧ j < (nodesL ws).length ∧ findP (nodesL ws) x = ((j : Int), true) ∧ (trieP ws).wrd[j]? = some (k : Int) := by
  obtain ⟨h1, h2⟩ := right_nodup h
  have h3 := ((right_spec h).2.2.1 x (List.mem_of_getElem? hx)).1
  have hm := prefix_node (List.mem_of_getElem? hx) (List.prefix_refl x)
  obtain ⟨j, hj⟩ := List.getElem?_of_mem hm
  refine ⟨j, ?_, (List.getElem?_eq_some_iff.1 hj).1, findP_at (nodesL_srt ws).nodup hj, by rw [trie_wrd hj, placeS_at h1 hx]⟩
  cases j with
  | zero => rw [nodesL_head] at hj; obtain rfl := Option.some.inj hj; exact absurd rfl h3
  | succ j => omega
end

end Go.Proofs.YtbiinfnekhhfkaaGreat

/- Plain words of layer 8: the longest end of a text that is a node; links, chains, steps. -/

namespace Go.Proofs.YtbiinfnekhhfkaaGreat
set_option linter.unusedVariables false

/-- The longest end of a text that stands in a list. -/
def lsf (N : List (List Int)) : List Int → List Int
  | [] => []
  | a :: t => if (a :: t) ∈ N then a :: t else lsf N t
theorem lsf_suffix (N : List (List Int)) : ∀ b, lsf N b <:+ b
  | [] => List.suffix_refl _
  | a :: t => by
    unfold lsf
    split
    · exact List.suffix_refl _
    · exact (lsf_suffix N t).trans (List.suffix_cons a t)
theorem lsf_mem {N : List (List Int)} (h0 : [] ∈ N) : ∀ b, lsf N b ∈ N
  | [] => h0
  | a :: t => by
    unfold lsf
    split
    · assumption
    · exact lsf_mem h0 t
theorem lsf_max {N : List (List Int)} {y : List Int} (hy : y ∈ N) : ∀ {b}, y <:+ b → y.length ≤ (lsf N b).length
  | [], h => by rw [List.eq_nil_of_suffix_nil h]; exact Nat.zero_le _
  | a :: t, h => by
    unfold lsf
    split
    · exact h.length_le
    · rename_i hn
      rcases List.suffix_cons_iff.1 h with e | h
      · rw [e] at hy; exact absurd hy hn
      · exact lsf_max hy h
theorem lsf_of_mem {N : List (List Int)} {b : List Int} (h : b ∈ N) : lsf N b = b := by
  cases b with
  | nil => rfl
  | cons a t => unfold lsf; rw [if_pos h]
theorem suffix_eq {x y b : List Int} (hx : x <:+ b) (hy : y <:+ b) (h : x.length = y.length) : x = y := by
  obtain ⟨s, rfl⟩ := hx
  obtain ⟨t, ht⟩ := hy
  exact (List.append_inj_right' ht.symm (by omega))
theorem lsf_unique {N : List (List Int)} {b y : List Int} (hy : y ∈ N) (hs : y <:+ b) (h0 : [] ∈ N) (hm : ∀ z, z <:+ b → z ∈ N → z.length ≤ y.length) : lsf N b = y := by
  have h1 := lsf_max hy hs
  have h2 := hm _ (lsf_suffix N b) (lsf_mem h0 b)
  exact suffix_eq (lsf_suffix N b) hs (by omega)
/-- A list that has with a text all of its beginnings. -/
def Pre (N : List (List Int)) : Prop := [] ∈ N ∧ ∀ x c, x ++ [c] ∈ N → x ∈ N
theorem suffix_snoc {y b : List Int} {c : Int} (h : y <:+ b ++ [c]) : y = [] ∨ ∃ z, y = z ++ [c] ∧ z <:+ b := by
  by_cases e : y = []
  · exact .inl e
  · right
    obtain ⟨s, hs⟩ := h
    have h1 := List.dropLast_concat_getLast e
    rw [← h1, ← List.append_assoc] at hs
    obtain ⟨h2, h3⟩ := List.append_inj' hs rfl
    refine ⟨y.dropLast, ?_, s, h2⟩
    have h4 : y.getLast e = c := by simpa using h3
    rw [← h4, h1]
theorem lsf_step {N : List (List Int)} (hN : Pre N) (s : List Int) (c : Int) : lsf N (s ++ [c]) = lsf N (lsf N s ++ [c]) := by
  refine lsf_unique (lsf_mem hN.1 _) ?_ hN.1 (fun z hz hm => ?_)
  · refine (lsf_suffix N _).trans ?_
    obtain ⟨t, ht⟩ := lsf_suffix N s
    exact ⟨t, by rw [← List.append_assoc, ht]⟩
  · rcases suffix_snoc hz with rfl | ⟨y, rfl, hy⟩
    · exact Nat.zero_le _
    · have hyN := hN.2 _ _ hm
      have hle := lsf_max hyN hy
      refine lsf_max hm ?_
      obtain ⟨t, ht⟩ := List.suffix_of_suffix_length_le hy (lsf_suffix N s) hle
      exact ⟨t, by rw [← List.append_assoc, ht]⟩
/-- A node's link. -/
def linkL (N : List (List Int)) (x : List Int) : List Int := lsf N x.tail
/-- A node's chain. -/
def chainL (N : List (List Int)) : Nat → List Int → List (List Int)
  | 0, x => [x]
  | n + 1, x => if x = [] then [x] else x :: chainL N n (linkL N x)
theorem linkL_len {N : List (List Int)} {x : List Int} (h : x ≠ []) : (linkL N x).length < x.length := by
  have h1 := (lsf_suffix N x.tail).length_le
  have : x.length ≠ 0 := fun e => h (List.eq_nil_of_length_eq_zero e)
  rw [List.length_tail] at h1
  unfold linkL
  omega
theorem chainL_head (N : List (List Int)) (n : Nat) (x : List Int) : ∃ l, chainL N n x = x :: l := by
  cases n with
  | zero => exact ⟨[], rfl⟩
  | succ n =>
    unfold chainL
    split
    · exact ⟨[], rfl⟩
    · exact ⟨_, rfl⟩
theorem lsf_none {N : List (List Int)} {c : Int} (h : [c] ∉ N) : lsf N [c] = [] := by
  unfold lsf
  rw [if_neg h]
  rfl
/-- A step asks the chain: the first of its nodes that has a kid by the byte. -/
theorem step_chain {N : List (List Int)} (hN : Pre N) (c : Int) : ∀ {n : Nat} {x : List Int}, x ∈ N → x.length ≤ n →
    lsf N (x ++ [c]) = match (chainL N n x).find? (fun y => decide (y ++ [c] ∈ N)) with | some y => y ++ [c] | none => []
  | n, x, hx, hn => by
    by_cases hk : x ++ [c] ∈ N
    · rw [lsf_of_mem hk]
      obtain ⟨l, hl⟩ := chainL_head N n x
      rw [hl, List.find?_cons, decide_eq_true hk]
    · cases n with
      | zero =>
        have : x = [] := List.eq_nil_of_length_eq_zero (by omega)
        subst this
        have hk' : [c] ∉ N := hk
        show lsf N [c] = _
        rw [lsf_none hk']
        unfold chainL
        rw [List.find?_cons, decide_eq_false hk]
        rfl
      | succ n =>
        unfold chainL
        by_cases e : x = []
        · subst e
          have hk' : [c] ∉ N := hk
          show lsf N [c] = _
          rw [lsf_none hk', if_pos rfl, List.find?_cons, decide_eq_false hk]
          rfl
        · rw [if_neg e, List.find?_cons, decide_eq_false hk]
          dsimp only
          have ih := step_chain hN c (n := n) (x := linkL N x) (lsf_mem hN.1 _) (by have := linkL_len (N := N) e; omega)
          rw [← ih]
          unfold linkL
          rw [← lsf_step hN]
          cases x with
          | nil => exact absurd rfl e
          | cons a t =>
            have hk' : a :: (t ++ [c]) ∉ N := hk
            show lsf N (a :: (t ++ [c])) = lsf N (t ++ [c])
            conv => lhs; unfold lsf
            rw [if_neg hk']
theorem nodes_pre (ws : List (List Int)) : Pre (nodesL ws) :=
  ⟨(mem_nodesL ws).2 (.inl rfl), fun x c h => by
    have := ((mem_nodesL ws).1 h).up
    rw [List.dropLast_concat] at this
    exact (mem_nodesL ws).2 this⟩
theorem lsf_drop {N : List (List Int)} {M : Nat} (h0 : [] ∈ N) (hM : ∀ y ∈ N, y.length ≤ M) (b : List Int) : lsf N (b.drop (b.length - M)) = lsf N b := by
  symm
  refine lsf_unique (lsf_mem h0 _) ((lsf_suffix N _).trans (List.drop_suffix _ _)) h0 (fun z hz hm => ?_)
  refine lsf_max hm (List.suffix_of_suffix_length_le hz (List.drop_suffix _ _) ?_)
  have h1 := hM z hm
  have h2 := hz.length_le
  rw [List.length_drop]
  omega
theorem lsf_next {N : List (List Int)} {b : List Int} {k : Nat} (hk : k < b.length) (h : b.drop k ∉ N) : lsf N (b.drop k) = lsf N (b.drop (k + 1)) := by
  rw [List.drop_eq_getElem_cons hk] at h ⊢
  conv => lhs; unfold lsf
  rw [if_neg h]
theorem lsf_here {N : List (List Int)} {b : List Int} {k : Nat} (h : b.drop k ∈ N) : lsf N (b.drop k) = b.drop k := lsf_of_mem h
theorem lsf_end (N : List (List Int)) (b : List Int) {k : Nat} (hk : b.length ≤ k) : lsf N (b.drop k) = [] := by
  rw [List.drop_eq_nil_of_le hk]; rfl
/-- A shorter node stands ahead. -/
theorem idx_len {ws : List (List Int)} {i k : Nat} {x y : List Int} (hx : (nodesL ws)[i]? = some x) (hy : (nodesL ws)[k]? = some y) (h : y.length < x.length) : k < i := by
  have h1 := (List.getElem?_eq_some_iff.1 hx)
  have h2 := (List.getElem?_eq_some_iff.1 hy)
  rcases Nat.lt_trichotomy k i with hlt | rfl | hgt
  · exact hlt
  · rw [hx] at hy
    have := Option.some.inj hy
    rw [this] at h
    omega
  · have := List.pairwise_iff_getElem.1 (nodesL_srt ws) i k h1.1 h2.1 hgt
    rw [h1.2, h2.2] at this
    have := ltS_len this
    omega
/-- The number of a node's link. -/
def linkI (ws : List (List Int)) (x : List Int) : Int := placeS (nodesL ws) (linkL (nodesL ws) x)
def linksP (ws : List (List Int)) : List Int := (nodesL ws).map (linkI ws)
theorem linkI_at {ws : List (List Int)} (x : List Int) : ∃ k : Nat, linkI ws x = k ∧ (nodesL ws)[k]? = some (linkL (nodesL ws) x) := by
  have hm := lsf_mem (nodes_pre ws).1 x.tail
  obtain ⟨k, hk⟩ := List.getElem?_of_mem hm
  exact ⟨k, placeS_at (nodesL_srt ws).nodup hk, hk⟩
/-- A link by the link of the node above. -/
theorem link_up {ws : List (List Int)} {x : List Int} {c : Int} (h0 : x ≠ []) : linkL (nodesL ws) (x ++ [c]) = lsf (nodesL ws) (linkL (nodesL ws) x ++ [c]) := by
  unfold linkL
  rw [← lsf_step (nodes_pre ws)]
  cases x with
  | nil => exact absurd rfl h0
  | cons a t => rfl
theorem link_one {ws : List (List Int)} (c : Int) : linkL (nodesL ws) [c] = [] := rfl

end Go.Proofs.YtbiinfnekhhfkaaGreat

/- Plain laws of layer 8: what its statements ask of links, chains, steps. -/

namespace Go.Proofs.YtbiinfnekhhfkaaGreat
set_option linter.unusedVariables false

/-- Does a text end with another one? -/
def endsB (b e : List Int) : Bool := decide (e.length ≤ b.length) && decide (b.drop (b.length - e.length) = e)
theorem endsB_iff {b e : List Int} : endsB b e = true ↔ e <:+ b := by
  unfold endsB
  rw [Bool.and_eq_true, decide_eq_true_iff, decide_eq_true_iff]
  constructor
  · rintro ⟨_, h⟩
    exact List.suffix_iff_eq_drop.2 h.symm
  · intro h
    exact ⟨h.length_le, (List.suffix_iff_eq_drop.1 h).symm⟩
section
variable {ws : List (List Int)}
/-- The node of a text: the longest end of it that is a node. -/
theorem deep_law (b : List Int) (c : Int) : endsB (b ++ [c]) (lsf (nodesL ws) (b ++ [c])) = true ∧ (lsf (nodesL ws) (b ++ [c])).length ≤ (lsf (nodesL ws) b).length + 1 ∧ lsf (nodesL ws) (b ++ [c]) = lsf (nodesL ws) (lsf (nodesL ws) b ++ [c]) := by
  have h := lsf_step (nodes_pre ws) b c
  refine ⟨endsB_iff.2 (lsf_suffix _ _), ?_, h⟩
  rw [h]
  have := (lsf_suffix (nodesL ws) (lsf (nodesL ws) b ++ [c])).length_le
  rw [List.length_append, List.length_singleton] at this
  exact this
/-- Steps, one behind the other. -/
def goL (N : List (List Int)) (b : List Int) : List Int := b.foldl (fun x c => lsf N (x ++ [c])) []
theorem goL_snoc (N : List (List Int)) (b : List Int) (c : Int) : goL N (b ++ [c]) = lsf N (goL N b ++ [c]) := by simp [goL, List.foldl_append]
theorem goL_eq (b : List Int) : goL (nodesL ws) b = lsf (nodesL ws) b := by
  refine snoc_ind (P := fun b => goL (nodesL ws) b = lsf (nodesL ws) b) rfl (fun l c ih => ?_) b
  rw [goL_snoc, ih, ← lsf_step (nodes_pre ws)]
end

end Go.Proofs.YtbiinfnekhhfkaaGreat

/- Plain laws of layer 7: the document's way of reading a trie. -/

namespace Go.Proofs.YtbiinfnekhhfkaaGreat
set_option linter.unusedVariables false

/-- A node's bytes, by what is told above it: so many steps at most. -/
def spR (T : TrieT) : Nat → Int → List Int → List Int
  | 0, _, out => out
  | k + 1, node, out => if 0 < node ∧ node < (T.up.length : Int) ∧ node < (T.byt.length : Int) then spR T k ((T.up[node.toNat]?).getD 0) (((T.byt[node.toNat]?).getD 0) :: out) else out
def spellR (T : TrieT) (node : Int) : List Int := spR T 32 node []
def wordsFrom (T : TrieT) : Nat → Nat → List (List Int)
  | 0, _ => []
  | f + 1, w => match T.wrd.findIdx? (fun v => decide (v = (w : Int))) with
    | none => []
    | some i => spellR T i :: wordsFrom T f (w + 1)
def wordsR (T : TrieT) : List (List Int) := wordsFrom T 64 0
def rightR7 (T : TrieT) : Bool := decide (T.up.length ≤ 400 ∧ T.wrd.length ≤ 400) && (rightP false (wordsR T) && eqT (trieP (wordsR T)) T)
section
variable {ws : List (List Int)}
theorem spR_trie : ∀ (k : Nat) {j : Nat} {x out : List Int}, (nodesL ws)[j]? = some x → x.length ≤ k → spR (trieP ws) k (j : Int) out = x ++ out
  | 0, j, x, out, hx, hk => by
    have : x = [] := List.eq_nil_of_length_eq_zero (by omega)
    subst this
    rfl
  | k + 1, j, x, out, hx, hk => by
    by_cases h0 : x = []
    · subst h0
      have hj := nodup_at (nodesL_srt ws).nodup hx (nodesL_head ws)
      subst hj
      unfold spR
      rw [if_neg (fun h => by have := h.1; omega)]
      rfl
    · obtain ⟨i, hij, hup, hix⟩ := trie_up hx h0
      have hjl := (List.getElem?_eq_some_iff.1 hx).1
      obtain ⟨l1, l2, l3, l4⟩ := trie_lens (ws := ws)
      have hlen : x.dropLast.length ≤ k := by rw [List.length_dropLast]; omega
      unfold spR
      rw [if_pos ⟨by omega, by omega, by omega⟩, Int.toNat_natCast, hup, trie_byt hx, Option.getD_some, Option.getD_some, spR_trie k hix hlen]
      rw [← List.singleton_append, ← List.append_assoc, dropLast_lastB h0]
theorem node_len (h : rightP false ws = true) {j : Nat} {x : List Int} (hx : (nodesL ws)[j]? = some x) : x.length ≤ 32 := by
  obtain ⟨h1, h2, h3, _⟩ := right_spec h
  obtain ⟨w, hw, hp⟩ := node_prefix h2 (List.mem_of_getElem? hx)
  have := hp.length_le
  have := (h3 w hw).2
  omega
theorem spellR_trie (h : rightP false ws = true) {j : Nat} {x : List Int} (hx : (nodesL ws)[j]? = some x) : spellR (trieP ws) j = x := by
  unfold spellR
  rw [spR_trie 32 hx (node_len h hx), List.append_nil]
theorem wordsFrom_trie (h : rightP false ws = true) : ∀ (f w : Nat), ws.length ≤ w + f → wordsFrom (trieP ws) f w = ws.drop w
  | 0, w, hf => by rw [List.drop_eq_nil_of_le (by omega)]; rfl
  | f + 1, w, hf => by
    have hnd := (right_nodup h).1
    unfold wordsFrom
    by_cases hw : w < ws.length
    · obtain ⟨x, hx⟩ : ∃ x, ws[w]? = some x := ⟨ws[w], by simp [hw]⟩
      obtain ⟨j, j1, j2, j3, j4⟩ := word_find h hx
      cases e : (trieP ws).wrd.findIdx? (fun v => decide (v = (w : Int))) with
      | none =>
        rw [List.findIdx?_eq_none_iff] at e
        have := e _ (List.mem_of_getElem? j4)
        simp at this
      | some i =>
        obtain ⟨hi, h1, _⟩ := List.findIdx?_eq_some_iff_getElem.1 e
        have h1 := of_decide_eq_true h1
        have hil : i < (nodesL ws).length := by rw [← trie_lens.2.2.1]; exact hi
        obtain ⟨y, hy⟩ : ∃ y, (nodesL ws)[i]? = some y := ⟨(nodesL ws)[i], by simp [hil]⟩
        have hwy := trie_wrd hy
        rw [List.getElem?_eq_getElem hi, h1] at hwy
        have hpy := Option.some.inj hwy
        have hyx : y = x := by
          by_cases hm : y ∈ ws
          · obtain ⟨v, hv⟩ := List.getElem?_of_mem hm
            rw [placeS_at hnd hv] at hpy
            have : v = w := by omega
            subst this
            rw [hv] at hx
            exact Option.some.inj hx
          · rw [placeS_no hm] at hpy; omega
        subst hyx
        dsimp only
        rw [spellR_trie h hy, wordsFrom_trie h f (w + 1) (by omega)]
        rw [List.drop_eq_getElem_cons hw]
        congr 1
        rw [List.getElem?_eq_getElem hw] at hx
        exact (Option.some.inj hx).symm
    · have e : (trieP ws).wrd.findIdx? (fun v => decide (v = (w : Int))) = none := by
        rw [List.findIdx?_eq_none_iff]
        intro v hv
        obtain ⟨i, hi⟩ := List.getElem?_of_mem hv
        have hil := (List.getElem?_eq_some_iff.1 hi).1
        rw [trie_lens.2.2.1] at hil
        obtain ⟨y, hy⟩ : ∃ y, (nodesL ws)[i]? = some y := ⟨(nodesL ws)[i], by simp [hil]⟩
        rw [trie_wrd hy] at hi
        have hpy := Option.some.inj hi
        apply decide_eq_false
        intro e
        rw [e] at hpy
        by_cases hm : y ∈ ws
        · obtain ⟨u, hu⟩ := List.getElem?_of_mem hm
          rw [placeS_at hnd hu] at hpy
          have := (List.getElem?_eq_some_iff.1 hu).1
          omega
        · rw [placeS_no hm] at hpy; omega
      rw [e, List.drop_eq_nil_of_le (by omega)]
theorem wordsR_trie (h : rightP false ws = true) : wordsR (trieP ws) = ws := by
  unfold wordsR
  rw [wordsFrom_trie h 64 0 (by have := (right_spec h).1; omega), List.drop_zero]
end
/-- The document's trie that may be is the program's. -/
theorem rightR7_eq (T : TrieT) : rightR7 T = (readP T).isSome := by
  cases e : readP T with
  | some r =>
    obtain ⟨sp, ws⟩ := r
    obtain ⟨h1, rfl, rfl⟩ := readP_iff.1 e
    have hn := (right_nodes h1).2
    unfold rightR7
    rw [wordsR_trie h1, h1, eqT_iff.2 rfl, decide_eq_true ⟨by rw [trie_lens.1]; exact hn, by rw [trie_lens.2.2.1]; exact hn⟩]
    rfl
  | none =>
    cases h : rightR7 T with
    | false => rfl
    | true =>
      exfalso
      unfold rightR7 at h
      rw [Bool.and_eq_true, Bool.and_eq_true] at h
      have h2 := eqT_iff.1 h.2.2
      have h3 := readP_trie h.2.1
      rw [h2, e] at h3
      cases h3
theorem readR7 {T : TrieT} {sp ws : List (List Int)} (h : readP T = some (sp, ws)) : wordsR T = ws ∧ ∀ (j : Nat) (x : List Int), sp[j]? = some x → spellR T j = x := by
  obtain ⟨h1, rfl, rfl⟩ := readP_iff.1 h
  exact ⟨wordsR_trie h1, fun j x hx => spellR_trie h1 hx⟩
/-- Where the document puts a text in. -/
theorem putS_at : ∀ {l : List (List Int)} {b : List Int} {k : Nat}, k ≤ l.length → (∀ (i : Nat) (y : List Int), i < k → l[i]? = some y → ltS y b = true) → (∀ y, l[k]? = some y → ltS y b = false) → putS l b = if l[k]? = some b then l else l.take k ++ b :: l.drop k
  | [], b, k, hk, _, _ => by
    have : k = 0 := by simpa using hk
    subst this
    simp [putS]
  | y :: ys, b, 0, _, _, h2 => by
    have h := h2 y rfl
    unfold putS
    rw [if_neg (by rw [h]; simp)]
    by_cases e : y = b
    · rw [if_pos e, if_pos (by rw [e]; rfl)]
    · rw [if_neg e, if_neg (by simpa using e)]
      rfl
  | y :: ys, b, k + 1, hk, h1, h2 => by
    have h := h1 0 y (by omega) rfl
    have ih := putS_at (l := ys) (b := b) (k := k) (by simpa using hk) (fun i z hi hz => h1 (i + 1) z (by omega) (by simpa using hz)) (fun z hz => h2 z (by simpa using hz))
    unfold putS
    rw [if_pos h, ih]
    simp only [List.getElem?_cons_succ, List.take_succ_cons, List.drop_succ_cons]
    split
    · rfl
    · rfl
/-- A text lesser than another one of its length: by the first byte in which they differ. -/
theorem lexB_at : ∀ {x y : List Int} {i : Nat} {a b : Int}, x.take i = y.take i → x[i]? = some a → y[i]? = some b → a ≠ b → lexB x y = decide (a < b)
  | [], _, i, a, b, _, h, _, _ => by simp at h
  | _ :: _, [], i, a, b, _, _, h, _ => by simp at h
  | p :: x, q :: y, 0, a, b, _, ha, hb, hn => by
    simp at ha hb
    subst ha hb
    unfold lexB
    by_cases h : p < q
    · rw [if_pos h, decide_eq_true h]
    · rw [if_neg h, if_pos (by omega), decide_eq_false h]
  | p :: x, q :: y, i + 1, a, b, h, ha, hb, hn => by
    simp only [List.take_succ_cons, List.cons.injEq] at h
    obtain ⟨rfl, h⟩ := h
    have ih := lexB_at h (by simpa using ha) (by simpa using hb) hn
    unfold lexB
    rw [if_neg (by omega), if_neg (by omega)]
    exact ih
theorem ltS_eq_len {x y : List Int} (h : x.length = y.length) : ltS x y = lexB x y := by unfold ltS; rw [if_neg (by omega), if_neg (by omega)]
theorem ltS_ne_len {x y : List Int} (h : x.length ≠ y.length) : ltS x y = decide (x.length < y.length) := by
  unfold ltS
  by_cases e : x.length < y.length
  · rw [if_pos e, decide_eq_true e]
  · rw [if_neg e, if_pos (by omega), decide_eq_false e]
theorem placeS_first {l : List (List Int)} {b : List Int} {i : Nat} (h : l[i]? = some b) (hn : b ∉ l.take i) : placeS l b = i := by
  have hj := (List.getElem?_eq_some_iff.1 h)
  have hjl := hj.1
  unfold placeS
  rw [if_pos (List.mem_of_getElem? h)]
  have e : l = l.take i ++ b :: l.drop (i + 1) := by rw [← hj.2]; simp
  have : l.idxOf b = i := by
    rw [e, List.idxOf_append, if_neg hn, List.idxOf_cons_self, List.length_take]
    omega
  rw [this]

end Go.Proofs.YtbiinfnekhhfkaaGreat

/- Links, chains and edges by numbers (layer 8): plain. -/


namespace Go.Proofs.YtbiinfnekhhfkaaGreat
open Go Go.RowKit Go.Sort
set_option linter.unusedVariables false
set_option linter.unusedSimpArgs false

/-- The edges of the first nodes behind the root. -/
def edgeF (U B : List Int) : Nat → Int × Int → Option Int
  | 0, _ => none
  | j + 1, q => if q = ((U[j + 1]?).getD 0, (B[j + 1]?).getD 0) then some ((j : Int) + 1) else edgeF U B j q
theorem edgeF_some {U B : List Int} {q : Int × Int} {k : Int} : ∀ {j : Nat}, edgeF U B j q = some k → ∃ i : Nat, 1 ≤ i ∧ i ≤ j ∧ k = i ∧ q = ((U[i]?).getD 0, (B[i]?).getD 0)
  | 0, h => by simp [edgeF] at h
  | j + 1, h => by
    unfold edgeF at h
    split at h
    · rename_i hq
      exact ⟨j + 1, by omega, Nat.le_refl _, by have := Option.some.inj h; omega, hq⟩
    · obtain ⟨i, h1, h2, h3⟩ := edgeF_some h
      exact ⟨i, h1, by omega, h3⟩
theorem edgeF_none {U B : List Int} {q : Int × Int} : ∀ {j : Nat}, edgeF U B j q = none → ∀ i : Nat, 1 ≤ i → i ≤ j → q ≠ ((U[i]?).getD 0, (B[i]?).getD 0)
  | 0, h, i, h1, h2 => by omega
  | j + 1, h, i, h1, h2 => by
    unfold edgeF at h
    split at h
    · cases h
    · rename_i hq
      by_cases e : i = j + 1
      · subst e; exact hq
      · exact edgeF_none h i h1 (by omega)

section
variable {ws : List (List Int)}
theorem node_zero {i : Nat} {x : List Int} (hx : (nodesL ws)[i]? = some x) : i = 0 ↔ x = [] := by
  have h0 := nodesL_head ws
  constructor
  · rintro rfl
    rw [h0] at hx
    exact (Option.some.inj hx).symm
  · rintro rfl
    have h1 := placeS_at (nodesL_srt ws).nodup hx
    have h2 := placeS_at (nodesL_srt ws).nodup h0
    omega
theorem node_inj {i k : Nat} {x : List Int} (hi : (nodesL ws)[i]? = some x) (hk : (nodesL ws)[k]? = some x) : i = k := by
  have h1 := placeS_at (nodesL_srt ws).nodup hi
  have h2 := placeS_at (nodesL_srt ws).nodup hk
  omega
theorem trie_row {i : Nat} {y : List Int} (hy : (nodesL ws)[i]? = some y) : (trieP ws).up[i]? = some (placeS (nodesL ws) y.dropLast) ∧ (trieP ws).byt[i]? = some (lastB y) ∧ (trieP ws).dep[i]? = some (y.length : Int) ∧ (trieP ws).wrd[i]? = some (placeS ws y) := by
  simp [trieP, hy]
theorem up_mem {y : List Int} (hy : y ∈ nodesL ws) : y.dropLast ∈ nodesL ws := (mem_nodesL ws).2 ((mem_nodesL ws).1 hy).up
theorem snoc_last {y : List Int} (h : y ≠ []) : y = y.dropLast ++ [lastB y] := by
  obtain ⟨q, hq⟩ : ∃ q, y.length = q + 1 := ⟨y.length - 1, by have : y.length ≠ 0 := fun e => h (List.eq_nil_of_length_eq_zero e); omega⟩
  unfold lastB
  rw [List.getLast?_eq_some_getLast h]
  exact (List.dropLast_concat_getLast h).symm
/-- What the edges say: the node of the bytes and one more, if it is one. -/
theorem edge_is {z : Nat} {x : List Int} (hx : (nodesL ws)[z]? = some x) (c : Int) :
    edgeF (trieP ws).up (trieP ws).byt ((nodesL ws).length - 1) ((z : Int), c) = if x ++ [c] ∈ nodesL ws then some (placeS (nodesL ws) (x ++ [c])) else none := by
  have hnd := (nodesL_srt ws).nodup
  cases e : edgeF (trieP ws).up (trieP ws).byt ((nodesL ws).length - 1) ((z : Int), c) with
  | some k =>
    obtain ⟨i, h1, h2, rfl, hq⟩ := edgeF_some e
    obtain ⟨y, hy⟩ : ∃ y, (nodesL ws)[i]? = some y := ⟨(nodesL ws)[i]'(by omega), by simp⟩
    obtain ⟨u1, u2, _⟩ := trie_row hy
    rw [u1, u2] at hq
    simp only [Option.getD_some, Prod.mk.injEq] at hq
    have hy0 : y ≠ [] := fun e2 => by have := (node_zero hy).2 e2; omega
    obtain ⟨j, hj⟩ := List.getElem?_of_mem (up_mem (List.mem_of_getElem? hy))
    have hp := placeS_at hnd hj
    have hjz : j = z := by omega
    subst hjz
    rw [hx] at hj
    have hxy : x ++ [c] = y := by rw [Option.some.inj hj, hq.2]; exact (snoc_last hy0).symm
    rw [hxy, if_pos (List.mem_of_getElem? hy), placeS_at hnd hy]
  | none =>
    rw [if_neg]
    intro hm
    obtain ⟨i, hi⟩ := List.getElem?_of_mem hm
    have hil := (List.getElem?_eq_some_iff.1 hi).1
    have hi0 : i ≠ 0 := fun e2 => by have := (node_zero hi).1 e2; simp at this
    obtain ⟨u1, u2, _⟩ := trie_row hi
    refine edgeF_none e i (by omega) (by omega) ?_
    rw [u1, u2]
    simp only [Option.getD_some, Prod.mk.injEq, List.dropLast_concat]
    refine ⟨(placeS_at hnd hx).symm, ?_⟩
    simp [lastB]

/-- A node's chain, by numbers, over a row of links. -/
def chN (L : List Int) : Nat → Nat → List Nat
  | 0, z => [z]
  | f + 1, z => if z = 0 then [z] else z :: chN L f ((L[z]?).getD 0).toNat
/-- The first links are the nodes'. -/
def LinkOK (ws : List (List Int)) (L : List Int) (i : Nat) : Prop := ∀ (j : Nat) (x : List Int), j < i → (nodesL ws)[j]? = some x → L[j]? = some (linkI ws x)
theorem LinkOK.at_ {L : List Int} {i z : Nat} (h : LinkOK ws L i) {x : List Int} (hz : z < i) (hx : (nodesL ws)[z]? = some x) (h0 : z ≠ 0) : ∃ k : Nat, L[z]? = some (k : Int) ∧ k < z ∧ (nodesL ws)[k]? = some (linkL (nodesL ws) x) := by
  obtain ⟨k, h1, h2⟩ := linkI_at (ws := ws) x
  have hl := h z x hz hx
  rw [h1] at hl
  refine ⟨k, hl, idx_len hx h2 (linkL_len fun e => h0 ((node_zero hx).2 e)), h2⟩
theorem ch_chain {L : List Int} {i : Nat} (h : LinkOK ws L i) : ∀ {f g z : Nat} {x : List Int}, z < i → z ≤ f → (nodesL ws)[z]? = some x → x.length ≤ g → (chN L f z).map (fun k => (nodesL ws)[k]?) = (chainL (nodesL ws) g x).map some
  | 0, g, z, x, hz, hf, hx, hg => by
    obtain rfl : z = 0 := by omega
    have hx0 := (node_zero hx).1 rfl
    subst hx0
    cases g <;> simp [chN, chainL, hx]
  | f + 1, g, z, x, hz, hf, hx, hg => by
    unfold chN
    by_cases h0 : z = 0
    · subst h0
      have hx0 := (node_zero hx).1 rfl
      subst hx0
      cases g <;> simp [chainL, hx]
    · have hx0 : x ≠ [] := fun e => h0 ((node_zero hx).2 e)
      obtain ⟨k, h1, h2, h3⟩ := h.at_ hz hx h0
      obtain ⟨g', rfl⟩ : ∃ g', g = g' + 1 := ⟨g - 1, by have : x.length ≠ 0 := fun e => hx0 (List.eq_nil_of_length_eq_zero e); omega⟩
      unfold chainL
      rw [if_neg h0, if_neg hx0, h1, List.map_cons, List.map_cons, hx, Option.getD_some, Int.toNat_natCast, ch_chain (g := g') h (by omega) (by omega) h3 (by have := linkL_len (N := nodesL ws) hx0; omega)]
theorem ch_split {L : List Int} {i f g z0 : Nat} (h : LinkOK ws L i) {x : List Int} (hz : z0 < i) (hf : z0 ≤ f) (hx : (nodesL ws)[z0]? = some x) (hg : x.length ≤ g) {p : List Nat} {r : List Nat} (hs : chN L f z0 = p ++ r) :
    ∃ l1 l2, chainL (nodesL ws) g x = l1 ++ l2 ∧ p.map (fun k => (nodesL ws)[k]?) = l1.map some ∧ r.map (fun k => (nodesL ws)[k]?) = l2.map some := by
  have hc := ch_chain h hz hf hx hg
  rw [hs, List.map_append] at hc
  obtain ⟨l1, l2, h1, h2, h3⟩ := List.map_eq_append_iff.1 hc.symm
  exact ⟨l1, l2, h1, h2.symm, h3.symm⟩
theorem find_none {c : Int} {p : List Nat} {l1 : List (List Int)} (hp : p.map (fun k => (nodesL ws)[k]?) = l1.map some) (hn : ∀ y ∈ p, edgeF (trieP ws).up (trieP ws).byt ((nodesL ws).length - 1) ((y : Int), c) = none) : ∀ y ∈ l1, ¬ (y ++ [c] ∈ nodesL ws) := by
  intro y hy hm
  have : some y ∈ p.map (fun k => (nodesL ws)[k]?) := by rw [hp]; exact List.mem_map_of_mem hy
  obtain ⟨k, hk, hk2⟩ := List.mem_map.1 this
  have h1 := hn k hk
  rw [edge_is hk2, if_pos hm] at h1
  cases h1
/-- The step, where an edge is found. -/
theorem step_some {L : List Int} {i f z0 z : Nat} (h : LinkOK ws L i) {x : List Int} (hz : z0 < i) (hf : z0 ≤ f) (hx : (nodesL ws)[z0]? = some x) {p r : List Nat} {c k : Int} (hs : chN L f z0 = p ++ [z] ++ r)
    (hn : ∀ y ∈ p, edgeF (trieP ws).up (trieP ws).byt ((nodesL ws).length - 1) ((y : Int), c) = none) (hk : edgeF (trieP ws).up (trieP ws).byt ((nodesL ws).length - 1) ((z : Int), c) = some k) : k = placeS (nodesL ws) (lsf (nodesL ws) (x ++ [c])) := by
  obtain ⟨l0, l2, h1, h2, _⟩ := ch_split h hz hf hx (Nat.le_refl _) hs
  rw [List.map_append] at h2
  obtain ⟨l1, ly, rfl, h3, h4⟩ := List.map_eq_append_iff.1 h2.symm
  obtain ⟨y, rfl, hy⟩ : ∃ y, ly = [y] ∧ (nodesL ws)[z]? = some y := by
    cases ly with
    | nil => simp at h4
    | cons y t =>
      cases t with
      | nil => exact ⟨y, rfl, by simpa using h4.symm⟩
      | cons _ _ => simp at h4
  rw [edge_is hy] at hk
  have hm : y ++ [c] ∈ nodesL ws := by
    by_cases e : y ++ [c] ∈ nodesL ws
    · exact e
    · rw [if_neg e] at hk; cases hk
  rw [if_pos hm] at hk
  rw [step_chain (nodes_pre ws) c (List.mem_of_getElem? hx) (Nat.le_refl _), h1]
  have hf1 : l1.find? (fun y => decide (y ++ [c] ∈ nodesL ws)) = none := by
    rw [List.find?_eq_none]
    intro q hq
    simpa using find_none h3.symm hn q hq
  rw [List.append_assoc, List.find?_append, hf1]
  simp [hm]
  exact (Option.some.inj hk).symm
/-- .. where none is. -/
theorem step_none {L : List Int} {i f z0 : Nat} (h : LinkOK ws L i) {x : List Int} (hz : z0 < i) (hf : z0 ≤ f) (hx : (nodesL ws)[z0]? = some x) {c : Int}
    (hn : ∀ y ∈ chN L f z0, edgeF (trieP ws).up (trieP ws).byt ((nodesL ws).length - 1) ((y : Int), c) = none) : (0 : Int) = placeS (nodesL ws) (lsf (nodesL ws) (x ++ [c])) := by
  have hc := ch_chain h hz hf hx (Nat.le_refl _)
  rw [step_chain (nodes_pre ws) c (List.mem_of_getElem? hx) (Nat.le_refl _)]
  have hf1 : (chainL (nodesL ws) x.length x).find? (fun y => decide (y ++ [c] ∈ nodesL ws)) = none := by
    rw [List.find?_eq_none]
    intro q hq
    simpa using find_none hc hn q hq
  rw [hf1]
  have := placeS_at (nodesL_srt ws).nodup (nodesL_head ws)
  simp [this]
theorem linksP_at {j : Nat} {x : List Int} (hx : (nodesL ws)[j]? = some x) : (linksP ws)[j]? = some (linkI ws x) := by simp [linksP, hx]
theorem linksOK (ws : List (List Int)) (i : Nat) : LinkOK ws (linksP ws) i := fun j x _ hx => linksP_at hx
theorem linkI_up {j u : Nat} {x : List Int} (hx : (nodesL ws)[j]? = some x) (h0 : j ≠ 0) (hu : (trieP ws).up[j]? = some (u : Int)) :
    ∃ y, (nodesL ws)[u]? = some y ∧ u < j ∧ (trieP ws).byt[j]? = some (lastB x) ∧ x = y ++ [lastB x] ∧ (u = 0 → linkI ws x = 0) ∧ (u ≠ 0 → ∃ (k : Nat) (v : List Int), linkI ws y = k ∧ (nodesL ws)[k]? = some v ∧ linkI ws x = placeS (nodesL ws) (lsf (nodesL ws) (v ++ [lastB x]))) := by
  have hx0 : x ≠ [] := fun e => h0 ((node_zero hx).2 e)
  obtain ⟨u1, u2, _⟩ := trie_row hx
  obtain ⟨q, hq⟩ := List.getElem?_of_mem (up_mem (List.mem_of_getElem? hx))
  have hp := placeS_at (nodesL_srt ws).nodup hq
  rw [u1, hp] at hu
  obtain rfl : q = u := by have := Option.some.inj hu; omega
  have hxs := snoc_last hx0
  refine ⟨x.dropLast, hq, idx_len hx hq (by rw [List.length_dropLast]; have : x.length ≠ 0 := fun e => hx0 (List.eq_nil_of_length_eq_zero e); omega), u2, hxs, fun e => ?_, fun e => ?_⟩
  · have hd : x.dropLast = [] := (node_zero hq).1 e
    rw [hd] at hxs
    unfold linkI
    rw [hxs]
    show placeS (nodesL ws) (linkL (nodesL ws) ([] ++ [lastB x])) = 0
    rw [List.nil_append, link_one]
    exact placeS_at (nodesL_srt ws).nodup (nodesL_head ws)
  · have hd : x.dropLast ≠ [] := fun e2 => e ((node_zero hq).2 e2)
    obtain ⟨k, h1, h2⟩ := linkI_at (ws := ws) x.dropLast
    refine ⟨k, _, h1, h2, ?_⟩
    rw [← link_up hd, ← hxs]
    rfl
end

end Go.Proofs.YtbiinfnekhhfkaaGreat

/- The bytes of a trie's nodes (layer 7): walked. -/



namespace Go.Proofs.YtbiinfnekhhfkaaGreat
open Go.RowKit Go.Sort
set_option linter.unusedVariables false
set_option linter.unusedSimpArgs false

abbrev Sv := Option Addr × Nat × Nat
abbrev svV (v : Sv) : Value := .slice v.1 v.2.1 v.2.2
/-- Rows that a call lays one by one into a block of its own: the first ones are laid, the others are nil. -/
structure RowsAt (g n : Nat) (l : List (List Int)) (W : World) : Prop where
  ex : ∃ vs : List Sv, W.heap[g]? = some (.cells (vs.map svV).toArray 25 (0, 0)) ∧ vs.length = n ∧ l.length ≤ n ∧ ∀ (i : Nat) (v : Sv) (x : List Int), vs[i]? = some v → l[i]? = some x → Bys W v.1 v.2.1 x ∧ v.2.1 ≤ v.2.2

theorem sl_info : (Tryz.prog.info? 25).map (fun i => (i.zero, i.size, i.bytes)) = some (some (.slice none 0 0), 1, 24) := by kernel_rfl
def rowsNil (n : Nat) : Array Value := Array.replicate n (.slice none 0 0)
theorem made_nil (n : Nat) : madeCells (Value.slice none 0 0).cells n = rowsNil n := by
  apply Array.ext
  · simp [madeCells, rowsNil]
  · intro i h1 h2
    simp [madeCells, rowsNil, Value.cells, Nat.mod_one]
theorem spTo_none {T : TrieT} {i : Nat} (hi : 1 ≤ i) (h : spTo T i = none) : ∀ k, i ≤ k → spTo T k = none := by
  intro k hk
  obtain ⟨d, rfl⟩ : ∃ d, k = i + d := ⟨k - i, by omega⟩
  clear hk
  induction d with
  | zero => exact h
  | succ d ih =>
    obtain ⟨j, hj⟩ : ∃ j, i + d = j + 1 := ⟨i + d - 1, by omega⟩
    rw [show i + (d + 1) = j + 2 by omega]
    unfold spTo
    rw [← hj, ih]
    rfl

theorem Bys.setSl {w : World} {a : Option Addr} {n : Nat} {x : List Int} (h : Bys w a n x) {g i : Nat} {vs : List Sv} {t : TypeId} (hg : w.heap[g]? = some (.cells (vs.map svV).toArray t (0, 0))) (u : Value) : Bys (w.setCell ⟨g, i, none⟩ u) a n x := by
  refine ⟨⟨h.1.1, ?_⟩, h.2⟩
  rcases h.1.2 with h0 | ⟨b, off, e, hlt, hc⟩
  · exact .inl h0
  · by_cases hn : x = []
    · left; have := h.1.1; rw [hn] at this; simpa using this.symm
    · refine .inr ⟨b, off, e, by simpa [World.setCell] using hlt, fun j y hy => ?_⟩
      have hbg : g ≠ b := by
        rintro rfl
        have hj := hc j y hy
        rw [cell_of_row w g (off + j) _ _ _ hg] at hj
        simp only [List.getElem?_toArray, List.getElem?_map, Option.map_eq_some_iff] at hj
        obtain ⟨v, _, hv⟩ := hj
        cases hv
      rw [World.cell?_setCell_far _ _ _ _ hbg]
      exact hc j y hy

theorem RowsAt.step {g n i : Nat} {l : List (List Int)} {W W2 : World} (hR : RowsAt g n l W) (hl : l.length = i) (hi : i < n) (hB : Below W.heap.size W W2) {a : Option Addr} {m c : Nat} {x : List Int} (hx : Bys W2 a m x) (hm : m ≤ c) :
    RowsAt g n (l ++ [x]) (W2.setCell ⟨g, i, none⟩ (.slice a m c)) := by
  obtain ⟨vs, hvs, hvl, hll, hrow⟩ := hR.ex
  have h2 : W2.heap[g]? = _ := (hB.block g (Array.getElem?_eq_some_iff.1 hvs).1).trans hvs
  refine ⟨vs.set i (a, m, c), ?_, by simp [hvl], by simp; omega, fun j v y hv hy => ?_⟩
  · have := set_at (i := i) h2 (.slice a m c)
    simpa [List.map_set, svV] using this
  · by_cases hj : j = i
    · subst hj
      rw [List.getElem?_set_self (by omega)] at hv
      obtain rfl := Option.some.inj hv
      rw [← hl, List.getElem?_concat_length] at hy
      obtain rfl := Option.some.inj hy
      exact ⟨hx.setSl h2 _, hm⟩
    · rw [List.getElem?_set_ne (Ne.symm hj)] at hv
      have hjl := (List.getElem?_eq_some_iff.1 hy).1
      rw [List.getElem?_append_left (by simp at hjl; omega)] at hy
      obtain ⟨h3, h4⟩ := hrow j v y hv hy
      exact ⟨(h3.below hB).setSl h2 _, h4⟩

theorem spTo_lt {T : TrieT} : ∀ {i : Nat} {l : List (List Int)}, spTo T i = some l → ∀ x ∈ l, x.length < i
  | 0, l, h => by simp [spTo] at h
  | 1, l, h => by simp [spTo] at h; subst h; simp
  | i + 2, l, h => by
    unfold spTo at h
    obtain ⟨l0, h0, h1⟩ := Option.bind_eq_some_iff.1 h
    have ih := spTo_lt h0
    split at h1
    · split at h1
      · obtain ⟨p, hp, rfl⟩ := Option.map_eq_some_iff.1 h1
        intro x hx
        rcases List.mem_append.1 hx with hx | hx
        · have := ih x hx; omega
        · rw [List.mem_singleton] at hx
          subst hx
          have := ih p (List.mem_of_getElem? hp)
          simp
          omega
      · cases h1
    · cases h1
/-- append of a slice that came in, nil or not, at a step of a region that draws its order. -/
theorem step_append_sl1 {P : Program} {w : World} {ops : Array Oper} {o : Oper} {a : Act} {K : Act → World → Prop} {Q : Exit → Act → World → Prop} {E : Prop} (hgd : o.guard = none) (s x : Operand) (t : TypeId)
    (ho : o.op = .call { callee := .builtin .append, args := #[s, x], argTypes := #[t, t] }) {α : Type} {enc : α → Value} (hone : ∀ x, (enc x).oneCell' = true)
    (base : Nat) (e : TypeId) (i : TypeInfo) (z : Value) (bytes : Nat) (ht : P.underlying t = some (.slice e)) (hi : P.info? e = some i) (hz : i.zero = some z) (hsize : i.size = 1) (hby : i.bytes = bytes) (hzs : z.cells.size = 1)
    (v : Value) (n : Nat) (xs : List Value) (hs : a.eval s = v) (hown : w.ownsRow base e 1 v n xs) (A : Option Addr) (m c : Nat) (ys : List α) (hx : a.eval x = .slice A m c) (hsl : Sl1 enc w A m ys)
    (h63 : n + m ≤ maxLen) (hbytes : (n + m) * bytes ≤ 140737488355328) (hbase : base ≤ w.heap.size)
    (h : ∀ v' w', w'.ownsRow base e 1 v' (n + m) (xs ++ ys.map enc) → w.grownBy w' v.ownBlock → (v'.ownBlock = v.ownBlock ∨ v'.ownBlock = some w.heap.size) → K (a.put o.dst v') w') :
    if Region.wanted o (yielded ops a.tmps) = true then Oper.wp P o a w K Q else E := by
  have hw : Region.wanted o (yielded ops a.tmps) = true := by simp [Region.wanted, hgd]
  rw [if_pos hw]
  obtain ⟨v', w', hr, h2, h3, h4⟩ := run_append_sl1 (P := P) hone w base t o.type e i z bytes ht hi hz hsize hby hzs v n xs hown A m c ys hsl h63 hbytes hbase
  unfold Oper.wp execOp
  simp only [ho, resolve, invoke, builtin, Sem.run_bind, Sem.run_pure, Result.andThen_ok, List.map_toArray, List.map_cons, List.map_nil, hs, hx, hr]
  exact h v' w' h2 h3 h4

attribute [local go_sem ↓] Go.wp_at_zero Go.wp_at_succ
set_option maxRecDepth 100000 in
set_option maxHeartbeats 4000000 in
theorem spell_any (t : TV) (T : TrieT) (w : World) (hT : Tri w t T) (hb : t.un ≤ 140737488351232) :
    Calls Tryz.prog 179 #[.agg t.cells] w fun e w' => (∀ sp, spO T = some sp → ∃ g, e = .returned (.tuple #[.slice (some ⟨g, 0, none⟩) sp.length sp.length, .bool true]) ∧ w.heap.size ≤ g ∧ RowsAt g sp.length sp w') ∧ (spO T = none → e = .returned (.tuple #[.slice none 0 0, .bool false])) ∧ Below w.heap.size w w' := by
  obtain ⟨ua, un, uc, da, dn, dc, xa, xn, xc, ba, bn, bc⟩ := t
  dsimp only at hb
  obtain ⟨W, hW⟩ : ∃ W, W = w.alloc (.cells #[.slice ua un uc, .slice da dn dc, .slice xa xn xc, .slice ba bn bc] 34) := ⟨_, rfl⟩
  have hB : Below w.heap.size w W := by rw [hW]; exact below_alloc _ _
  have hO : Bx w.heap.size [.cells #[.slice ua un uc, .slice da dn dc, .slice xa xn xc, .slice ba bn bc] 34] W := by rw [hW]; exact (Bx.nil _ w).snoc _ rfl
  have hT2 := hT.below hB
  by_cases hok : 1 ≤ un ∧ un ≤ 400 ∧ bn = un ∧ dn = un ∧ xn = un
  · obtain ⟨h1, h2, e1, e2, e3⟩ := hok
    subst e1 e2 e3
    have HO : Hid (spO T = spTo T xn) := by
      unfold Hid spO
      rw [hT.up.1, hT.byt.1.1, hT.dep.1, hT.wrd.1, if_pos ⟨h1, h2, rfl, rfl, rfl⟩]
    have c0 : W.cell? ⟨w.heap.size, 0, none⟩ = some (.slice ua _ uc) := hO.cell (i := 0) rfl rfl
    have c1 : W.cell? ⟨w.heap.size, 1, none⟩ = some (.slice da _ dc) := hO.cell (i := 0) rfl rfl
    have c2 : W.cell? ⟨w.heap.size, 2, none⟩ = some (.slice xa _ xc) := hO.cell (i := 0) rfl rfl
    have c3 : W.cell? ⟨w.heap.size, 3, none⟩ = some (.slice ba _ bc) := hO.cell (i := 0) rfl rfl
    have hmk : ∀ V : World, (Instr.makeSlice 22 (.int .i64 xn) (.int .i64 xn)).run Tryz.prog V = .ok (.slice (some ⟨V.heap.size, 0, none⟩) xn xn) (V.alloc (.cells (rowsNil xn) 25)) := fun V => by
      obtain ⟨i0, hi, hz0, hz1, hz2⟩ := info_parts sl_info
      have h := run_makeSlice (P := Tryz.prog) (w := V) 22 25 i0 (.slice none 0 0) Tryz.underlying22 hi hz0 .i64 .i64 (xn : Int) (xn : Int) (by omega) (by omega) (by rw [hz1]; omega) (by rw [hz2]; omega) (by omega)
      rw [hz1] at h
      have e1 : (xn : Int).toNat * 1 = xn := by omega
      rw [e1, made_nil, Int.toNat_natCast] at h
      exact h
    go_enter Tryz.func179, Tryz.ntmps179
    go_upto_region 1 with fail
    rw [← hW]
    clear hW
    go_upto_region 5 with fail
    clear hmk c0 c1 c2 c3
    obtain ⟨V, hV⟩ : ∃ V, V = W.alloc (.cells (rowsNil xn) 25) := ⟨_, rfl⟩
    obtain ⟨g, hg⟩ : ∃ g, g = W.heap.size := ⟨_, rfl⟩
    have hR : RowsAt g xn [[]] V := by
      rw [hV, hg]
      refine ⟨List.replicate xn (none, 0, 0), ?_, by simp, by simpa using h1, fun i v x hv hx => ?_⟩
      · rw [World.alloc_heap_new]; simp [rowsNil, svV]
      · rw [List.getElem?_replicate] at hv
        split at hv
        · obtain rfl := Option.some.inj hv
          cases i with
          | zero => simp at hx; subst hx; exact ⟨Bys.nil _ _, Nat.le_refl _⟩
          | succ i => simp at hx
        · cases hv
    have hBV : Below W.heap.size W V := by rw [hV]; exact below_alloc _ _
    have hOV := hO.below hBV
    rw [← hV, ← hg]
    clear hV
    have HG := Lib.hid hg
    clear hg
    go_wp2
    go_loopw [6, 7] (fun s6 _ wr => ∃ (i : Nat) (l : List (List Int)), 1 ≤ i ∧ i ≤ xn ∧ s6 = .int .i64 i ∧ Hid (spTo T i = some l) ∧ RowsAt g xn l wr ∧ Below W.heap.size W wr ∧ Bx w.heap.size [.cells #[.slice ua xn uc, .slice da xn dc, .slice xa xn xc, .slice ba xn bc] 34] wr) (fun s6 _ _ => xn - (intOf s6).toNat)
    case atStart => exact ⟨1, [[]], Nat.le_refl _, h1, rfl, rfl, hR, hBV, hOV⟩
    case round =>
      clear hR hBV hOV
      obtain ⟨i, l, hi1, hi2, rfl, HS, hR, hBV, hOV⟩ := hrel
      have c0 : wr.cell? ⟨w.heap.size, 0, none⟩ = some (.slice ua xn uc) := hOV.cell (i := 0) rfl rfl
      by_cases hil : i < xn
      · have hdi : decide ((i : Int) < xn) = true := by simp; omega
        obtain ⟨b0, o0, u, hb0, hl0, cu, hu⟩ := sl1_at (hT2.up.below hBV) hil
        subst hb0
        have HU := Lib.hid hu
        clear hu
        by_cases hur : 0 ≤ u ∧ u < i
        · have hd1 : decide (u < 0) = false := by simp; omega
          have hd2 : decide ((i : Int) ≤ u) = false := by simp; omega
          obtain ⟨k, rfl⟩ : ∃ k : Nat, u = k := ⟨u.toNat, by omega⟩
          have hki : k < i := by omega
          clear hur
          obtain ⟨vs, hvs, hvl, hll, hrow⟩ := hR.ex
          have hlen : l.length = i := spTo_length HS.out
          obtain ⟨⟨va, vn, vc⟩, hv⟩ : ∃ v, vs[k]? = some v := ⟨vs[k]'(by omega), by simp⟩
          obtain ⟨p, hp⟩ : ∃ p, l[k]? = some p := ⟨l[k]'(by omega), by simp⟩
          obtain ⟨hpb, hvc⟩ := hrow k _ _ hv hp
          dsimp only at hpb hvc
          obtain ⟨b3, o3, c, rfl, hb3, cb, hc⟩ := sl1_at (hT2.byt.1.below hBV) hil
          have hcr := hT2.byt.2 c (List.mem_of_getElem? hc)
          have HSS : Hid (spTo T (i + 1) = some (l ++ [p ++ [c]])) := by
            obtain ⟨j, rfl⟩ : ∃ j, i = j + 1 := ⟨i - 1, by omega⟩
            show spTo T (j + 1 + 1) = _
            unfold spTo
            rw [HS.out, Option.bind_some, HU.out, hc]
            dsimp only
            rw [if_pos (show 0 ≤ (k : Int) ∧ (k : Int) < (j : Int) + 1 by omega), Int.toNat_natCast, hp]
            rfl
          have HPL : Hid (p.length < i) := spTo_lt HS.out p (List.mem_of_getElem? hp)
          have hgl : g < wr.heap.size := (Array.getElem?_eq_some_iff.1 hvs).1
          have HK : Hid (∀ w', Below wr.heap.size wr w' → w'.cell? ⟨g, k, none⟩ = some (.slice va vn vc) ∧ w'.cell? ⟨w.heap.size, 3, none⟩ = some (.slice (some ⟨b3, o3, none⟩) xn bc) ∧ w'.cell? ⟨b3, o3 + i, none⟩ = some (.int .u8 c)) := by
            intro w' hb'
            have hO' := hOV.below hb'
            refine ⟨?_, hO'.cell (i := 0) rfl rfl, (hb'.cell (p := ⟨b3, o3 + i, none⟩) hb3).trans cb⟩
            rw [cell_of_row w' g k _ _ _ ((hb'.block g hgl).trans hvs)]
            simp [hv, svV]
          have hwg : w.heap.size < g := by
            have h := HG.out
            have := hO 0 _ rfl
            have := (Array.getElem?_eq_some_iff.1 this).1
            omega
          have h3g : g ≠ b3 := by
            rintro rfl
            rw [cell_of_row wr g _ _ _ _ hvs] at cb
            simp only [List.getElem?_toArray, List.getElem?_map, Option.map_eq_some_iff] at cb
            obtain ⟨v, _, hv⟩ := cb
            cases hv
          have HKS : Hid (∀ w', Below wr.heap.size wr w' → ∀ u, (w'.setCell ⟨g, i, none⟩ u).cell? ⟨g, k, none⟩ = some (.slice va vn vc) ∧ (w'.setCell ⟨g, i, none⟩ u).cell? ⟨w.heap.size, 3, none⟩ = some (.slice (some ⟨b3, o3, none⟩) xn bc) ∧ (w'.setCell ⟨g, i, none⟩ u).cell? ⟨b3, o3 + i, none⟩ = some (.int .u8 c)) := by
            intro w' hb' u
            obtain ⟨_, h2, h3⟩ := HK.out w' hb'
            refine ⟨?_, ?_, ?_⟩
            · rw [cell_of_row _ g k _ _ _ (set_at (i := i) ((hb'.block g hgl).trans hvs) u), Array.getElem?_setIfInBounds_ne (by omega)]
              simp [hv, svV]
            · rw [World.cell?_setCell_far _ _ _ _ (by show g ≠ w.heap.size; omega)]; exact h2
            · rw [World.cell?_setCell_far _ _ _ _ h3g]; exact h3
          have HF : Hid (∀ w', Below wr.heap.size wr w' → w'.cell? ⟨g, i, none⟩ = some (svV (vs[i]'(by omega))) ∧ w'.frozen? ⟨g, i, none⟩ = false) := by
            intro w' hb'
            have := (hb'.block g hgl).trans hvs
            refine ⟨?_, by simp [World.frozen?, this]⟩
            rw [cell_of_row w' g i _ _ _ this, List.getElem?_toArray, List.getElem?_map, List.getElem?_eq_getElem (by omega)]
            rfl
          clear cb hc hv hp hrow hvs hll
          go_wp2
          have hBd : Below wr.heap.size wr wr.drew := (Below.refl _ _).drew
          have i1 : k < xn := by omega
          have i2 : (0 : Int) ≤ (k : Int) := by omega
          have i3 : (k : Int) < (xn : Int) := by omega
          have i4 : (0 : Int) ≤ (i : Int) := by omega
          have i5 : (i : Int) < (xn : Int) := by omega
          obtain ⟨k1, k2, k3⟩ := HK.out wr (Below.refl _ _)
          have f0 := HF.out wr (Below.refl _ _)
          have hpd : Bys wr.drew va vn p := hpb.below ((Below.refl _ _).drew)
          have hvn : vn < 400 := by have := HPL.out; have := hpb.len; omega
          obtain ⟨i0, hi, hz0, hz1, hz2⟩ := info_parts u8_info
          have hB3 : ∀ o, Below wr.heap.size wr (wr.alloc o).drew := fun o => ((Below.refl _ _).alloc (Nat.le_refl _) o).drew
          have hpd3 : ∀ o, Bys (wr.alloc o).drew va vn p := fun o => hpb.below (hB3 o)
          have hsz3 : ∀ o, wr.heap.size ≤ (wr.alloc o).drew.heap.size := fun o => (hB3 o).size
          have hS3 : ∀ (c : Int) (t : TypeId), Sl1 (Value.int .u8) (wr.alloc (.cells #[.int .u8 c] t)).drew (some ⟨wr.heap.size, 0, none⟩) 1 [c] := fun c t => (Sl1.lay (Value.int .u8) wr [c] t _ rfl).below ((Below.refl _ _).drew)
          have hBA : ∀ o, Below wr.heap.size wr (wr.drew.alloc o) := fun o => hBd.alloc (Nat.le_refl _) o
          go_region_held3 (fun w' => w'.cell? ⟨g, k, none⟩ = some (.slice va vn vc) ∧ w'.cell? ⟨w.heap.size, 3, none⟩ = some (.slice (some ⟨b3, o3, none⟩) xn bc) ∧ w'.cell? ⟨b3, o3 + i, none⟩ = some (.int .u8 c)) (first | (go_keep; done) | exact HK.out _ (hBA _) | exact HK.out _ (hB1.alloc hB1.size _) | exact HKS.out _ hB2 _) (first
            | (refine step_append_sl1 (by rfl) _ _ 25 (by rfl) u8_one wr.heap.size 5 i0 (.int .u8 0) 1 Tryz.underlying25 hi hz0 hz1 hz2 rfl (.slice none 0 0) 0 [] (by rfl) (World.ownsRow_nil _ _ _ _) va vn vc p (by rfl) hpd.1 (by unfold maxLen; omega) (by omega) (Nat.le_refl _) ?_
               intro v1 w1 hown1 hg1 hat1
               have hB1 : Below wr.heap.size wr w1 := hBd.grown hg1 (Nat.le_refl _) (fun k e => by cases e)
               rw [Nat.zero_add, List.nil_append] at hown1
               obtain ⟨a1, c1, rfl, hc1, _⟩ := own_sl1 (enc := Value.int .u8) (xs := p) hown1
               obtain ⟨d1, d2, d3⟩ := HK.out w1 hB1
               clear hat1)
            | (refine step_append_sl1 (by rfl) _ _ 25 (by rfl) u8_one wr.heap.size 5 i0 (.int .u8 0) 1 Tryz.underlying25 hi hz0 hz1 hz2 rfl (.slice none 0 0) 0 [] (by rfl) (World.ownsRow_nil _ _ _ _) va vn vc p (by rfl) (hpd3 _).1 (by unfold maxLen; omega) (by omega) (hsz3 _) ?_
               intro v1 w1 hown1 hg1 hat1
               have hB1 : Below wr.heap.size wr w1 := (hB3 _).grown hg1 (hsz3 _) (fun k e => by cases e)
               have hS1 : Sl1 (Value.int .u8) w1 (some ⟨wr.heap.size, 0, none⟩) 1 [c] := (hS3 c _).below ((Below.refl _ _).grown hg1 (Nat.le_refl _) (fun k e => by cases e))
               rw [Nat.zero_add, List.nil_append] at hown1
               obtain ⟨a1, c1, rfl, hc1, _⟩ := own_sl1 (enc := Value.int .u8) (xs := p) hown1
               obtain ⟨d1, d2, d3⟩ := HK.out w1 hB1
               clear hat1)
            | (refine step_append_sl1 (by rfl) _ _ 25 (by rfl) u8_one wr.heap.size 5 i0 (.int .u8 0) 1 Tryz.underlying25 hi hz0 hz1 hz2 rfl (.slice a1 vn c1) vn (p.map (Value.int .u8)) (by rfl) (hown1.alloc _) (some ⟨w1.heap.size, 0, none⟩) 1 1 [c] (by rfl) (Sl1.lay (Value.int .u8) w1 [c] _ _ rfl) (by unfold maxLen; omega) (by omega) (by have := hB1.size; simp; omega) ?_
               intro v2 w2 hown2 hg2 hat2
               have hB2 : Below wr.heap.size wr w2 := (hB1.alloc hB1.size _).grown hg2 (by have := hB1.size; simp; omega) (fun j hj => (hown1.lt j hj).1)
               obtain ⟨a2, c2, rfl, hc2, hsl2⟩ := own_sl1 (enc := Value.int .u8) (xs := p ++ [c]) (by simpa using hown2)
               obtain ⟨e1, e2, e3⟩ := HK.out w2 hB2
               obtain ⟨e4, e5⟩ := HF.out w2 hB2
               clear hat2)
            | (refine step_append_sl1 (by rfl) _ _ 25 (by rfl) u8_one wr.heap.size 5 i0 (.int .u8 0) 1 Tryz.underlying25 hi hz0 hz1 hz2 rfl (.slice a1 vn c1) vn (p.map (Value.int .u8)) (by rfl) hown1 (some ⟨wr.heap.size, 0, none⟩) 1 1 [c] (by rfl) hS1 (by unfold maxLen; omega) (by omega) hB1.size ?_
               intro v2 w2 hown2 hg2 hat2
               have hB2 : Below wr.heap.size wr w2 := hB1.grown hg2 hB1.size (fun j hj => (hown1.lt j hj).1)
               obtain ⟨a2, c2, rfl, hc2, hsl2⟩ := own_sl1 (enc := Value.int .u8) (xs := p ++ [c]) (by simpa using hown2)
               obtain ⟨e1, e2, e3⟩ := HK.out w2 hB2
               obtain ⟨e4, e5⟩ := HF.out w2 hB2
               clear hat2))
          all_goals
            go_wp2
            have hBf : Below W.heap.size W (w2.setCell ⟨g, i, none⟩ (.slice a2 (vn + 1) c2)) := (hBV.trans (hB2.mono hBV.size)).setCell (by show W.heap.size ≤ g; exact Nat.le_of_eq HG.out.symm) _
            go_roundw
            case rel =>
              refine ⟨i + 1, _, by omega, by omega, by go_num, HSS, hR.step hlen hil hB2 ⟨hsl2, fun x hx => ?_⟩ hc2, hBf, hO.below hBf⟩
              rcases List.mem_append.1 hx with hx | hx
              · exact hpb.2 x hx
              · rw [List.mem_singleton] at hx; subst hx; exact hcr
            case measure => simp [intOf]; omega
        · have HN : Hid (∀ k, i + 1 ≤ k → spTo T k = none) := by
            refine spTo_none (by omega) ?_
            obtain ⟨j, rfl⟩ : ∃ j, i = j + 1 := ⟨i - 1, by omega⟩
            unfold spTo
            rw [HS.out, Option.bind_some, HU.out]
            cases hby : T.byt[j + 1]? with
            | none => rfl
            | some c => simp; omega
          by_cases hu0 : u < 0
          · have hd1 : decide (u < 0) = true := by simp; omega
            have HZ : Hid (spO T = none) := by rw [Hid, HO.out]; exact HN.out xn (by omega)
            go_wp2
            go_ret2
            exact ⟨fun sp h => (by rw [HZ.out] at h; cases h), fun _ => rfl, hB.trans (hBV.mono hB.size)⟩
          · have hd1 : decide (u < 0) = false := by simp; omega
            have hd2 : decide ((i : Int) ≤ u) = true := by simp; omega
            have HZ : Hid (spO T = none) := by rw [Hid, HO.out]; exact HN.out xn (by omega)
            go_wp2
            go_ret2
            exact ⟨fun sp h => (by rw [HZ.out] at h; cases h), fun _ => rfl, hB.trans (hBV.mono hB.size)⟩
      · obtain rfl : i = xn := by omega
        have hdi : decide ((i : Int) < i) = false := by simp
        have HLN : Hid (l.length = i) := spTo_length HS.out
        go_wp2
        go_ret2
        refine ⟨fun sp h => ?_, fun h => ?_, hB.trans (hBV.mono hB.size)⟩
        · rw [HO.out, HS.out] at h
          obtain rfl := Option.some.inj h
          rw [HLN.out]
          exact ⟨g, rfl, by rw [HG.out]; exact hB.size, hR⟩
        · rw [HO.out, HS.out] at h; cases h
  · have HZ : Hid (spO T = none) := by
      unfold Hid spO
      rw [if_neg]
      rw [hT.up.1, hT.byt.1.1, hT.dep.1, hT.wrd.1]
      exact hok
    have c0 : W.cell? ⟨w.heap.size, 0, none⟩ = some (.slice ua un uc) := hO.cell (i := 0) rfl rfl
    have c1 : W.cell? ⟨w.heap.size, 1, none⟩ = some (.slice da dn dc) := hO.cell (i := 0) rfl rfl
    have c2 : W.cell? ⟨w.heap.size, 2, none⟩ = some (.slice xa xn xc) := hO.cell (i := 0) rfl rfl
    have c3 : W.cell? ⟨w.heap.size, 3, none⟩ = some (.slice ba bn bc) := hO.cell (i := 0) rfl rfl
    by_cases q1 : un < 1
    · have g1 : decide ((un : Int) < 1) = true := by simp; omega
      go_enter Tryz.func179, Tryz.ntmps179
      go_upto_region 1 with fail
      rw [← hW]
      clear hW
      go_wp2
      go_ret2
      exact ⟨fun sp h => (by rw [HZ.out] at h; cases h), fun _ => rfl, hB⟩
    · have g1 : decide ((un : Int) < 1) = false := by simp; omega
      by_cases q2 : 400 < un
      · have g2 : decide (400 < (un : Int)) = true := by simp; omega
        go_enter Tryz.func179, Tryz.ntmps179
        go_upto_region 1 with fail
        rw [← hW]
        clear hW
        go_wp2
        go_ret2
        exact ⟨fun sp h => (by rw [HZ.out] at h; cases h), fun _ => rfl, hB⟩
      · have g2 : decide (400 < (un : Int)) = false := by simp; omega
        by_cases q3 : bn = un
        · subst q3
          by_cases q4 : dn = bn
          · subst q4
            have q5 : xn ≠ dn := fun e => hok ⟨by omega, by omega, rfl, rfl, e⟩
            have g5 : ((xn : Int) != dn) = true := by simp; omega
            go_enter Tryz.func179, Tryz.ntmps179
            go_upto_region 1 with fail
            rw [← hW]
            clear hW
            go_wp2
            go_ret2
            exact ⟨fun sp h => (by rw [HZ.out] at h; cases h), fun _ => rfl, hB⟩
          · have g4 : ((dn : Int) != bn) = true := by simp; omega
            go_enter Tryz.func179, Tryz.ntmps179
            go_upto_region 1 with fail
            rw [← hW]
            clear hW
            go_wp2
            go_ret2
            exact ⟨fun sp h => (by rw [HZ.out] at h; cases h), fun _ => rfl, hB⟩
        · have g3 : ((bn : Int) != un) = true := by simp; omega
          go_enter Tryz.func179, Tryz.ntmps179
          go_upto_region 1 with fail
          rw [← hW]
          clear hW
          go_wp2
          go_ret2
          exact ⟨fun sp h => (by rw [HZ.out] at h; cases h), fun _ => rfl, hB⟩

end Go.Proofs.YtbiinfnekhhfkaaGreat
