/- Parts of the proof, one behind the other: C3, C4, Vp, Gp, Gq, Gs, VG. No condition but what each theorem states. -/
import Derived.Test.YtjfhefffbkpgkaaGreatQ5
import Derived.Test.YtjfhefffbkpgkaaGreatQ7

/- Bytes that are told apart (layer 10): a set's classes; walked. Printed by exp.py. -/

namespace Go.Proofs.YtjfhefffbkpgkaaGreat
open Go.RowKit Go.Sort
set_option linter.unusedVariables false
set_option linter.unusedSimpArgs false

/-- The classes of the first bytes, and nothing behind them. -/
def clsZ (p : Int → Bool) (fold : Bool) (i : Nat) : List Int := (clsN p fold i).1 ++ List.replicate (256 - i) 0
theorem clsZ_len (p : Int → Bool) (fold : Bool) {i : Nat} (h : i ≤ 256) : (clsZ p fold i).length = 256 := by
  unfold clsZ
  rw [List.length_append, clsN_len, List.length_replicate]
  omega
theorem clsZ_at (p : Int → Bool) (fold : Bool) {i j : Nat} (h : j < i) : (clsZ p fold i)[j]? = (clsN p fold i).1[j]? := by
  unfold clsZ
  rw [List.getElem?_append_left (by rw [clsN_len]; exact h)]
theorem clsZ_set (p : Int → Bool) (fold : Bool) {i : Nat} (h : i < 256) (v : Int) : (clsZ p fold i).set i v = ((clsN p fold i).1 ++ [v]) ++ List.replicate (256 - (i + 1)) 0 := by
  unfold clsZ
  have hl := clsN_len p fold i
  rw [List.set_append_right _ _ (by omega), hl, Nat.sub_self, show 256 - i = (256 - (i + 1)) + 1 by omega, List.replicate_succ, List.set_cons_zero, List.append_assoc]
  rfl
theorem clsZ_no {p : Int → Bool} {fold : Bool} {i : Nat} (h : i < 256) (hp : p i = false) : clsZ p fold (i + 1) = clsZ p fold i ∧ (clsN p fold (i + 1)).2 = (clsN p fold i).2 := by
  unfold clsZ
  rw [clsN_succ, if_pos hp]
  refine ⟨?_, rfl⟩
  rw [show 256 - i = (256 - (i + 1)) + 1 by omega, List.replicate_succ, List.append_assoc]
  rfl
theorem clsZ_small {p : Int → Bool} {fold : Bool} {i : Nat} (h : i < 256) (hp : p i = true) (hs : (fold && smallI i) = true) : clsZ p fold (i + 1) = (clsZ p fold i).set i (((clsN p fold i).1[i - 32]?).getD 0) ∧ (clsN p fold (i + 1)).2 = (clsN p fold i).2 := by
  rw [clsZ_set p fold h]
  unfold clsZ
  rw [clsN_succ, if_neg (by rw [hp]; decide), if_pos hs]
  exact ⟨rfl, rfl⟩
theorem clsZ_own {p : Int → Bool} {fold : Bool} {i : Nat} (h : i < 256) (hp : p i = true) (hs : (fold && smallI i) = false) : clsZ p fold (i + 1) = (clsZ p fold i).set i ((clsN p fold i).2 : Int) ∧ (clsN p fold (i + 1)).2 = (clsN p fold i).2 + 1 := by
  rw [clsZ_set p fold h]
  unfold clsZ
  rw [clsN_succ, if_neg (by rw [hp]; decide), if_neg (by rw [hs]; decide)]
  exact ⟨rfl, rfl⟩
theorem hasL_at (fold : Bool) (ws : List (List Int)) {i : Nat} (h : i < 256) : ((hasL fold ws).map Value.bool)[i]? = some (.bool (inB fold ws (i : Int))) := by
  unfold hasL
  rw [List.getElem?_map, List.getElem?_map, List.getElem?_range h]
  rfl

theorem zero88 : Tryz.zeroCells88.setIfInBounds 256 (Value.int IntKind.i64 1) = ((List.replicate 256 (0 : Int) ++ [1]).map (Value.int .i64)).toArray := by kernel_rfl
set_option maxRecDepth 100000 in
set_option maxHeartbeats 4000000 in
theorem count10_no (fold : Bool) (a : Option Addr) (la ca : Nat) (wss : List (List Int)) (w : World) (hA : Wds w a la wss) (hla : la ≤ 1000000) (hM : ∀ x ∈ wss, x.length ≤ 1000000) (hT : (begL fold wss).length ≤ 1000000) (hr : rightP fold wss = false) :
    Calls Tryz.prog 44 #[.agg (setV fold a la ca)] w fun e w' => e = .returned (.tuple #[.pointer none, .bool false]) ∧ Below w.heap.size w w' := by
  obtain ⟨W, hW⟩ : ∃ W, W = w.alloc (.cells (setV fold a la ca) 24) := ⟨_, rfl⟩
  have hB : Below w.heap.size w W := by rw [hW]; exact below_alloc _ _
  have hO : Bx w.heap.size [.cells (setV fold a la ca) 24] W := by rw [hW]; exact (Bx.nil _ w).snoc _ rfl
  have s0 : W.cell? ⟨w.heap.size, 0, none⟩ = some (.bool fold) := hO.cell (i := 0) rfl rfl
  have s1 : W.cell? ⟨w.heap.size, 1, none⟩ = some (.slice a la ca) := hO.cell (i := 0) rfl rfl
  have HC := Lib.hid (pright_any fold a la ca wss W (hA.below hB) hla hM hT)
  rw [hr] at HC
  clear hr
  go_enter Tryz.func44, Tryz.ntmps44
  go_upto_region 1 with fail
  rw [← hW]
  clear hW
  go_wp2_with fail
  refine HC.out.mono ?_
  rintro e w1 ⟨rfl, hb1⟩
  go_wp2
  go_ret2
  exact ⟨rfl, hB.trans (hb1.mono hB.size)⟩

theorem bool_info10 : (Tryz.prog.info? 4).map (fun i => (i.zero, i.size, i.bytes)) = some (some (.bool false), 1, 1) := by kernel_rfl
theorem run_ix108 {L : Array Value} {i : Nat} {b : Bool} (hi : i < 256) (h : L[i]? = some (.bool b)) (w : World) : Sem.run Tryz.prog (Instr.index 108 (.agg L) (.int .i64 (i : Int))) w = .ok (.bool b) w := by
  obtain ⟨i0, hi0, _, hz, _⟩ := info_parts bool_info10
  have e : (0 : Int) ≤ (i : Int) ∧ (i : Int) < 256 := by omega
  unfold Instr.index
  simp only [asIntOf, Sem.run_bind, Sem.run_pure, Result.andThen_ok, run_underlying Tryz.underlying108]
  simp [e, sizeOf, typeInfo, hi0, hz, part, isAgg, run_underlying Tryz.underlying4, h]

set_option maxRecDepth 100000 in
set_option maxHeartbeats 8000000 in
theorem count10_yes (fold : Bool) (a : Option Addr) (la ca : Nat) (wss : List (List Int)) (w : World) (hA : Wds w a la wss) (hla : la ≤ 1000000) (hM : ∀ x ∈ wss, x.length ≤ 1000000) (hT : (begL fold wss).length ≤ 1000000) (hr : rightP fold wss = true) :
    Calls Tryz.prog 44 #[.agg (setV fold a la ca)] w fun e w' => ∃ B, e = .returned (.tuple #[.pointer (some ⟨B, 0, none⟩), .bool true]) ∧ CB w' B (clsP fold wss) (manyP fold wss : Int) ∧ w.heap.size ≤ B ∧ Below w.heap.size w w' := by
  obtain ⟨W, hW⟩ : ∃ W, W = w.alloc (.cells (setV fold a la ca) 24) := ⟨_, rfl⟩
  have hB : Below w.heap.size w W := by rw [hW]; exact below_alloc _ _
  have hO : Bx w.heap.size [.cells (setV fold a la ca) 24] W := by rw [hW]; exact (Bx.nil _ w).snoc _ rfl
  have s0 : W.cell? ⟨w.heap.size, 0, none⟩ = some (.bool fold) := hO.cell (i := 0) rfl rfl
  have s1 : W.cell? ⟨w.heap.size, 1, none⟩ = some (.slice a la ca) := hO.cell (i := 0) rfl rfl
  have HC := Lib.hid (pright_any fold a la ca wss W (hA.below hB) hla hM hT)
  have HA := Lib.hid (hA.below hB)
  have HO := Lib.hid hO
  have HM := Lib.hid hM
  have hWs : W.heap.size = w.heap.size + 1 := by rw [hW]; simp
  have HWS := Lib.hid hWs
  rw [hr] at HC
  clear hr hA hO hM hWs
  go_enter Tryz.func44, Tryz.ntmps44
  go_upto_region 1 with fail
  rw [← hW]
  clear hW
  go_wp2_with fail
  refine HC.out.mono ?_
  rintro e w1 ⟨rfl, hb1⟩
  clear s0 s1 HC
  go_upto_region 4 with fail
  obtain ⟨W2, hW2⟩ : ∃ V, V = w1.alloc (.cells (Tryz.zeroCells88.setIfInBounds 256 (Value.int IntKind.i64 1)) 88) := ⟨_, rfl⟩
  have hb2' : RowKit.Below w1.heap.size w1 W2 := by rw [hW2]; exact below_alloc _ _
  have hC2 : CB W2 w1.heap.size (List.replicate 256 0) 1 := ⟨by rw [hW2, zero88]; exact World.alloc_heap_new _ _, by simp⟩
  rw [← hW2]
  clear hW2
  obtain ⟨B, hBe⟩ : ∃ B, w1.heap.size = B := ⟨_, rfl⟩
  have hWB : W.heap.size ≤ B := by rw [← hBe]; exact hb1.size
  have hb2 := hb1.trans (hb2'.mono hb1.size)
  rw [hBe] at hC2 ⊢
  clear hBe hb2' hb1
  have HB2 := Lib.hid hb2
  have HC2 := Lib.hid hC2
  have hO2 := HO.out.below hb2
  have s0 : W2.cell? ⟨w.heap.size, 0, none⟩ = some (.bool fold) := hO2.cell (i := 0) rfl rfl
  have s1 : W2.cell? ⟨w.heap.size, 1, none⟩ = some (.slice a la ca) := hO2.cell (i := 0) rfl rfl
  have HH := Lib.hid (has_any fold a la ca wss W2 (HA.out.below hb2) hla HM.out)
  clear hO2 hC2 hb2
  go_wp2_with fail
  refine HH.out.mono ?_
  rintro e W3 ⟨rfl, hb3⟩
  have HB3 := Lib.hid (HB2.out.trans (hb3.mono HB2.out.size))
  have HC3 := Lib.hid (HC2.out.below hb3)
  obtain ⟨L, hL⟩ : ∃ L, ((hasL fold wss).map Value.bool).toArray = L := ⟨_, rfl⟩
  have ix : Hid (∀ (i : Nat), i < 256 → L[i]? = some (.bool (inB fold wss (i : Int)))) := fun i hi => by
    rw [← hL]
    simpa using hasL_at fold wss hi
  have hLs : L.size = 256 := by rw [← hL]; simp [hasL]
  rw [hL]
  clear s0 s1 HH hb3 hL HC2 HB2
  have hB3s : B < W3.heap.size := HC3.out.lt
  go_wp2
  go_loopw [15] (fun s15 wr => ∃ i : Nat, i ≤ 256 ∧ s15 = .int .i64 i ∧ CB wr B (clsZ (inB fold wss) fold i) ((clsN (inB fold wss) fold i).2 : Int) ∧ RowKit.Below B W3 wr) (fun s _ => 256 - (intOf s).toNat)
  case atStart => exact ⟨0, Nat.zero_le _, rfl, HC3.out, RowKit.Below.refl _ _⟩
  case round =>
    obtain ⟨i, hi, rfl, hCi, hBi⟩ := hrel
    by_cases hil : i < 256
    · have hd : decide ((i : Int) < 256) = true := by simp; omega
      have i1 : (0 : Int) ≤ (i : Int) := by omega
      have i2 : (i : Int) < 256 := by omega
      have hix := ix.out i hil
      obtain ⟨b, hb⟩ : ∃ b, inB fold wss (i : Int) = b := ⟨_, rfl⟩
      rw [hb] at hix
      have hidx := fun (V : World) => run_ix108 hil hix V
      have hw8 : IntKind.u8.wrap (i : Int) = (i : Int) := by simp [IntKind.wrap, IntKind.bits, IntKind.signed]; omega
      have hCZ := Lib.hid hCi
      have hBZ := Lib.hid hBi
      have hOr := HO.out.below (HB3.out.trans (hBi.mono (by have := HB3.out.size; have := HWS.out; omega)))
      have s0 : wr.cell? ⟨w.heap.size, 0, none⟩ = some (.bool fold) := hOr.cell (i := 0) rfl rfl
      have HBB := Lib.hid hb
      clear hCi hBi hOr hix hb
      cases b with
      | false =>
        obtain ⟨z1, z2⟩ := clsZ_no (p := inB fold wss) (fold := fold) hil HBB.out
        have hC2 : CB wr B (clsZ (inB fold wss) fold (i + 1)) ((clsN (inB fold wss) fold (i + 1)).2 : Int) := by rw [z1, z2]; exact hCZ.out
        have HC2 := Lib.hid hC2
        clear z1 z2 hC2
        go_wp2
        go_roundw
        case rel => exact ⟨i + 1, by omega, by go_num, HC2.out, hBZ.out⟩
        case measure => simp [intOf]; omega
      | true =>
        have hmm := clsN_many (inB fold wss) fold i
        cases fold with
        | false =>
          obtain ⟨z1, z2⟩ := clsZ_own (p := inB false wss) (fold := false) hil HBB.out rfl
          have ho := own10_any B i (clsN (inB false wss) false i).2 _ wr hil hCZ.out (by omega)
          rw [← z1, ← z2] at ho
          have HOW := Lib.hid ho
          clear z1 z2 ho hmm
          go_wp2_with fail
          refine HOW.out.mono ?_
          rintro e w5 ⟨rfl, hc5, hb5⟩
          have HC5 := Lib.hid hc5
          clear hc5 hidx s0
          go_wp2
          go_roundw
          case rel => exact ⟨i + 1, by omega, by go_num, HC5.out, hBZ.out.trans hb5⟩
          case measure => simp [intOf]; omega
        | true =>
          have HSm := Lib.hid (small_any (i : Int) wr)
          go_wp2_with fail
          refine HSm.out.mono ?_
          rintro e w4 ⟨rfl, hb4⟩
          have hC4 := hCZ.out.below hb4
          have HC4 := Lib.hid hC4
          have HB4 := Lib.hid (hBZ.out.trans (hb4.mono (by have := hCZ.out.lt; omega)))
          clear hC4 hb4 s0 hidx HSm
          cases hsm : smallI (i : Int) with
          | false =>
            obtain ⟨z1, z2⟩ := clsZ_own (p := inB true wss) (fold := true) hil HBB.out (by rw [hsm]; rfl)
            have ho := own10_any B i (clsN (inB true wss) true i).2 _ w4 hil HC4.out (by omega)
            rw [← z1, ← z2] at ho
            have HOW := Lib.hid ho
            clear z1 z2 ho hmm hsm
            go_wp2_with fail
            refine HOW.out.mono ?_
            rintro e w5 ⟨rfl, hc5, hb5⟩
            have HC5 := Lib.hid hc5
            clear hc5
            go_wp2
            go_roundw
            case rel => exact ⟨i + 1, by omega, by go_num, HC5.out, HB4.out.trans hb5⟩
            case measure => simp [intOf]; omega
          | true =>
            obtain ⟨z1, z2⟩ := clsZ_small (p := inB true wss) (fold := true) hil HBB.out (by rw [hsm]; rfl)
            obtain ⟨p, rfl⟩ : ∃ p, i = p + 32 := ⟨i - 32, by unfold smallI at hsm; have := of_decide_eq_true hsm; omega⟩
            rw [Nat.add_sub_cancel] at z1
            obtain ⟨v, hv⟩ : ∃ v, (clsN (inB true wss) true (p + 32)).1[p]? = some v := ⟨(clsN (inB true wss) true (p + 32)).1[p]'(by rw [clsN_len]; omega), by simp⟩
            rw [hv, Option.getD_some] at z1
            have hvz : (clsZ (inB true wss) true (p + 32))[p]? = some v := by rw [clsZ_at _ _ (by omega)]; exact hv
            obtain ⟨u, hu⟩ : ∃ u, (clsZ (inB true wss) true (p + 32))[p + 32]? = some u := ⟨(clsZ (inB true wss) true (p + 32))[p + 32]'(by rw [clsZ_len _ _ (by omega)]; omega), by simp⟩
            have hpf : p < 256 := by omega
            have kg : Hid (∀ V, RowKit.Below w4.heap.size w4 V → Calls Tryz.prog 64 #[.int .u8 ((p + 32 : Nat) : Int)] V fun e w' => e = .returned (.int .u8 (p : Int)) ∧ RowKit.Below V.heap.size V w') := fun V hV => by
              have h := great10_any ((p + 32 : Nat) : Int) V (by omega)
              rwa [show ((p + 32 : Nat) : Int) - 32 = (p : Int) by omega] at h
            have ks : Hid (∀ V, RowKit.Below w4.heap.size w4 V → Calls Tryz.prog 63 #[.pointer (some ⟨B, 0, none⟩), .int .u8 ((p + 32 : Nat) : Int), .int .i64 v] V fun e w' => e = .returned (.tuple #[]) ∧ w' = V.setCell ⟨B, p + 32, none⟩ (.int .i64 v)) := fun V hV =>
              set10_any B (p + 32) v _ V hil ((HC4.out.below hV).cell hil hu) ((HC4.out.below hV).frozen _)
            have hcv : Hid (∀ V, RowKit.Below w4.heap.size w4 V → V.cell? ⟨B, p, none⟩ = some (.int .i64 v)) := fun V hV => (HC4.out.below hV).cell hpf hvz
            have HZ1 := Lib.hid z1
            have HZ2 := Lib.hid z2
            have j1 : (0 : Int) ≤ (p : Int) := by omega
            have j2 : (p : Int) < 256 := by omega
            have hlt4 := HC4.out.lt
            clear z1 z2 hv hvz hu hmm hsm
            go_upto_region 11 with fail
            refine wp_region_noPanic ?_
            refine wp_region_held_drew (S := fun V => RowKit.Below B w4 V ∧ V.cell? ⟨B, p, none⟩ = some (.int .i64 v)) (by kernel_rfl) ⟨(bel_drewN w4 1).mono (Nat.le_of_lt hlt4), hcv.out _ (bel_drewN w4 1)⟩ (fun hHeld => ?_)
            refine wpAnyH_take (i := 0) (v := ?_) (by simp only [List.getElem?_toArray, List.getElem?_cons_zero, List.getElem?_cons_succ]; rfl) (by as_aux_lemma => kernel_rfl) (by as_aux_lemma => kernel_rfl) (by as_aux_lemma => kernel_rfl) (fun _ _ _ h => h) (Or.inl ⟨by rfl, ?_⟩) (by assumption) ?_
            rotate_left
            · intro V hV
              first | (go_simp; done) | (go_simp; with_reducible rfl)
            try simp only [Act.put, List.setIfInBounds_toArray, List.set_cons_zero, List.set_cons_succ]
            refine wpAnyH_take (i := 1) (v := ?_) (by simp only [List.getElem?_toArray, List.getElem?_cons_zero, List.getElem?_cons_succ]; rfl) (by as_aux_lemma => kernel_rfl) (by as_aux_lemma => kernel_rfl) (by as_aux_lemma => kernel_rfl) (fun _ _ _ h => h) (Or.inl ⟨by rfl, ?_⟩) (by assumption) ?_
            rotate_left
            · intro V hV
              first | (go_simp; done) | (go_simp; with_reducible rfl)
            try simp only [Act.put, List.setIfInBounds_toArray, List.set_cons_zero, List.set_cons_succ]
            refine wpAnyH_take (i := 2) (v := ?_) (by simp only [List.getElem?_toArray, List.getElem?_cons_zero, List.getElem?_cons_succ]; rfl) (by as_aux_lemma => kernel_rfl) (by as_aux_lemma => kernel_rfl) (by as_aux_lemma => kernel_rfl) (fun _ _ _ h => h) (Or.inl ⟨by rfl, ?_⟩) (by assumption) ?_
            rotate_left
            · intro V hV
              first | (go_simp; done) | (go_simp; with_reducible rfl)
            try simp only [Act.put, List.setIfInBounds_toArray, List.set_cons_zero, List.set_cons_succ]
            refine wpAnyH_take (i := 3) (v := ?_) (by simp only [List.getElem?_toArray, List.getElem?_cons_zero, List.getElem?_cons_succ]; rfl) (by as_aux_lemma => kernel_rfl) (by as_aux_lemma => kernel_rfl) (by as_aux_lemma => kernel_rfl) (fun _ _ _ h => h) (Or.inl ⟨by rfl, ?_⟩) (by assumption) ?_
            rotate_left
            · intro V hV
              first | (go_simp; done) | (go_simp; with_reducible rfl)
            try simp only [Act.put, List.setIfInBounds_toArray, List.set_cons_zero, List.set_cons_succ]
            refine wpAnyH_take (i := 4) (v := ?_) (by simp only [List.getElem?_toArray, List.getElem?_cons_zero, List.getElem?_cons_succ]; rfl) (by as_aux_lemma => kernel_rfl) (by as_aux_lemma => kernel_rfl) (by as_aux_lemma => kernel_rfl) (fun _ _ _ h => h) (Or.inl ⟨by rfl, ?_⟩) (by assumption) ?_
            rotate_left
            · intro V hV
              first | (go_simp; done) | (go_simp; with_reducible rfl)
            try simp only [Act.put, List.setIfInBounds_toArray, List.set_cons_zero, List.set_cons_succ]
            refine wpAnyH_take (i := 5) (v := ?_) (by simp only [List.getElem?_toArray, List.getElem?_cons_zero, List.getElem?_cons_succ]; rfl) (by as_aux_lemma => kernel_rfl) (by as_aux_lemma => kernel_rfl) (by as_aux_lemma => kernel_rfl) (fun _ _ _ h => h) (Or.inl ⟨by rfl, ?_⟩) (by assumption) ?_
            rotate_left
            · intro V hV
              first | (go_simp; done) | (go_simp; with_reducible rfl)
            try simp only [Act.put, List.setIfInBounds_toArray, List.set_cons_zero, List.set_cons_succ]
            refine wpAnyH_take (i := 7) (v := ?_) (by simp only [List.getElem?_toArray, List.getElem?_cons_zero, List.getElem?_cons_succ]; rfl) (by as_aux_lemma => kernel_rfl) (by as_aux_lemma => kernel_rfl) (by as_aux_lemma => kernel_rfl) (fun _ _ _ h => h) (Or.inl ⟨by rfl, ?_⟩) (by assumption) ?_
            rotate_left
            · intro V hV
              first | (go_simp; done) | (go_simp; with_reducible rfl)
            try simp only [Act.put, List.setIfInBounds_toArray, List.set_cons_zero, List.set_cons_succ]
            refine wpAnyH_take (i := 8) (v := ?_) (by simp only [List.getElem?_toArray, List.getElem?_cons_zero, List.getElem?_cons_succ]; rfl) (by as_aux_lemma => kernel_rfl) (by as_aux_lemma => kernel_rfl) (by as_aux_lemma => kernel_rfl) (fun _ _ _ h => h) (Or.inl ⟨by rfl, ?_⟩) (by assumption) ?_
            rotate_left
            · intro V hV
              first | (go_simp; done) | (go_simp; with_reducible rfl)
            try simp only [Act.put, List.setIfInBounds_toArray, List.set_cons_zero, List.set_cons_succ]
            refine wpAnyH_take (i := 9) (v := ?_) (by simp only [List.getElem?_toArray, List.getElem?_cons_zero, List.getElem?_cons_succ]; rfl) (by as_aux_lemma => kernel_rfl) (by as_aux_lemma => kernel_rfl) (by as_aux_lemma => kernel_rfl) (fun _ _ _ h => h) (Or.inl ⟨by rfl, ?_⟩) (by assumption) ?_
            rotate_left
            · intro V hV
              first | (go_simp; done) | (go_simp; with_reducible rfl)
            try simp only [Act.put, List.setIfInBounds_toArray, List.set_cons_zero, List.set_cons_succ]
            refine wpAnyH_ready (rs := [6]) (by as_aux_lemma => kernel_rfl) (by simp) ?_
            refine AllReadyH.cons (by simp only [List.getElem?_toArray, List.getElem?_cons_zero, List.getElem?_cons_succ]; rfl) (fun K hK => ?_) AllReadyH.nil
            go_simp
            go_at_call 64; refine (kg.out _ (bel_drewN w4 1)).mono ?_; rintro e w5 ⟨rfl, hb5⟩
            have hB5 : RowKit.Below w4.heap.size w4 w5 := (bel_drewN w4 1).trans hb5
            refine hK.out _ _ ⟨hB5.mono (Nat.le_of_lt hlt4), hcv.out _ hB5⟩ (fun hNew => ?_)
            clear hK K hHeld
            have hHeld := hNew
            clear hNew hb5
            try simp only [Act.put, List.setIfInBounds_toArray, List.set_cons_zero, List.set_cons_succ]
            refine wpAnyH_take (i := 10) (v := ?_) (by simp only [List.getElem?_toArray, List.getElem?_cons_zero, List.getElem?_cons_succ]; rfl) (by as_aux_lemma => kernel_rfl) (by as_aux_lemma => kernel_rfl) (by as_aux_lemma => kernel_rfl) (fun _ _ _ h => h) (Or.inl ⟨by rfl, ?_⟩) (by assumption) ?_
            rotate_left
            · intro V hV
              first | (go_simp; done) | (go_simp; with_reducible rfl)
            try simp only [Act.put, List.setIfInBounds_toArray, List.set_cons_zero, List.set_cons_succ]
            refine wpAnyH_take (i := 11) (v := ?_) (by simp only [List.getElem?_toArray, List.getElem?_cons_zero, List.getElem?_cons_succ]; rfl) (by as_aux_lemma => kernel_rfl) (by as_aux_lemma => kernel_rfl) (by as_aux_lemma => kernel_rfl) (fun _ _ _ h => h) (Or.inl ⟨by rfl, ?_⟩) (by assumption) ?_
            rotate_left
            · intro V hV
              have r0 := hV.2
              first | (go_simp; done) | (go_simp; with_reducible rfl)
            try simp only [Act.put, List.setIfInBounds_toArray, List.set_cons_zero, List.set_cons_succ]
            refine wpAnyH_ready (rs := [12]) (by as_aux_lemma => kernel_rfl) (by simp) ?_
            refine AllReadyH.cons (by simp only [List.getElem?_toArray, List.getElem?_cons_zero, List.getElem?_cons_succ]; rfl) (fun K hK => ?_) AllReadyH.nil
            go_simp
            go_at_call 63; refine (ks.out _ hB5).mono ?_; rintro e w6 ⟨rfl, hw6⟩
            have hC6 : CB w6 B (clsZ (inB true wss) true (p + 32 + 1)) ((clsN (inB true wss) true (p + 32 + 1)).2 : Int) := by
              rw [hw6, HZ1.out, HZ2.out]
              exact (HC4.out.below hB5).set hil v
            have hB6 : RowKit.Below B w4 w6 := by rw [hw6]; exact (hB5.mono (Nat.le_of_lt hlt4)).setCell (Nat.le_refl _) _
            have hc6 : w6.cell? ⟨B, p, none⟩ = some (.int .i64 v) := by
              rw [hw6, World.cell?_setCell_other _ _ _ _ (fun e => by injection e with e1 e2; omega)]
              exact hcv.out _ hB5
            refine hK.out _ _ ⟨hB6, hc6⟩ (fun hNew => ?_)
            clear hK K hHeld hNew hw6 hc6
            try simp only [Act.put, List.setIfInBounds_toArray, List.set_cons_zero, List.set_cons_succ]
            refine wpAnyH_done (by kernel_rfl) ?_ _
            refine NoPanic.normal ?_
            have HC6 := Lib.hid hC6
            have HB6 := Lib.hid (HB4.out.trans hB6)
            clear hC6 hB6 hB5
            go_wp2
            go_roundw
            case rel => exact ⟨p + 32 + 1, by omega, by go_num, HC6.out, HB6.out⟩
            case measure => simp [intOf]; omega
    · obtain rfl : i = 256 := by omega
      have hd : decide (((256 : Nat) : Int) < 256) = false := by decide
      have hz : clsZ (inB fold wss) fold 256 = clsP fold wss := by
        unfold clsZ clsP
        simp
      rw [hz] at hCi
      have HCi := Lib.hid hCi
      have HBi := Lib.hid hBi
      clear hz hCi hBi
      go_wp2
      go_ret2
      exact ⟨B, rfl, HCi.out, by have := hB.size; omega, hB.trans ((HB3.out.trans (HBi.out.mono (by have := HB3.out.size; have := HWS.out; omega))).mono hB.size)⟩
end Go.Proofs.YtjfhefffbkpgkaaGreat

/- Bytes that are told apart (layer 10): a set's classes, told; walked. Printed by exp.py. -/

namespace Go.Proofs.YtjfhefffbkpgkaaGreat
open Go.RowKit Go.Sort
set_option linter.unusedVariables false
set_option linter.unusedSimpArgs false

theorem results_row3 {fn : Func} {p u v : Tmp} {tmps : Array Value} {W : World} {B : Nat} {cs : Array Value} (h : fn.results = #[.cell p 25, .tmp u, .tmp v]) (hp : tmps.getD p undef = .pointer (some ⟨B, 0, none⟩)) (hB : W.heap[B]? = some (.cells cs 25 (0, 0))) (hs : cs.size = 256) :
    (results fn tmps).run Tryz.prog W = .ok (.tuple #[.agg cs, tmps.getD u undef, tmps.getD v undef]) W := by
  have hp' : tmps[p]?.getD undef = .pointer (some ⟨B, 0, none⟩) := by simpa using hp
  simp [results, h, hp', asAddr, run_loadVar_row W B 25 25 cs (0, 0) _ hB Tryz.underlying25 rfl (by rw [hs]; exact info25)]
theorem rowI_size (l : List Int) : ((l.map (Value.int .i64)).toArray).size = l.length := by simp
theorem rowI_one (l : List Int) : ((l.map (Value.int .i64)).toArray).all (·.oneCell') = true := by simp [Value.oneCell']
/-- What Of tells of a set that may be, and of one that may not. -/
abbrev clsV (l : List Int) : Value := .agg (l.map (Value.int .i64)).toArray

theorem wanted_one {c : Bool} {p q : Prop} (hc : c = true) (h : p) : if c = true then p else q := by rw [if_pos hc]; exact h

set_option maxRecDepth 100000 in
set_option maxHeartbeats 4000000 in
theorem of10_no (fold : Bool) (a : Option Addr) (la ca : Nat) (wss : List (List Int)) (w : World) (hA : Wds w a la wss) (hla : la ≤ 1000000) (hM : ∀ x ∈ wss, x.length ≤ 1000000) (hT : (begL fold wss).length ≤ 1000000) (hr : rightP fold wss = false) :
    Calls Tryz.prog 27 #[.agg (setV fold a la ca)] w fun e w' => e = .returned (.tuple #[clsV (List.replicate 256 0), .int .i64 0, .int .i64 2]) ∧ Below w.heap.size w w' := by
  obtain ⟨W, hW⟩ : ∃ W, W = (w.alloc (.cells (setV fold a la ca) 24)).alloc (.cells Tryz.zeroCells25 25) := ⟨_, rfl⟩
  have hB : Below w.heap.size w W := by rw [hW]; exact ((Below.refl _ _).alloc (Nat.le_refl _) _).alloc (by simp) _
  have hO : Bx w.heap.size [.cells (setV fold a la ca) 24, .cells Tryz.zeroCells25 25] W := by rw [hW]; exact ((Bx.nil _ w).snoc _ rfl).snoc _ (by simp)
  have s0 : W.cell? ⟨w.heap.size, 0, none⟩ = some (.bool fold) := hO.cell (i := 0) rfl rfl
  have s1 : W.cell? ⟨w.heap.size, 1, none⟩ = some (.slice a la ca) := hO.cell (i := 0) rfl rfl
  have HC := Lib.hid (count10_no fold a la ca wss W (hA.below hB) hla hM hT hr)
  have HO := Lib.hid hO
  clear hr hO
  go_enter Tryz.func27, Tryz.ntmps27
  go_upto_region 1 with fail
  rw [← hW]
  clear hW
  go_wp2_with fail
  refine HC.out.mono ?_
  rintro e w1 ⟨rfl, hb1⟩
  have h1 : w1.heap[w.heap.size + 1]? = some (.cells Tryz.zeroCells25 25 (0, 0)) := (HO.out.below hb1) 1 _ rfl
  rw [zero25] at h1
  have hi : (Tryz.prog.info? 25).map (·.size) = some (((List.replicate 256 (0 : Int)).map (Value.int .i64)).toArray).size := by rw [rowI_size]; exact info25
  have H1 := Lib.hid h1
  have HI := Lib.hid hi
  clear h1 hi s0 s1
  obtain ⟨Z, hZ⟩ : ∃ Z : List Int, List.replicate 256 0 = Z := ⟨_, rfl⟩
  have hZl : Z.length = 256 := by rw [← hZ]; simp
  rw [hZ] at H1 HI
  have HZe := Lib.hid hZ
  clear hZ
  go_wp2_with (first
    | (refine wpList_load_row rfl 25 _ rfl (w.heap.size + 1) rfl 25 _ (0, 0) _ H1.out Tryz.underlying25 rfl HI.out ?_)
    | (refine wpList_store_row rfl 25 _ _ rfl (w.heap.size + 1) _ rfl rfl 25 _ H1.out HI.out rfl (rowI_one Z) ?_))
  have h2 := setRow_heap w1 (w.heap.size + 1) _ ((Z.map (Value.int .i64)).toArray) _ _ H1.out
  refine bodyPost_ret (results_row3 rfl rfl h2 (by rw [rowI_size]; exact hZl)) rfl ?_
  rw [HZe.out]
  exact ⟨rfl, below_setRow (hB.trans (hb1.mono hB.size)) (by omega) _⟩

set_option maxRecDepth 100000 in
set_option maxHeartbeats 8000000 in
theorem of10_yes (fold : Bool) (a : Option Addr) (la ca : Nat) (wss : List (List Int)) (w : World) (hA : Wds w a la wss) (hla : la ≤ 1000000) (hM : ∀ x ∈ wss, x.length ≤ 1000000) (hT : (begL fold wss).length ≤ 1000000) (hr : rightP fold wss = true) :
    Calls Tryz.prog 27 #[.agg (setV fold a la ca)] w fun e w' => e = .returned (.tuple #[clsV (clsP fold wss), .int .i64 (manyP fold wss), .int .i64 0]) ∧ Below w.heap.size w w' := by
  obtain ⟨W, hW⟩ : ∃ W, W = (w.alloc (.cells (setV fold a la ca) 24)).alloc (.cells Tryz.zeroCells25 25) := ⟨_, rfl⟩
  have hB : Below w.heap.size w W := by rw [hW]; exact ((Below.refl _ _).alloc (Nat.le_refl _) _).alloc (by simp) _
  have hO : Bx w.heap.size [.cells (setV fold a la ca) 24, .cells Tryz.zeroCells25 25] W := by rw [hW]; exact ((Bx.nil _ w).snoc _ rfl).snoc _ (by simp)
  have s0 : W.cell? ⟨w.heap.size, 0, none⟩ = some (.bool fold) := hO.cell (i := 0) rfl rfl
  have s1 : W.cell? ⟨w.heap.size, 1, none⟩ = some (.slice a la ca) := hO.cell (i := 0) rfl rfl
  have HC := Lib.hid (count10_yes fold a la ca wss W (hA.below hB) hla hM hT hr)
  have HO := Lib.hid hO
  clear hr hO
  go_enter Tryz.func27, Tryz.ntmps27
  go_upto_region 1 with fail
  rw [← hW]
  clear hW
  go_wp2_with fail
  refine HC.out.mono ?_
  rintro e w1 ⟨B, rfl, hC1, hBw, hb1⟩
  have h1 : w1.heap[w.heap.size + 1]? = some (.cells Tryz.zeroCells25 25 (0, 0)) := (HO.out.below hb1) 1 _ rfl
  rw [zero25] at h1
  have H1 := Lib.hid h1
  have HC1 := Lib.hid hC1
  obtain ⟨L, hL⟩ : ∃ L, clsP fold wss = L := ⟨_, rfl⟩
  obtain ⟨M, hM2⟩ : ∃ M : Int, (manyP fold wss : Int) = M := ⟨_, rfl⟩
  rw [hL, hM2] at HC1
  have HLe := Lib.hid hL
  have HMe := Lib.hid hM2
  have hLl : L.length = 256 := HC1.out.2
  have hi : (Tryz.prog.info? 25).map (·.size) = some ((L.map (Value.int .i64))).length := by rw [List.length_map, hLl]; exact info25
  have HI := Lib.hid hi
  have hOr : Hid (∀ V, CB V B L M → V.rangeAt B 0 (L.map (Value.int .i64)) ∧ V.cell? ⟨B, 256, none⟩ = some (.int .i64 M)) := fun V h => by
    refine ⟨fun j v hv => ?_, h.many⟩
    rw [List.getElem?_map, Option.map_eq_some_iff] at hv
    obtain ⟨x, hx, rfl⟩ := hv
    rw [Nat.zero_add]
    exact h.cell (by have := (List.getElem?_eq_some_iff.1 hx).1; omega) hx
  have hlt0 : w.heap.size + 1 < W.heap.size := (Array.getElem?_eq_some_iff.1 (HO.out 1 _ rfl)).1
  have hBne : B ≠ w.heap.size + 1 := by omega
  have hlt1 : w.heap.size + 1 < w1.heap.size := by have := hb1.size; omega
  clear h1 hC1 hi s0 s1 HC hL hM2
  go_upto_region 4 with fail
  refine wp_region_noPanic ?_
  refine wp_region_held_drew (S := fun V => CB V B L M ∧ RowKit.Below (w.heap.size + 1) w1 V) (by kernel_rfl) ⟨HC1.out.below (bel_drewN w1 1), (bel_drewN w1 1).mono (Nat.le_of_lt hlt1)⟩ (fun hHeld => ?_)
  refine wpAnyH_take (i := 0) (v := ?_) (by simp only [List.getElem?_toArray, List.getElem?_cons_zero, List.getElem?_cons_succ]; rfl) (by as_aux_lemma => kernel_rfl) (by as_aux_lemma => kernel_rfl) (by as_aux_lemma => kernel_rfl) (fun _ _ _ h => h) (Or.inl ⟨by rfl, ?_⟩) (by assumption) ?_
  rotate_left
  · intro V hV
    first | (go_simp; done) | (go_simp; with_reducible rfl)
  try simp only [Act.put, List.setIfInBounds_toArray, List.set_cons_zero, List.set_cons_succ]
  refine wpAnyH_take (i := 1) (v := ?_) (by simp only [List.getElem?_toArray, List.getElem?_cons_zero, List.getElem?_cons_succ]; rfl) (by as_aux_lemma => kernel_rfl) (by as_aux_lemma => kernel_rfl) (by as_aux_lemma => kernel_rfl) (fun _ _ _ h => h) (Or.inl ⟨by rfl, ?_⟩) (by assumption) ?_
  rotate_left
  · intro V hV
    first | (go_simp; done) | (go_simp; with_reducible rfl)
  try simp only [Act.put, List.setIfInBounds_toArray, List.set_cons_zero, List.set_cons_succ]
  refine wpAnyH_take (i := 2) (v := ?_) (by simp only [List.getElem?_toArray, List.getElem?_cons_zero, List.getElem?_cons_succ]; rfl) (by as_aux_lemma => kernel_rfl) (by as_aux_lemma => kernel_rfl) (by as_aux_lemma => kernel_rfl) (fun _ _ _ h => h) (Or.inl ⟨by rfl, ?_⟩) (by assumption) ?_
  rotate_left
  · intro V hV
    first | (go_simp; done) | (go_simp; with_reducible rfl)
  try simp only [Act.put, List.setIfInBounds_toArray, List.set_cons_zero, List.set_cons_succ]
  refine wpAnyH_take (i := 3) (v := ?_) (by simp only [List.getElem?_toArray, List.getElem?_cons_zero, List.getElem?_cons_succ]; rfl) (by as_aux_lemma => kernel_rfl) (by as_aux_lemma => kernel_rfl) (by as_aux_lemma => kernel_rfl) (fun _ _ _ h => h) (Or.inl ⟨by rfl, ?_⟩) (by assumption) ?_
  rotate_left
  · intro V hV
    first | (go_simp; done) | (go_simp; with_reducible rfl)
  try simp only [Act.put, List.setIfInBounds_toArray, List.set_cons_zero, List.set_cons_succ]
  refine' wpAnyH_take (i := 4) (v := _) (by simp only [List.getElem?_toArray, List.getElem?_cons_zero, List.getElem?_cons_succ]; rfl) (by kernel_rfl) (by kernel_rfl) (by kernel_rfl) (fun _ _ _ h => h) (yieldsIf_load_mid (by rfl) _ _ rfl B 0 rfl (L.map (Value.int .i64)) _ (fun V hV => (hOr.out V hV.1).1) Tryz.underlying25 rfl HI.out) (by assumption) ?_
  try simp only [Act.put, List.setIfInBounds_toArray, List.set_cons_zero, List.set_cons_succ]
  refine wpAnyH_take (i := 5) (v := ?_) (by simp only [List.getElem?_toArray, List.getElem?_cons_zero, List.getElem?_cons_succ]; rfl) (by as_aux_lemma => kernel_rfl) (by as_aux_lemma => kernel_rfl) (by as_aux_lemma => kernel_rfl) (fun _ _ _ h => h) (Or.inl ⟨by rfl, ?_⟩) (by assumption) ?_
  rotate_left
  · intro V hV
    first | (go_simp; done) | (go_simp; with_reducible rfl)
  try simp only [Act.put, List.setIfInBounds_toArray, List.set_cons_zero, List.set_cons_succ]
  refine wpAnyH_take (i := 6) (v := ?_) (by simp only [List.getElem?_toArray, List.getElem?_cons_zero, List.getElem?_cons_succ]; rfl) (by as_aux_lemma => kernel_rfl) (by as_aux_lemma => kernel_rfl) (by as_aux_lemma => kernel_rfl) (fun _ _ _ h => h) (Or.inl ⟨by rfl, ?_⟩) (by assumption) ?_
  rotate_left
  · intro V hV
    first | (go_simp; done) | (go_simp; with_reducible rfl)
  try simp only [Act.put, List.setIfInBounds_toArray, List.set_cons_zero, List.set_cons_succ]
  refine wpAnyH_take (i := 7) (v := ?_) (by simp only [List.getElem?_toArray, List.getElem?_cons_zero, List.getElem?_cons_succ]; rfl) (by as_aux_lemma => kernel_rfl) (by as_aux_lemma => kernel_rfl) (by as_aux_lemma => kernel_rfl) (fun _ _ _ h => h) (Or.inl ⟨by rfl, ?_⟩) (by assumption) ?_
  rotate_left
  · intro V hV
    first | (go_simp; done) | (go_simp; with_reducible rfl)
  try simp only [Act.put, List.setIfInBounds_toArray, List.set_cons_zero, List.set_cons_succ]
  refine wpAnyH_take (i := 8) (v := ?_) (by simp only [List.getElem?_toArray, List.getElem?_cons_zero, List.getElem?_cons_succ]; rfl) (by as_aux_lemma => kernel_rfl) (by as_aux_lemma => kernel_rfl) (by as_aux_lemma => kernel_rfl) (fun _ _ _ h => h) (Or.inl ⟨by rfl, ?_⟩) (by assumption) ?_
  rotate_left
  · intro V hV
    have r0 := (hOr.out V hV.1).2
    first | (go_simp; done) | (go_simp; with_reducible rfl)
  try simp only [Act.put, List.setIfInBounds_toArray, List.set_cons_zero, List.set_cons_succ]
  refine wpAnyH_ready (rs := [9]) (by as_aux_lemma => kernel_rfl) (by simp) ?_
  refine AllReadyH.cons (by simp only [List.getElem?_toArray, List.getElem?_cons_zero, List.getElem?_cons_succ]; rfl) (fun K hK => ?_) AllReadyH.nil
  have hg1 : w1.drew.heap[w.heap.size + 1]? = some (.cells ((List.replicate 256 (0 : Int)).map (Value.int .i64)).toArray 25 (0, 0)) := H1.out
  have hia : (Tryz.prog.info? 25).map (·.size) = some (((L.map (Value.int .i64))).toArray).size := by rw [List.size_toArray]; exact HI.out
  refine wanted_one (by kernel_rfl) ?_
  refine wp_store_row 25 _ _ rfl (w.heap.size + 1) _ rfl rfl 25 _ hg1 hia (by rw [rowI_size, rowI_size]; rw [hLl]; rfl) (rowI_one L) ?_
  have h2 := setRow_heap w1.drew (w.heap.size + 1) _ ((L.map (Value.int .i64)).toArray) _ _ hg1
  have H2 := Lib.hid h2
  have hS2 : CB (w1.drew.setRow (w.heap.size + 1) ((L.map (Value.int .i64)).toArray)) B L M ∧ RowKit.Below (w.heap.size + 1) w1 (w1.drew.setRow (w.heap.size + 1) ((L.map (Value.int .i64)).toArray)) :=
    ⟨⟨(setRow_other _ _ _ _ hBne).trans (HC1.out.below (bel_drewN w1 1)).1, hLl⟩, below_setRow ((bel_drewN w1 1).mono (Nat.le_of_lt hlt1)) (Nat.le_refl _) _⟩
  clear h2 hg1 hia
  obtain ⟨w2, hw2⟩ : ∃ w2, w2 = w1.drew.setRow (w.heap.size + 1) ((L.map (Value.int .i64)).toArray) := ⟨_, rfl⟩
  rw [← hw2] at H2 hS2 ⊢
  clear hw2
  refine hK.out _ _ hS2 (fun hNew => ?_)
  clear hK K hHeld
  have hHeld := hNew
  clear hNew
  try simp only [Act.put, List.setIfInBounds_toArray, List.set_cons_zero, List.set_cons_succ]
  refine wpAnyH_take (i := 10) (v := ?_) (by simp only [List.getElem?_toArray, List.getElem?_cons_zero, List.getElem?_cons_succ]; rfl) (by as_aux_lemma => kernel_rfl) (by as_aux_lemma => kernel_rfl) (by as_aux_lemma => kernel_rfl) (fun _ _ _ h => h) (Or.inl ⟨by rfl, ?_⟩) (by assumption) ?_
  rotate_left
  · intro V hV
    first | (go_simp; done) | (go_simp; with_reducible rfl)
  try simp only [Act.put, List.setIfInBounds_toArray, List.set_cons_zero, List.set_cons_succ]
  refine wpAnyH_take (i := 11) (v := ?_) (by simp only [List.getElem?_toArray, List.getElem?_cons_zero, List.getElem?_cons_succ]; rfl) (by as_aux_lemma => kernel_rfl) (by as_aux_lemma => kernel_rfl) (by as_aux_lemma => kernel_rfl) (fun _ _ _ h => h) (Or.inl ⟨by rfl, ?_⟩) (by assumption) ?_
  rotate_left
  · intro V hV
    first | (go_simp; done) | (go_simp; with_reducible rfl)
  try simp only [Act.put, List.setIfInBounds_toArray, List.set_cons_zero, List.set_cons_succ]
  refine wpAnyH_done (by kernel_rfl) ?_ _
  refine NoPanic.normal ?_
  go_wp2_with fail
  refine bodyPost_ret (results_row3 rfl rfl H2.out (by rw [rowI_size]; exact hLl)) rfl ?_
  rw [← HLe.out, ← HMe.out]
  exact ⟨rfl, hB.trans ((hb1.mono hB.size).trans (hS2.2.mono (by omega)))⟩
end Go.Proofs.YtjfhefffbkpgkaaGreat

/- Plain laws of layer 7: what is found in a trie. -/

namespace Go.Proofs.YtjfhefffbkpgkaaGreat
set_option linter.unusedVariables false

/-- The node of a text's bytes. -/
def findP (sp : List (List Int)) (b : List Int) : Int × Bool := if b ∈ sp then ((sp.idxOf b : Int), true) else (0, false)
theorem findP_at {sp : List (List Int)} (hn : sp.Nodup) {i : Nat} {b : List Int} (h : sp[i]? = some b) : findP sp b = ((i : Int), true) := by
  unfold findP
  rw [if_pos (List.mem_of_getElem? h)]
  have := placeS_at hn h
  unfold placeS at this
  rw [if_pos (List.mem_of_getElem? h)] at this
  rw [this]
theorem findP_no {sp : List (List Int)} {b : List Int} (h : b ∉ sp) : findP sp b = (0, false) := by unfold findP; rw [if_neg h]
/-- A kid of a node, by a byte. -/
def IsKid (T : TrieT) (node c : Int) (k : Nat) : Prop := 1 ≤ k ∧ k < T.up.length ∧ T.up[k]? = some node ∧ T.byt[k]? = some c
/-- What is told of kids. -/
def KidR (T : TrieT) (node c : Int) (r : Int) (ok : Bool) : Prop := (ok = true → ∃ k : Nat, r = k ∧ IsKid T node c k) ∧ (ok = false → r = 0 ∧ ∀ k, ¬ IsKid T node c k)

section
variable {ws : List (List Int)}
theorem trie_up {i : Nat} {x : List Int} (hx : (nodesL ws)[i]? = some x) (h0 : x ≠ []) : ∃ j : Nat, j < i ∧ (trieP ws).up[i]? = some (j : Int) ∧ (nodesL ws)[j]? = some x.dropLast := by
  obtain ⟨j, h1, h2, h3⟩ := up_lt hx h0
  exact ⟨j, h1, by simp [trieP, hx, h3], h2⟩
theorem trie_byt {i : Nat} {x : List Int} (hx : (nodesL ws)[i]? = some x) : (trieP ws).byt[i]? = some (lastB x) := by simp [trieP, hx]
theorem trie_dep {i : Nat} {x : List Int} (hx : (nodesL ws)[i]? = some x) : (trieP ws).dep[i]? = some (x.length : Int) := by simp [trieP, hx]
theorem trie_wrd {i : Nat} {x : List Int} (hx : (nodesL ws)[i]? = some x) : (trieP ws).wrd[i]? = some (placeS ws x) := by simp [trieP, hx]
theorem trie_lens : (trieP ws).up.length = (nodesL ws).length ∧ (trieP ws).dep.length = (nodesL ws).length ∧ (trieP ws).wrd.length = (nodesL ws).length ∧ (trieP ws).byt.length = (nodesL ws).length := by simp [trieP]
theorem trie_up0 : (trieP ws).up[0]? = some 0 := by
  have h := nodesL_head ws
  have hp : placeS (nodesL ws) [] = 0 := placeS_at (nodesL_srt ws).nodup h
  simp [trieP, h, hp]
theorem node_back {i : Nat} {x : List Int} (hi : 1 ≤ i) (hx : (nodesL ws)[i]? = some x) : x ≠ [] := by
  obtain ⟨j, rfl⟩ : ∃ j, i = j + 1 := ⟨i - 1, by omega⟩
  exact nodes_ne hx
theorem kid_unique {i k : Nat} {u c : Int} (h1 : IsKid (trieP ws) u c i) (h2 : IsKid (trieP ws) u c k) : i = k := by
  obtain ⟨i1, i2, i3, i4⟩ := h1
  obtain ⟨k1, k2, k3, k4⟩ := h2
  rw [trie_lens.1] at i2 k2
  obtain ⟨x, hx⟩ : ∃ x, (nodesL ws)[i]? = some x := ⟨(nodesL ws)[i], by simp⟩
  obtain ⟨y, hy⟩ : ∃ y, (nodesL ws)[k]? = some y := ⟨(nodesL ws)[k], by simp⟩
  have x0 := node_back i1 hx
  have y0 := node_back k1 hy
  obtain ⟨a, _, ha, hax⟩ := trie_up hx x0
  obtain ⟨b, _, hb, hby⟩ := trie_up hy y0
  rw [ha] at i3
  rw [hb] at k3
  have e1 : a = b := by
    have := Option.some.inj i3
    have := Option.some.inj k3
    omega
  subst e1
  rw [hax] at hby
  rw [trie_byt hx] at i4
  rw [trie_byt hy] at k4
  have e2 : lastB x = lastB y := by rw [Option.some.inj i4, Option.some.inj k4]
  have e3 : x = y := by rw [← dropLast_lastB x0, ← dropLast_lastB y0, e2, Option.some.inj hby]
  subst e3
  exact nodup_at (nodesL_srt ws).nodup hx hy
theorem kid_self {i : Nat} (hi : 1 ≤ i) (hn : i < (nodesL ws).length) {u c : Int} (hu : (trieP ws).up[i]? = some u) (hc : (trieP ws).byt[i]? = some c) {r : Int} {ok : Bool} (h : KidR (trieP ws) u c r ok) : ok = true ∧ r = i := by
  have hk : IsKid (trieP ws) u c i := ⟨hi, by rw [trie_lens.1]; exact hn, hu, hc⟩
  cases ok with
  | false => exact absurd hk ((h.2 rfl).2 i)
  | true =>
    obtain ⟨k, e, h2⟩ := h.1 rfl
    exact ⟨rfl, by rw [e, kid_unique h2 hk]⟩
theorem prefix_node {w x : List Int} (hw : w ∈ ws) (hp : x <+: w) : x ∈ nodesL ws := by
  rw [mem_nodesL, IsBeg.iff]
  by_cases e : x = []
  · exact .inl e
  · exact .inr ⟨e, w, hw, hp⟩
theorem node_prefix (hne : ws ≠ []) {x : List Int} (hx : x ∈ nodesL ws) : ∃ w ∈ ws, x <+: w := by
  rw [mem_nodesL, IsBeg.iff] at hx
  rcases hx with rfl | ⟨_, w, hw, hp⟩
  · obtain ⟨w, hw⟩ := List.exists_mem_of_ne_nil _ hne
    exact ⟨w, hw, List.nil_prefix⟩
  · exact ⟨w, hw, hp⟩
/-- A node that is no word has a kid. -/
theorem has_kid (hne : ws ≠ []) {i : Nat} {x : List Int} (hx : (nodesL ws)[i]? = some x) (hn : x ∉ ws) : ∃ j, 1 ≤ j ∧ j < (nodesL ws).length ∧ (trieP ws).up[j]? = some (i : Int) := by
  obtain ⟨w, hw, t, rfl⟩ := node_prefix hne (List.mem_of_getElem? hx)
  cases t with
  | nil => rw [List.append_nil] at hw; exact absurd hw hn
  | cons a t =>
    have hm : x ++ [a] ∈ nodesL ws := prefix_node hw ⟨t, by simp⟩
    obtain ⟨j, hj⟩ := List.getElem?_of_mem hm
    have h0 : x ++ [a] ≠ [] := by simp
    obtain ⟨b, _, hb, hbx⟩ := trie_up hj h0
    rw [List.dropLast_concat] at hbx
    have e := nodup_at (nodesL_srt ws).nodup hbx hx
    refine ⟨j, ?_, (List.getElem?_eq_some_iff.1 hj).1, by rw [hb, e]⟩
    cases j with
    | zero => rw [nodesL_head] at hj; exact absurd (Option.some.inj hj).symm h0
    | succ j => omega
/-- Nodes stand by length, of one length by bytes. -/
theorem node_lt {i : Nat} {x y : List Int} (hx : (nodesL ws)[i]? = some x) (hy : (nodesL ws)[i + 1]? = some y) : ltS x y = true := by
  have h1 := (List.getElem?_eq_some_iff.1 hx)
  have h2 := (List.getElem?_eq_some_iff.1 hy)
  have := List.pairwise_iff_getElem.1 (nodesL_srt ws) i (i + 1) h1.1 h2.1 (by omega)
  rw [h1.2, h2.2] at this
  exact this
theorem word_find (h : rightP false ws = true) {k : Nat} {x : List Int} (hx : ws[k]? = some x) : ∃ j : Nat, 1 ≤ j ∧ j < (nodesL ws).length ∧ findP (nodesL ws) x = ((j : Int), true) ∧ (trieP ws).wrd[j]? = some (k : Int) := by
  obtain ⟨h1, h2⟩ := right_nodup h
  have h3 := ((right_spec h).2.2.1 x (List.mem_of_getElem? hx)).1
  have hm := prefix_node (List.mem_of_getElem? hx) (List.prefix_refl x)
  obtain ⟨j, hj⟩ := List.getElem?_of_mem hm
  refine ⟨j, ?_, (List.getElem?_eq_some_iff.1 hj).1, findP_at (nodesL_srt ws).nodup hj, by rw [trie_wrd hj, placeS_at h1 hx]⟩
  cases j with
  | zero => rw [nodesL_head] at hj; obtain rfl := Option.some.inj hj; exact absurd rfl h3
  | succ j => omega
theorem nodes_two (h : rightP false ws = true) : 2 ≤ (nodesL ws).length := by
  obtain ⟨_, h2, _⟩ := right_spec h
  have := words_lt h
  have : ws.length ≠ 0 := fun e => h2 (List.eq_nil_of_length_eq_zero e)
  omega
theorem atL_prefix (w b : List Int) : atL false w (b.length : Int) b = true ↔ b <+: w := by
  unfold atL sameL
  rw [foldL_false, foldL_false, Bool.and_eq_true, decide_eq_true_iff, decide_eq_true_iff, List.prefix_iff_eq_take]
  constructor
  · rintro ⟨_, h⟩
    simpa using h.symm
  · intro h
    refine ⟨⟨by omega, ?_⟩, by simpa using h.symm⟩
    have := congrArg List.length h
    rw [List.length_take] at this
    omega
theorem begins_node (hne : ws ≠ []) (b : List Int) : (ws.any fun w => atL false w (b.length : Int) b) = decide (b ∈ nodesL ws) := by
  rw [Bool.eq_iff_iff, decide_eq_true_iff, List.any_eq_true]
  constructor
  · rintro ⟨w, hw, h⟩
    exact prefix_node hw ((atL_prefix w b).1 h)
  · intro h
    obtain ⟨w, hw, hp⟩ := node_prefix hne h
    exact ⟨w, hw, (atL_prefix w b).2 hp⟩
end

end Go.Proofs.YtjfhefffbkpgkaaGreat

/- Plain words of layer 8: the longest end of a text that is a node; links, chains, steps. -/

namespace Go.Proofs.YtjfhefffbkpgkaaGreat
set_option linter.unusedVariables false

/-- The longest end of a text that stands in a list. -/
def lsf (N : List (List Int)) : List Int → List Int
  | [] => []
  | a :: t => if (a :: t) ∈ N then a :: t else lsf N t
theorem lsf_suffix (N : List (List Int)) : ∀ b, lsf N b <:+ b
  | [] => List.suffix_refl _
  | a :: t => by
    unfold lsf
    split
    · exact List.suffix_refl _
    · exact (lsf_suffix N t).trans (List.suffix_cons a t)
theorem lsf_mem {N : List (List Int)} (h0 : [] ∈ N) : ∀ b, lsf N b ∈ N
  | [] => h0
  | a :: t => by
    unfold lsf
    split
    · assumption
    · exact lsf_mem h0 t
theorem lsf_max {N : List (List Int)} {y : List Int} (hy : y ∈ N) : ∀ {b}, y <:+ b → y.length ≤ (lsf N b).length
  | [], h => by rw [List.eq_nil_of_suffix_nil h]; exact Nat.zero_le _
  | a :: t, h => by
    unfold lsf
    split
    · exact h.length_le
    · rename_i hn
      rcases List.suffix_cons_iff.1 h with e | h
      · rw [e] at hy; exact absurd hy hn
      · exact lsf_max hy h
theorem lsf_of_mem {N : List (List Int)} {b : List Int} (h : b ∈ N) : lsf N b = b := by
  cases b with
  | nil => rfl
  | cons a t => unfold lsf; rw [if_pos h]
theorem suffix_eq {x y b : List Int} (hx : x <:+ b) (hy : y <:+ b) (h : x.length = y.length) : x = y := by
  obtain ⟨s, rfl⟩ := hx
  obtain ⟨t, ht⟩ := hy
  exact (List.append_inj_right' ht.symm (by omega))
theorem lsf_unique {N : List (List Int)} {b y : List Int} (hy : y ∈ N) (hs : y <:+ b) (h0 : [] ∈ N) (hm : ∀ z, z <:+ b → z ∈ N → z.length ≤ y.length) : lsf N b = y := by
  have h1 := lsf_max hy hs
  have h2 := hm _ (lsf_suffix N b) (lsf_mem h0 b)
  exact suffix_eq (lsf_suffix N b) hs (by omega)
/-- A list that has with a text all of its beginnings. -/
def Pre (N : List (List Int)) : Prop := [] ∈ N ∧ ∀ x c, x ++ [c] ∈ N → x ∈ N
theorem suffix_snoc {y b : List Int} {c : Int} (h : y <:+ b ++ [c]) : y = [] ∨ ∃ z, y = z ++ [c] ∧ z <:+ b := by
  by_cases e : y = []
  · exact .inl e
  · right
    obtain ⟨s, hs⟩ := h
    have h1 := List.dropLast_concat_getLast e
    rw [← h1, ← List.append_assoc] at hs
    obtain ⟨h2, h3⟩ := List.append_inj' hs rfl
    refine ⟨y.dropLast, ?_, s, h2⟩
    have h4 : y.getLast e = c := by simpa using h3
    rw [← h4, h1]
theorem lsf_step {N : List (List Int)} (hN : Pre N) (s : List Int) (c : Int) : lsf N (s ++ [c]) = lsf N (lsf N s ++ [c]) := by
  refine lsf_unique (lsf_mem hN.1 _) ?_ hN.1 (fun z hz hm => ?_)
  · refine (lsf_suffix N _).trans ?_
    obtain ⟨t, ht⟩ := lsf_suffix N s
    exact ⟨t, by rw [← List.append_assoc, ht]⟩
  · rcases suffix_snoc hz with rfl | ⟨y, rfl, hy⟩
    · exact Nat.zero_le _
    · have hyN := hN.2 _ _ hm
      have hle := lsf_max hyN hy
      refine lsf_max hm ?_
      obtain ⟨t, ht⟩ := List.suffix_of_suffix_length_le hy (lsf_suffix N s) hle
      exact ⟨t, by rw [← List.append_assoc, ht]⟩
/-- A node's link. -/
def linkL (N : List (List Int)) (x : List Int) : List Int := lsf N x.tail
/-- A node's chain. -/
def chainL (N : List (List Int)) : Nat → List Int → List (List Int)
  | 0, x => [x]
  | n + 1, x => if x = [] then [x] else x :: chainL N n (linkL N x)
theorem linkL_len {N : List (List Int)} {x : List Int} (h : x ≠ []) : (linkL N x).length < x.length := by
  have h1 := (lsf_suffix N x.tail).length_le
  have : x.length ≠ 0 := fun e => h (List.eq_nil_of_length_eq_zero e)
  rw [List.length_tail] at h1
  unfold linkL
  omega
theorem mem_chainL {N : List (List Int)} (h0 : [] ∈ N) : ∀ {n : Nat} {x y : List Int}, x ∈ N → x.length ≤ n → (y ∈ chainL N n x ↔ y <:+ x ∧ y ∈ N)
  | 0, x, y, hx, hn => by
    have : x = [] := List.eq_nil_of_length_eq_zero (by omega)
    subst this
    simp only [chainL, List.mem_singleton]
    constructor
    · rintro rfl; exact ⟨List.suffix_refl _, h0⟩
    · rintro ⟨h, _⟩; exact List.eq_nil_of_suffix_nil h
  | n + 1, x, y, hx, hn => by
    unfold chainL
    by_cases e : x = []
    · subst e
      rw [if_pos rfl, List.mem_singleton]
      constructor
      · rintro rfl; exact ⟨List.suffix_refl _, h0⟩
      · rintro ⟨h, _⟩; exact List.eq_nil_of_suffix_nil h
    · rw [if_neg e, List.mem_cons]
      have hl := linkL_len (N := N) e
      have ih := mem_chainL (N := N) h0 (n := n) (x := linkL N x) (y := y) (lsf_mem h0 _) (by omega)
      rw [ih]
      constructor
      · rintro (rfl | ⟨h1, h2⟩)
        · exact ⟨List.suffix_refl _, hx⟩
        · refine ⟨h1.trans ((lsf_suffix N x.tail).trans (List.tail_suffix x)), h2⟩
      · rintro ⟨h1, h2⟩
        by_cases e2 : y = x
        · exact .inl e2
        · right
          refine ⟨?_, h2⟩
          have hyt : y <:+ x.tail := by
            cases x with
            | nil => exact absurd rfl e
            | cons a t =>
              rcases List.suffix_cons_iff.1 h1 with e3 | h3
              · exact absurd e3 e2
              · exact h3
          exact List.suffix_of_suffix_length_le hyt (lsf_suffix N x.tail) (lsf_max h2 hyt)
theorem chainL_head (N : List (List Int)) (n : Nat) (x : List Int) : ∃ l, chainL N n x = x :: l := by
  cases n with
  | zero => exact ⟨[], rfl⟩
  | succ n =>
    unfold chainL
    split
    · exact ⟨[], rfl⟩
    · exact ⟨_, rfl⟩
theorem lsf_none {N : List (List Int)} {c : Int} (h : [c] ∉ N) : lsf N [c] = [] := by
  unfold lsf
  rw [if_neg h]
  rfl
/-- A step asks the chain: the first of its nodes that has a kid by the byte. -/
theorem step_chain {N : List (List Int)} (hN : Pre N) (c : Int) : ∀ {n : Nat} {x : List Int}, x ∈ N → x.length ≤ n →
    lsf N (x ++ [c]) = match (chainL N n x).find? (fun y => decide (y ++ [c] ∈ N)) with | some y => y ++ [c] | none => []
  | n, x, hx, hn => by
    by_cases hk : x ++ [c] ∈ N
    · rw [lsf_of_mem hk]
      obtain ⟨l, hl⟩ := chainL_head N n x
      rw [hl, List.find?_cons, decide_eq_true hk]
    · cases n with
      | zero =>
        have : x = [] := List.eq_nil_of_length_eq_zero (by omega)
        subst this
        have hk' : [c] ∉ N := hk
        show lsf N [c] = _
        rw [lsf_none hk']
        unfold chainL
        rw [List.find?_cons, decide_eq_false hk]
        rfl
      | succ n =>
        unfold chainL
        by_cases e : x = []
        · subst e
          have hk' : [c] ∉ N := hk
          show lsf N [c] = _
          rw [lsf_none hk', if_pos rfl, List.find?_cons, decide_eq_false hk]
          rfl
        · rw [if_neg e, List.find?_cons, decide_eq_false hk]
          dsimp only
          have ih := step_chain hN c (n := n) (x := linkL N x) (lsf_mem hN.1 _) (by have := linkL_len (N := N) e; omega)
          rw [← ih]
          unfold linkL
          rw [← lsf_step hN]
          cases x with
          | nil => exact absurd rfl e
          | cons a t =>
            have hk' : a :: (t ++ [c]) ∉ N := hk
            show lsf N (a :: (t ++ [c])) = lsf N (t ++ [c])
            conv => lhs; unfold lsf
            rw [if_neg hk']
theorem nodes_pre (ws : List (List Int)) : Pre (nodesL ws) :=
  ⟨(mem_nodesL ws).2 (.inl rfl), fun x c h => by
    have := ((mem_nodesL ws).1 h).up
    rw [List.dropLast_concat] at this
    exact (mem_nodesL ws).2 this⟩
/-- Chains grow shorter, the root is last. -/
theorem chainL_len (N : List (List Int)) : ∀ (n : Nat) (x : List Int), x.length ≤ n → (chainL N n x).Pairwise (fun a b => b.length < a.length) ∧ (∀ y ∈ chainL N n x, y.length ≤ x.length) ∧ (chainL N n x).head? = some x ∧ (chainL N n x).getLast? = some []
  | 0, x, hn => by
    have : x = [] := List.eq_nil_of_length_eq_zero (by omega)
    subst this
    simp [chainL]
  | n + 1, x, hn => by
    unfold chainL
    by_cases e : x = []
    · subst e; simp
    · rw [if_neg e]
      have hl := linkL_len (N := N) e
      obtain ⟨h1, h2, h3, h4⟩ := chainL_len N n (linkL N x) (by omega)
      refine ⟨List.pairwise_cons.2 ⟨fun y hy => by have := h2 y hy; omega, h1⟩, fun y hy => ?_, rfl, ?_⟩
      · rcases List.mem_cons.1 hy with rfl | hy
        · exact Nat.le_refl _
        · have := h2 y hy; omega
      · rw [List.getLast?_cons, h4]; rfl
theorem lsf_drop {N : List (List Int)} {M : Nat} (h0 : [] ∈ N) (hM : ∀ y ∈ N, y.length ≤ M) (b : List Int) : lsf N (b.drop (b.length - M)) = lsf N b := by
  symm
  refine lsf_unique (lsf_mem h0 _) ((lsf_suffix N _).trans (List.drop_suffix _ _)) h0 (fun z hz hm => ?_)
  refine lsf_max hm (List.suffix_of_suffix_length_le hz (List.drop_suffix _ _) ?_)
  have h1 := hM z hm
  have h2 := hz.length_le
  rw [List.length_drop]
  omega
theorem lsf_next {N : List (List Int)} {b : List Int} {k : Nat} (hk : k < b.length) (h : b.drop k ∉ N) : lsf N (b.drop k) = lsf N (b.drop (k + 1)) := by
  rw [List.drop_eq_getElem_cons hk] at h ⊢
  conv => lhs; unfold lsf
  rw [if_neg h]
theorem lsf_here {N : List (List Int)} {b : List Int} {k : Nat} (h : b.drop k ∈ N) : lsf N (b.drop k) = b.drop k := lsf_of_mem h
theorem lsf_end (N : List (List Int)) (b : List Int) {k : Nat} (hk : b.length ≤ k) : lsf N (b.drop k) = [] := by
  rw [List.drop_eq_nil_of_le hk]; rfl
/-- A shorter node stands ahead. -/
theorem idx_len {ws : List (List Int)} {i k : Nat} {x y : List Int} (hx : (nodesL ws)[i]? = some x) (hy : (nodesL ws)[k]? = some y) (h : y.length < x.length) : k < i := by
  have h1 := (List.getElem?_eq_some_iff.1 hx)
  have h2 := (List.getElem?_eq_some_iff.1 hy)
  rcases Nat.lt_trichotomy k i with hlt | rfl | hgt
  · exact hlt
  · rw [hx] at hy
    have := Option.some.inj hy
    rw [this] at h
    omega
  · have := List.pairwise_iff_getElem.1 (nodesL_srt ws) i k h1.1 h2.1 hgt
    rw [h1.2, h2.2] at this
    have := ltS_len this
    omega
/-- The number of a node's link. -/
def linkI (ws : List (List Int)) (x : List Int) : Int := placeS (nodesL ws) (linkL (nodesL ws) x)
def linksP (ws : List (List Int)) : List Int := (nodesL ws).map (linkI ws)
theorem linkI_at {ws : List (List Int)} (x : List Int) : ∃ k : Nat, linkI ws x = k ∧ (nodesL ws)[k]? = some (linkL (nodesL ws) x) := by
  have hm := lsf_mem (nodes_pre ws).1 x.tail
  obtain ⟨k, hk⟩ := List.getElem?_of_mem hm
  exact ⟨k, placeS_at (nodesL_srt ws).nodup hk, hk⟩
/-- A link by the link of the node above. -/
theorem link_up {ws : List (List Int)} {x : List Int} {c : Int} (h0 : x ≠ []) : linkL (nodesL ws) (x ++ [c]) = lsf (nodesL ws) (linkL (nodesL ws) x ++ [c]) := by
  unfold linkL
  rw [← lsf_step (nodes_pre ws)]
  cases x with
  | nil => exact absurd rfl h0
  | cons a t => rfl
theorem link_one {ws : List (List Int)} (c : Int) : linkL (nodesL ws) [c] = [] := rfl

end Go.Proofs.YtjfhefffbkpgkaaGreat

/- Plain words of layer 9: the words of a node. -/

namespace Go.Proofs.YtjfhefffbkpgkaaGreat
set_option linter.unusedVariables false

section
variable (N W : List (List Int))
/-- The next node that is a word, of those that end a node's bytes; none: the root. -/
def nextF : Nat → List Int → List Int
  | 0, _ => []
  | n + 1, x => if x = [] then [] else if linkL N x ∈ W then linkL N x else nextF n (linkL N x)
/-- The nodes of a node's words. -/
def endsF : Nat → List Int → List (List Int)
  | 0, _ => []
  | n + 1, x => if x = [] then [] else (if x ∈ W then [x] else []) ++ endsF n (nextF N W (n + 1) x)
theorem nextF_len : ∀ (n : Nat) (x : List Int), x ≠ [] → (nextF N W n x).length < x.length
  | 0, x, h => by
    have : x.length ≠ 0 := fun e => h (List.eq_nil_of_length_eq_zero e)
    unfold nextF
    simp
    omega
  | n + 1, x, h => by
    have hl := linkL_len (N := N) h
    unfold nextF
    rw [if_neg h]
    split
    · exact hl
    · by_cases e : linkL N x = []
      · rw [e] at hl ⊢
        cases n with
        | zero => exact hl
        | succ n => unfold nextF; rw [if_pos rfl]; exact hl
      · have := nextF_len n _ e
        omega
theorem nextF_nil (n : Nat) : nextF N W n [] = [] := by
  cases n with
  | zero => rfl
  | succ n => unfold nextF; rw [if_pos rfl]
theorem nextF_fuel : ∀ (n : Nat) (x : List Int), x.length ≤ n → nextF N W (n + 1) x = nextF N W n x
  | 0, x, h => by
    have : x = [] := List.eq_nil_of_length_eq_zero (by omega)
    subst this
    rw [nextF_nil, nextF_nil]
  | n + 1, x, h => by
    by_cases e : x = []
    · subst e; rw [nextF_nil, nextF_nil]
    · have hl := linkL_len (N := N) e
      have ih := nextF_fuel n (linkL N x) (by omega)
      unfold nextF
      rw [if_neg e, if_neg e, ih]
theorem endsF_nil (n : Nat) : endsF N W n [] = [] := by
  cases n with
  | zero => rfl
  | succ n => unfold endsF; rw [if_pos rfl]
theorem endsF_fuel : ∀ (n : Nat) (x : List Int), x.length ≤ n → endsF N W (n + 1) x = endsF N W n x
  | 0, x, h => by
    have : x = [] := List.eq_nil_of_length_eq_zero (by omega)
    subst this
    rw [endsF_nil, endsF_nil]
  | n + 1, x, h => by
    by_cases e : x = []
    · subst e; rw [endsF_nil, endsF_nil]
    · have hl := nextF_len N W (n + 1) x e
      have ih := endsF_fuel n (nextF N W (n + 1) x) (by omega)
      have hf := nextF_fuel N W (n + 1) x h
      unfold endsF
      rw [if_neg e, if_neg e, hf, ih]
theorem ends_tail (h0 : [] ∉ W) : ∀ (n : Nat) (x : List Int), x.length ≤ n → endsF N W n (nextF N W n x) = ((chainL N n x).tail).filter fun y => decide (y ∈ W)
  | 0, x, h => by
    have : x = [] := List.eq_nil_of_length_eq_zero (by omega)
    subst this
    rfl
  | n + 1, x, h => by
    by_cases e : x = []
    · subst e
      rw [nextF_nil, endsF_nil]
      unfold chainL
      rw [if_pos rfl]
      rfl
    · have hl := linkL_len (N := N) e
      have ih := ends_tail h0 n (linkL N x) (by omega)
      have hc : (chainL N (n + 1) x).tail = chainL N n (linkL N x) := by
        conv => lhs; unfold chainL
        rw [if_neg e]
        rfl
      rw [hc]
      obtain ⟨l, hd⟩ := chainL_head N n (linkL N x)
      rw [hd] at ih ⊢
      rw [List.tail_cons] at ih
      rw [List.filter_cons]
      have hnx : nextF N W (n + 1) x = if linkL N x ∈ W then linkL N x else nextF N W n (linkL N x) := by
        conv => lhs; unfold nextF
        rw [if_neg e]
      rw [hnx]
      by_cases hw : linkL N x ∈ W
      · rw [if_pos hw, if_pos (by simpa using hw), ← ih]
        have hne : linkL N x ≠ [] := fun e2 => h0 (e2 ▸ hw)
        conv => lhs; unfold endsF
        rw [if_neg hne, if_pos hw, nextF_fuel N W n _ (by omega)]
        rfl
      · rw [if_neg hw, if_neg (by simpa using hw), ← ih]
        refine endsF_fuel N W n _ ?_
        by_cases e2 : linkL N x = []
        · rw [e2, nextF_nil]; exact Nat.zero_le _
        · have := nextF_len N W n _ e2
          omega
/-- The nodes of a node's words are those of its chain that are words. -/
theorem ends_chain (h0 : [] ∉ W) (n : Nat) (x : List Int) (h : x.length ≤ n) : endsF N W n x = (chainL N n x).filter fun y => decide (y ∈ W) := by
  by_cases e : x = []
  · subst e
    rw [endsF_nil]
    obtain ⟨l, hd⟩ := chainL_head N n []
    cases n with
    | zero => simp [chainL, h0]
    | succ n => unfold chainL; simp [h0]
  · obtain ⟨m, rfl⟩ : ∃ m, n = m + 1 := ⟨n - 1, by have : x.length ≠ 0 := fun e2 => e (List.eq_nil_of_length_eq_zero e2); omega⟩
    have ht := ends_tail N W h0 (m + 1) x h
    obtain ⟨l, hd⟩ := chainL_head N (m + 1) x
    rw [hd] at ht ⊢
    rw [List.tail_cons] at ht
    rw [List.filter_cons, ← ht]
    have hl := nextF_len N W (m + 1) x e
    conv => lhs; unfold endsF
    rw [if_neg e, ← endsF_fuel N W m (nextF N W (m + 1) x) (by omega)]
    by_cases hw : x ∈ W
    · rw [if_pos hw, if_pos (by simpa using hw)]; rfl
    · rw [if_neg hw, if_neg (by simpa using hw)]; rfl
end

end Go.Proofs.YtjfhefffbkpgkaaGreat

/- Plain laws of layer 8: what its statements ask of links, chains, steps. -/

namespace Go.Proofs.YtjfhefffbkpgkaaGreat
set_option linter.unusedVariables false

/-- Does a text end with another one? -/
def endsB (b e : List Int) : Bool := decide (e.length ≤ b.length) && decide (b.drop (b.length - e.length) = e)
theorem endsB_iff {b e : List Int} : endsB b e = true ↔ e <:+ b := by
  unfold endsB
  rw [Bool.and_eq_true, decide_eq_true_iff, decide_eq_true_iff]
  constructor
  · rintro ⟨_, h⟩
    exact List.suffix_iff_eq_drop.2 h.symm
  · intro h
    exact ⟨h.length_le, (List.suffix_iff_eq_drop.1 h).symm⟩
section
variable {ws : List (List Int)}
/-- A link: it ends the node's bytes, stands ahead of it, and no other node that ends them is longer. -/
theorem link_law {i : Nat} {x : List Int} (hx : (nodesL ws)[i]? = some x) : ∃ (k : Nat) (y : List Int), linkI ws x = k ∧ (nodesL ws)[k]? = some y ∧ (i = 0 → k = 0) ∧ (0 < i → k < i) ∧ endsB x y = true ∧
    ∀ (j : Nat) (z : List Int), j ≠ i → (nodesL ws)[j]? = some z → endsB x z = true → z.length ≤ y.length := by
  obtain ⟨k, h1, h2⟩ := linkI_at (ws := ws) x
  refine ⟨k, _, h1, h2, fun e => ?_, fun hi => ?_, endsB_iff.2 ((lsf_suffix _ _).trans (List.tail_suffix x)), fun j z hj hz he => ?_⟩
  · subst e
    rw [nodesL_head] at hx
    obtain rfl := Option.some.inj hx
    exact nodup_at (nodesL_srt ws).nodup h2 (nodesL_head ws)
  · exact idx_len hx h2 (linkL_len (node_back hi hx))
  · have hs := endsB_iff.1 he
    refine lsf_max (List.mem_of_getElem? hz) ?_
    cases x with
    | nil =>
      rw [List.eq_nil_of_suffix_nil hs] at hz
      exact absurd (nodup_at (nodesL_srt ws).nodup hz hx) hj
    | cons a t =>
      rcases List.suffix_cons_iff.1 hs with e | h
      · subst e
        exact absurd (nodup_at (nodesL_srt ws).nodup hz hx) hj
      · exact h
/-- A chain has just the nodes that end the node's bytes. -/
theorem chain_count {x : List Int} (hx : x ∈ nodesL ws) {n : Nat} (hn : x.length ≤ n) : ((nodesL ws).filter fun y => endsB x y).length = (chainL (nodesL ws) n x).length := by
  refine List.Perm.length_eq ((List.perm_ext_iff_of_nodup ?_ ?_).2 fun y => ?_)
  · exact (nodesL_srt ws).nodup.filter _
  · have := (chainL_len (nodesL ws) n x hn).1
    rw [List.nodup_iff_pairwise_ne]
    exact this.imp fun h e => by rw [e] at h; omega
  · rw [List.mem_filter, endsB_iff, mem_chainL (nodes_pre ws).1 hx hn]
    exact ⟨fun h => ⟨h.2, h.1⟩, fun h => ⟨h.2, h.1⟩⟩
/-- The node of a text: the longest end of it that is a node. -/
theorem deep_law (b : List Int) (c : Int) : endsB (b ++ [c]) (lsf (nodesL ws) (b ++ [c])) = true ∧ (lsf (nodesL ws) (b ++ [c])).length ≤ (lsf (nodesL ws) b).length + 1 ∧ lsf (nodesL ws) (b ++ [c]) = lsf (nodesL ws) (lsf (nodesL ws) b ++ [c]) := by
  have h := lsf_step (nodes_pre ws) b c
  refine ⟨endsB_iff.2 (lsf_suffix _ _), ?_, h⟩
  rw [h]
  have := (lsf_suffix (nodesL ws) (lsf (nodesL ws) b ++ [c])).length_le
  rw [List.length_append, List.length_singleton] at this
  exact this
theorem deep_max {b z : List Int} (hz : z ∈ nodesL ws) (h : endsB b z = true) : z.length ≤ (lsf (nodesL ws) b).length := lsf_max hz (endsB_iff.1 h)
/-- Steps, one behind the other. -/
def goL (N : List (List Int)) (b : List Int) : List Int := b.foldl (fun x c => lsf N (x ++ [c])) []
theorem goL_snoc (N : List (List Int)) (b : List Int) (c : Int) : goL N (b ++ [c]) = lsf N (goL N b ++ [c]) := by simp [goL, List.foldl_append]
theorem goL_eq (b : List Int) : goL (nodesL ws) b = lsf (nodesL ws) b := by
  refine snoc_ind (P := fun b => goL (nodesL ws) b = lsf (nodesL ws) b) rfl (fun l c ih => ?_) b
  rw [goL_snoc, ih, ← lsf_step (nodes_pre ws)]
end

end Go.Proofs.YtjfhefffbkpgkaaGreat

/- Plain laws of layer 7: the document's way of reading a trie. -/

namespace Go.Proofs.YtjfhefffbkpgkaaGreat
set_option linter.unusedVariables false

/-- A node's bytes, by what is told above it: so many steps at most. -/
def spR (T : TrieT) : Nat → Int → List Int → List Int
  | 0, _, out => out
  | k + 1, node, out => if 0 < node ∧ node < (T.up.length : Int) ∧ node < (T.byt.length : Int) then spR T k ((T.up[node.toNat]?).getD 0) (((T.byt[node.toNat]?).getD 0) :: out) else out
def spellR (T : TrieT) (node : Int) : List Int := spR T 32 node []
def wordsFrom (T : TrieT) : Nat → Nat → List (List Int)
  | 0, _ => []
  | f + 1, w => match T.wrd.findIdx? (fun v => decide (v = (w : Int))) with
    | none => []
    | some i => spellR T i :: wordsFrom T f (w + 1)
def wordsR (T : TrieT) : List (List Int) := wordsFrom T 64 0
def rightR7 (T : TrieT) : Bool := decide (T.up.length ≤ 400 ∧ T.wrd.length ≤ 400) && (rightP false (wordsR T) && eqT (trieP (wordsR T)) T)
section
variable {ws : List (List Int)}
theorem spR_trie : ∀ (k : Nat) {j : Nat} {x out : List Int}, (nodesL ws)[j]? = some x → x.length ≤ k → spR (trieP ws) k (j : Int) out = x ++ out
  | 0, j, x, out, hx, hk => by
    have : x = [] := List.eq_nil_of_length_eq_zero (by omega)
    subst this
    rfl
  | k + 1, j, x, out, hx, hk => by
    by_cases h0 : x = []
    · subst h0
      have hj := nodup_at (nodesL_srt ws).nodup hx (nodesL_head ws)
      subst hj
      unfold spR
      rw [if_neg (fun h => by have := h.1; omega)]
      rfl
    · obtain ⟨i, hij, hup, hix⟩ := trie_up hx h0
      have hjl := (List.getElem?_eq_some_iff.1 hx).1
      obtain ⟨l1, l2, l3, l4⟩ := trie_lens (ws := ws)
      have hlen : x.dropLast.length ≤ k := by rw [List.length_dropLast]; omega
      unfold spR
      rw [if_pos ⟨by omega, by omega, by omega⟩, Int.toNat_natCast, hup, trie_byt hx, Option.getD_some, Option.getD_some, spR_trie k hix hlen]
      rw [← List.singleton_append, ← List.append_assoc, dropLast_lastB h0]
theorem node_len (h : rightP false ws = true) {j : Nat} {x : List Int} (hx : (nodesL ws)[j]? = some x) : x.length ≤ 32 := by
  obtain ⟨h1, h2, h3, _⟩ := right_spec h
  obtain ⟨w, hw, hp⟩ := node_prefix h2 (List.mem_of_getElem? hx)
  have := hp.length_le
  have := (h3 w hw).2
  omega
theorem spellR_trie (h : rightP false ws = true) {j : Nat} {x : List Int} (hx : (nodesL ws)[j]? = some x) : spellR (trieP ws) j = x := by
  unfold spellR
  rw [spR_trie 32 hx (node_len h hx), List.append_nil]
theorem wordsFrom_trie (h : rightP false ws = true) : ∀ (f w : Nat), ws.length ≤ w + f → wordsFrom (trieP ws) f w = ws.drop w
  | 0, w, hf => by rw [List.drop_eq_nil_of_le (by omega)]; rfl
  | f + 1, w, hf => by
    have hnd := (right_nodup h).1
    unfold wordsFrom
    by_cases hw : w < ws.length
    · obtain ⟨x, hx⟩ : ∃ x, ws[w]? = some x := ⟨ws[w], by simp [hw]⟩
      obtain ⟨j, j1, j2, j3, j4⟩ := word_find h hx
      cases e : (trieP ws).wrd.findIdx? (fun v => decide (v = (w : Int))) with
      | none =>
        rw [List.findIdx?_eq_none_iff] at e
        have := e _ (List.mem_of_getElem? j4)
        simp at this
      | some i =>
        obtain ⟨hi, h1, _⟩ := List.findIdx?_eq_some_iff_getElem.1 e
        have h1 := of_decide_eq_true h1
        have hil : i < (nodesL ws).length := by rw [← trie_lens.2.2.1]; exact hi
        obtain ⟨y, hy⟩ : ∃ y, (nodesL ws)[i]? = some y := ⟨(nodesL ws)[i], by simp [hil]⟩
        have hwy := trie_wrd hy
        rw [List.getElem?_eq_getElem hi, h1] at hwy
        have hpy := Option.some.inj hwy
        have hyx : y = x := by
          by_cases hm : y ∈ ws
          · obtain ⟨v, hv⟩ := List.getElem?_of_mem hm
            rw [placeS_at hnd hv] at hpy
            have : v = w := by omega
            subst this
            rw [hv] at hx
            exact Option.some.inj hx
          · rw [placeS_no hm] at hpy; omega
        subst hyx
        dsimp only
        rw [spellR_trie h hy, wordsFrom_trie h f (w + 1) (by omega)]
        rw [List.drop_eq_getElem_cons hw]
        congr 1
        rw [List.getElem?_eq_getElem hw] at hx
        exact (Option.some.inj hx).symm
    · have e : (trieP ws).wrd.findIdx? (fun v => decide (v = (w : Int))) = none := by
        rw [List.findIdx?_eq_none_iff]
        intro v hv
        obtain ⟨i, hi⟩ := List.getElem?_of_mem hv
        have hil := (List.getElem?_eq_some_iff.1 hi).1
        rw [trie_lens.2.2.1] at hil
        obtain ⟨y, hy⟩ : ∃ y, (nodesL ws)[i]? = some y := ⟨(nodesL ws)[i], by simp [hil]⟩
        rw [trie_wrd hy] at hi
        have hpy := Option.some.inj hi
        apply decide_eq_false
        intro e
        rw [e] at hpy
        by_cases hm : y ∈ ws
        · obtain ⟨u, hu⟩ := List.getElem?_of_mem hm
          rw [placeS_at hnd hu] at hpy
          have := (List.getElem?_eq_some_iff.1 hu).1
          omega
        · rw [placeS_no hm] at hpy; omega
      rw [e, List.drop_eq_nil_of_le (by omega)]
theorem wordsR_trie (h : rightP false ws = true) : wordsR (trieP ws) = ws := by
  unfold wordsR
  rw [wordsFrom_trie h 64 0 (by have := (right_spec h).1; omega), List.drop_zero]
end
/-- The document's trie that may be is the program's. -/
theorem rightR7_eq (T : TrieT) : rightR7 T = (readP T).isSome := by
  cases e : readP T with
  | some r =>
    obtain ⟨sp, ws⟩ := r
    obtain ⟨h1, rfl, rfl⟩ := readP_iff.1 e
    have hn := (right_nodes h1).2
    unfold rightR7
    rw [wordsR_trie h1, h1, eqT_iff.2 rfl, decide_eq_true ⟨by rw [trie_lens.1]; exact hn, by rw [trie_lens.2.2.1]; exact hn⟩]
    rfl
  | none =>
    cases h : rightR7 T with
    | false => rfl
    | true =>
      exfalso
      unfold rightR7 at h
      rw [Bool.and_eq_true, Bool.and_eq_true] at h
      have h2 := eqT_iff.1 h.2.2
      have h3 := readP_trie h.2.1
      rw [h2, e] at h3
      cases h3
theorem readR7 {T : TrieT} {sp ws : List (List Int)} (h : readP T = some (sp, ws)) : wordsR T = ws ∧ ∀ (j : Nat) (x : List Int), sp[j]? = some x → spellR T j = x := by
  obtain ⟨h1, rfl, rfl⟩ := readP_iff.1 h
  exact ⟨wordsR_trie h1, fun j x hx => spellR_trie h1 hx⟩
/-- A kid is the node of its bytes. -/
theorem kid_find {ws : List (List Int)} (h : rightP false ws = true) {j : Nat} {x : List Int} (hx : (nodesL ws)[j]? = some x) {c : Int} {r : Int} {ok : Bool} (hk : KidR (trieP ws) j c r ok) : findP (nodesL ws) (x ++ [c]) = (r, ok) := by
  have hnd := (nodesL_srt ws).nodup
  cases ok with
  | true =>
    obtain ⟨k, rfl, k1, k2, k3, k4⟩ := hk.1 rfl
    rw [trie_lens.1] at k2
    obtain ⟨y, hy⟩ : ∃ y, (nodesL ws)[k]? = some y := ⟨(nodesL ws)[k], by simp⟩
    have y0 := node_back k1 hy
    obtain ⟨i, _, hup, hix⟩ := trie_up hy y0
    rw [hup] at k3
    have e : i = j := by have := Option.some.inj k3; omega
    subst e
    rw [hx] at hix
    have e1 := Option.some.inj hix
    rw [trie_byt hy] at k4
    have e2 := Option.some.inj k4
    have : x ++ [c] = y := by rw [e1, ← e2, dropLast_lastB y0]
    rw [this]
    exact findP_at hnd hy
  | false =>
    obtain ⟨rfl, hno⟩ := hk.2 rfl
    refine findP_no (fun hm => ?_)
    obtain ⟨k, hk2⟩ := List.getElem?_of_mem hm
    have k0 : x ++ [c] ≠ [] := by simp
    obtain ⟨i, _, hup, hix⟩ := trie_up hk2 k0
    rw [List.dropLast_concat] at hix
    have e := nodup_at hnd hix hx
    subst e
    have hkl := (List.getElem?_eq_some_iff.1 hk2).1
    refine hno k ⟨?_, by rw [trie_lens.1]; exact hkl, hup, ?_⟩
    · cases k with
      | zero => rw [nodesL_head] at hk2; exact absurd (Option.some.inj hk2).symm k0
      | succ k => omega
    · rw [trie_byt hk2]; simp [lastB]
/-- Where the document puts a text in. -/
theorem putS_at : ∀ {l : List (List Int)} {b : List Int} {k : Nat}, k ≤ l.length → (∀ (i : Nat) (y : List Int), i < k → l[i]? = some y → ltS y b = true) → (∀ y, l[k]? = some y → ltS y b = false) → putS l b = if l[k]? = some b then l else l.take k ++ b :: l.drop k
  | [], b, k, hk, _, _ => by
    have : k = 0 := by simpa using hk
    subst this
    simp [putS]
  | y :: ys, b, 0, _, _, h2 => by
    have h := h2 y rfl
    unfold putS
    rw [if_neg (by rw [h]; simp)]
    by_cases e : y = b
    · rw [if_pos e, if_pos (by rw [e]; rfl)]
    · rw [if_neg e, if_neg (by simpa using e)]
      rfl
  | y :: ys, b, k + 1, hk, h1, h2 => by
    have h := h1 0 y (by omega) rfl
    have ih := putS_at (l := ys) (b := b) (k := k) (by simpa using hk) (fun i z hi hz => h1 (i + 1) z (by omega) (by simpa using hz)) (fun z hz => h2 z (by simpa using hz))
    unfold putS
    rw [if_pos h, ih]
    simp only [List.getElem?_cons_succ, List.take_succ_cons, List.drop_succ_cons]
    split
    · rfl
    · rfl
/-- A text lesser than another one of its length: by the first byte in which they differ. -/
theorem lexB_at : ∀ {x y : List Int} {i : Nat} {a b : Int}, x.take i = y.take i → x[i]? = some a → y[i]? = some b → a ≠ b → lexB x y = decide (a < b)
  | [], _, i, a, b, _, h, _, _ => by simp at h
  | _ :: _, [], i, a, b, _, _, h, _ => by simp at h
  | p :: x, q :: y, 0, a, b, _, ha, hb, hn => by
    simp at ha hb
    subst ha hb
    unfold lexB
    by_cases h : p < q
    · rw [if_pos h, decide_eq_true h]
    · rw [if_neg h, if_pos (by omega), decide_eq_false h]
  | p :: x, q :: y, i + 1, a, b, h, ha, hb, hn => by
    simp only [List.take_succ_cons, List.cons.injEq] at h
    obtain ⟨rfl, h⟩ := h
    have ih := lexB_at h (by simpa using ha) (by simpa using hb) hn
    unfold lexB
    rw [if_neg (by omega), if_neg (by omega)]
    exact ih
theorem ltS_eq_len {x y : List Int} (h : x.length = y.length) : ltS x y = lexB x y := by unfold ltS; rw [if_neg (by omega), if_neg (by omega)]
theorem ltS_ne_len {x y : List Int} (h : x.length ≠ y.length) : ltS x y = decide (x.length < y.length) := by
  unfold ltS
  by_cases e : x.length < y.length
  · rw [if_pos e, decide_eq_true e]
  · rw [if_neg e, if_pos (by omega), decide_eq_false e]
theorem placeS_first {l : List (List Int)} {b : List Int} {i : Nat} (h : l[i]? = some b) (hn : b ∉ l.take i) : placeS l b = i := by
  have hj := (List.getElem?_eq_some_iff.1 h)
  have hjl := hj.1
  unfold placeS
  rw [if_pos (List.mem_of_getElem? h)]
  have e : l = l.take i ++ b :: l.drop (i + 1) := by rw [← hj.2]; simp
  have : l.idxOf b = i := by
    rw [e, List.idxOf_append, if_neg hn, List.idxOf_cons_self, List.length_take]
    omega
  rw [this]

end Go.Proofs.YtjfhefffbkpgkaaGreat
