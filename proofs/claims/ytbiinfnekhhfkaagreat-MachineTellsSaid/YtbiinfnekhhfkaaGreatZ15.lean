/- Parts of the proof, one behind the other: YJ, YL, YR, N8, G8. No condition but what each theorem states. -/
import Derived.Test.YtbiinfnekhhfkaaGreatZ3
import Derived.Test.YtbiinfnekhhfkaaGreatZ7
import Derived.Test.YtbiinfnekhhfkaaGreatZ8
import Derived.Test.YtbiinfnekhhfkaaGreatZ9
import Derived.Test.YtbiinfnekhhfkaaGreatZ10
import Derived.Test.YtbiinfnekhhfkaaGreatZ11
import Derived.Test.YtbiinfnekhhfkaaGreatZ12
import Derived.Test.YtbiinfnekhhfkaaGreatZ13
import Derived.Test.YtbiinfnekhhfkaaGreatZ14

/- The document's table (layer 11): the node of the longest end; walked. -/



namespace Go.Proofs.YtbiinfnekhhfkaaGreat
open Go.RowKit Go.Sort
set_option linter.unusedVariables false
set_option linter.unusedSimpArgs false

set_option maxRecDepth 100000 in
set_option maxHeartbeats 4000000 in
theorem rnode11_any (a b : Option Addr) (la ca lb cb : Nat) (N : List (List Int)) (x : List Int) (w : World) (hA : Wds w a la N) (hB : Bys w b lb x) (hla : la ≤ 1000000) (hlb : lb ≤ 1000000) (hcb : lb ≤ cb) (h0 : [] ∈ N) :
    Calls Tryz.prog 85 #[.slice a la ca, .slice b lb cb] w fun e w' => e = .returned (.int .i64 (placeS N (lsf N x))) ∧ Below w.heap.size w w' := by
  have HX := Lib.hid hB.len
  have HL := Lib.hid hA.len
  have HA := Lib.hid hA
  have HB := Lib.hid hB
  have H0 := Lib.hid h0
  clear hA hB h0
  go_enter Tryz.func85, Tryz.ntmps85
  go_wp2_with fail
  go_loopw [5] (fun s5 wr => ∃ k : Nat, k ≤ lb ∧ s5 = .int .i64 k ∧ Hid (lsf N x = lsf N (x.drop k)) ∧ RowKit.Below w.heap.size w wr) (fun s _ => lb - (intOf s).toNat)
  case atStart => exact ⟨0, Nat.zero_le _, rfl, rfl, RowKit.Below.refl _ _⟩
  case round =>
    obtain ⟨k, hk, rfl, HK, hBe⟩ := hrel
    have hd : decide ((k : Int) ≤ (lb : Int)) = true := by simp; omega
    have hd' : decide (k ≤ lb) = true := by simpa using hk
    have HBE := Lib.hid hBe
    have HRT := Lib.hid (HB.out.rest hk hcb)
    obtain ⟨y, hy⟩ : ∃ y, x.drop k = y := ⟨_, rfl⟩
    have HY := Lib.hid hy
    rw [hy] at HRT
    clear hBe hy
    go_wp2_with fail
    go_loopw [6] (fun s6 wq => ∃ i : Nat, i ≤ la ∧ s6 = .int .i64 i ∧ Hid (y ∉ N.take i) ∧ Hid (RowKit.Below wr.heap.size wr wq)) (fun s _ => la - (intOf s).toNat)
    case atStart => exact ⟨0, Nat.zero_le _, rfl, by simp [Hid], Below.refl _ _⟩
    case round =>
      obtain ⟨i, hi, rfl, HNI, HBq⟩ := hrel
      have HBq2 := Lib.hid (HBE.out.trans (HBq.out.mono HBE.out.size))
      by_cases hil : i < la
      · have hd2 : decide ((i : Int) < (la : Int)) = true := by simp; omega
        obtain ⟨bb, off, aw, lw, cw, z, hbb, hbl, hcell, hz, hZ, hlc⟩ := (HA.out.below HBq2.out).at_ hil
        subst hbb
        have f2 : ∀ d os, (grow (redrawn wr d) os).cell? ⟨bb, off + i, none⟩ = some (.slice aw lw cw) := fun d os => ((below_regrown wr d os).cell (p := ⟨bb, off + i, none⟩) hbl).trans hcell
        have f4 := fun d os => conv_bys (hZ.below (below_regrown wr d os)) cw
        have f5 := fun d os => conv_bys ((HRT.out.below HBq2.out).below (below_regrown wr d os)) (cb - k)
        have i1 : (0 : Int) ≤ (i : Int) := by omega
        have i2 : (i : Int) < (la : Int) := by omega
        have i3 : (0 : Int) ≤ (k : Int) := by omega
        have i4 : (k : Int) ≤ (lb : Int) := by omega
        have i5 : (lb : Int) ≤ (cb : Int) := by omega
        have HZ := Lib.hid hz
        have HZB := Lib.hid hZ.2
        have HE := Lib.hid (str_beq HZB.out HRT.out.2)
        clear hz hZ hcell hlc
        by_cases e : z = y
        · have hq : ((strOfNums z).toList == (strOfNums y).toList) = true := by rw [HE.out]; simpa using e
          have HS : Hid (placeS N (lsf N x) = i) := by
            have hm : y ∈ N := by rw [← e]; exact List.mem_of_getElem? HZ.out
            rw [Hid, HK.out, HY.out, lsf_of_mem hm, ← e]
            exact placeS_first HZ.out (by rw [e]; exact HNI.out)
          clear e
          go_wp2_with fail
          refine wp_region_quiet_below mixed (by kernel_rfl) ?_
          repeat (go_big_quiet_step (fail))
          refine wpQuiet_nil ?_
          rintro _ ⟨⟨dq, osq⟩, rfl⟩
          generalize (if cb = k then b else Option.map (fun x => x.add k) b) = bs
          go_wp2
          go_ret
          exact ⟨by rw [HS.out]; rfl, HBq2.out.trans ((below_regrown wr dq osq).mono HBq2.out.size)⟩
        · have hq : ((strOfNums z).toList == (strOfNums y).toList) = false := by rw [HE.out]; simpa using e
          have HS : Hid (y ∉ N.take (i + 1)) := by
            rw [Hid, take_step HZ.out, List.mem_append, List.mem_singleton]
            exact fun h => h.elim HNI.out (fun e2 => e e2.symm)
          clear e
          go_wp2_with fail
          refine wp_region_quiet_below mixed (by kernel_rfl) ?_
          repeat (go_big_quiet_step (fail))
          refine wpQuiet_nil ?_
          rintro _ ⟨⟨dq, osq⟩, rfl⟩
          generalize (if cb = k then b else Option.map (fun x => x.add k) b) = bs
          have hBn := HBq.out.trans ((below_regrown wr dq osq).mono HBq.out.size)
          clear f2 f4 f5
          go_wp2
          go_roundw
          case rel => exact ⟨i + 1, by omega, by go_num, HS, hBn⟩
          case measure => simp [intOf]; omega
      · obtain rfl : i = la := by omega
        have hd2 : decide ((i : Int) < (i : Int)) = false := by simp
        have hno : y ∉ N := by
          have h := HNI.out
          rwa [List.take_of_length_le (by rw [HL.out]; exact Nat.le_refl _)] at h
        have hkl : k < lb := by
          rcases Nat.lt_or_ge k lb with h | h
          · exact h
          · exfalso
            refine hno ?_
            rw [← HY.out, List.drop_of_length_le (by rw [HX.out]; exact h)]
            exact H0.out
        have HK2 : Hid (lsf N x = lsf N (x.drop (k + 1))) := by
          rw [Hid, HK.out]
          exact lsf_next (by rw [HX.out]; exact hkl) (by rw [HY.out]; exact hno)
        clear hno
        go_wp2
        go_roundw
        case rel => exact ⟨k + 1, by omega, by go_num, HK2, HBq2.out⟩
        case measure => simp [intOf]; omega

set_option maxHeartbeats 1000000 in
theorem text11_any (fold : Bool) (a : Option Addr) (la ca : Nat) (xs : List Int) (w : World) (hA : Bys w a la xs) (hla : la ≤ 1000000) :
    Calls Tryz.prog 86 #[.bool fold, .slice a la ca] w fun e w' => ∃ a1 c1, e = .returned (.slice a1 la c1) ∧ la ≤ c1 ∧ Bys w' a1 la (foldL fold xs) ∧ Below w.heap.size w w' := by
  have hbd := foldL_bd (fold := fold) hA.2
  obtain ⟨i0, hi, hz0, hz1, hz2⟩ := info_parts u8_info
  cases fold
  · have hA1 := hA.below ((Below.refl _ _).alloc (Nat.le_refl _) (.cells #[] 5))
    have hown0 : OwnB (w.alloc (.cells #[] 5)) w.heap.size (.slice (some ⟨w.heap.size, 0, none⟩) 0 0) 0 [] := World.ownsRow_lit w #[] 0 (Nat.le_refl _) (Nat.zero_le _) rfl
    go_enter Tryz.func86, Tryz.ntmps86
    go_wp2_with (at_builtin; refine wpList_append_sl1 rfl _ _ 25 rfl u8_one w.heap.size 5 i0 (.int .u8 0) 1 Tryz.underlying25 hi hz0 hz1 hz2 rfl _ 0 [] rfl hown0 a la ca xs rfl hA1.1 (by unfold maxLen; omega) (by omega) (by simp) ?_; intro v' w5 hown' hgrow hat)
    go_ret
    have ho : OwnB w5 w.heap.size v' la (foldL false xs) := by simpa [foldL, OwnB] using hown'
    obtain ⟨a1, c1, rfl, hc, h⟩ := own_bys ho hbd
    exact ⟨a1, c1, rfl, hc, h, ((Below.refl _ _).alloc (Nat.le_refl _) _).grown hgrow (by simp) (fun k e => by cases e; exact Nat.le_refl _)⟩
  · go_enter Tryz.func86, Tryz.ntmps86
    go_wp2_with fail
    refine (rfolded_any a la ca xs w hA hla).mono ?_
    rintro e w1 ⟨v, rfl, hown, hb⟩
    have ho : OwnB w1 w.heap.size v la (foldL true xs) := by simpa [foldL, OwnB] using hown
    obtain ⟨a1, c1, rfl, hc, h⟩ := own_bys ho hbd
    go_wp2
    go_ret
    exact ⟨a1, c1, rfl, hc, h, hb⟩

set_option maxRecDepth 100000 in
set_option maxHeartbeats 4000000 in
theorem at11_any (fold : Bool) (a : Option Addr) (la ca : Nat) (wss : List (List Int)) (b : Option Addr) (lb cb : Nat) (x : List Int) (w : World) (hA : Wds w a la wss) (hla : la ≤ 1000) (hM : ∀ x ∈ wss, x.length ≤ 1000) (hX : Bys w b lb x) (hlb : lb ≤ 1000000) (hnn : (nodesL wss).length ≤ 1000000) :
    Calls Tryz.prog 36 #[.agg (setV fold a la ca), .slice b lb cb] w fun e w' => e = .returned (.int .i64 (nodeI wss (lsf (nodesL wss) (foldL fold x)))) ∧ Below w.heap.size w w' := by
  obtain ⟨W, hW⟩ : ∃ W, W = w.alloc (.cells (setV fold a la ca) 24) := ⟨_, rfl⟩
  have hB : Below w.heap.size w W := by rw [hW]; exact below_alloc _ _
  have hO : Bx w.heap.size [.cells (setV fold a la ca) 24] W := by rw [hW]; exact (Bx.nil _ w).snoc _ rfl
  have CE : Hid (∀ V, RowKit.Below W.heap.size W V → V.cell? ⟨w.heap.size, 0, none⟩ = some (.bool fold) ∧ V.cell? ⟨w.heap.size, 1, none⟩ = some (.slice a la ca)) := fun V hV =>
    have h := hO.below hV
    ⟨h.cell (i := 0) rfl rfl, h.cell (i := 0) rfl rfl⟩
  have HA := Lib.hid (hA.below hB)
  have HX := Lib.hid (hX.below hB)
  have HB := Lib.hid hB
  clear hA hX hO hB
  go_enter Tryz.func36, Tryz.ntmps36
  go_upto_region 1 with fail
  rw [← hW]
  clear hW
  refine wp_region_noPanic ?_
  refine wp_region_held_drew (S := RowKit.Below W.heap.size W) (by kernel_rfl) (bel_drewN W 1) (fun hHeld => ?_)
  refine tkW 0 (v := ?_) ?_ ?_
  rotate_left
  · intro V hV
    first | (go_simp; done) | (go_simp; with_reducible rfl)
  try simp only [Act.put, pA, pB, pC]
  refine tkW 1 (v := ?_) ?_ ?_
  rotate_left
  · intro V hV
    obtain ⟨q0, q1⟩ := CE.out V hV
    first | (go_simp; done) | (go_simp; with_reducible rfl)
  try simp only [Act.put, pA, pB, pC]
  refine tkW 3 (v := ?_) ?_ ?_
  rotate_left
  · intro V hV
    first | (go_simp; done) | (go_simp; with_reducible rfl)
  try simp only [Act.put, pA, pB, pC]
  refine tkW 4 (v := ?_) ?_ ?_
  rotate_left
  · intro V hV
    obtain ⟨q0, q1⟩ := CE.out V hV
    first | (go_simp; done) | (go_simp; with_reducible rfl)
  try simp only [Act.put, pA, pB, pC]
  refine tkW 5 (v := ?_) ?_ ?_
  rotate_left
  · intro V hV
    first | (go_simp; done) | (go_simp; with_reducible rfl)
  try simp only [Act.put, pA, pB, pC]
  refine rdy 2 (fun K hK => ?_)
  go_simp
  go_at_call 75; refine (rnodes7_any a la ca wss _ (HA.out.below hHeld) hla hM).mono ?_; rintro e w1 ⟨a1, c1, rfl, hc1, hN1, hb1⟩
  have hB1 : RowKit.Below W.heap.size W w1 := hHeld.trans (hb1.mono hHeld.size)
  refine hK.out _ _ hB1 (fun hNew => ?_)
  clear hK K hHeld hNew hb1
  try simp only [Act.put, pA, pB, pC]
  refine rdy 6 (fun K hK => ?_)
  go_simp
  go_at_call 86; refine (text11_any fold b lb cb x w1 (HX.out.below hB1) hlb).mono ?_; rintro e w2 ⟨a2, c2, rfl, hc2, hX2, hb2⟩
  have hB2 : RowKit.Below W.heap.size W w2 := hB1.trans (hb2.mono hB1.size)
  have hN2 := hN1.below hb2
  refine hK.out _ _ hB2 (fun hNew => ?_)
  clear hK K hNew hb2 hN1 hB1
  try simp only [Act.put, pA, pB, pC]
  refine rdy 7 (fun K hK => ?_)
  go_simp
  go_at_call 85; refine (rnode11_any a1 a2 _ c1 lb c2 (nodesL wss) (foldL fold x) w2 hN2 hX2 hnn hlb hc2 ((mem_nodesL wss).2 (.inl rfl))).mono ?_; rintro e w3 ⟨rfl, hb3⟩
  have hB3 : RowKit.Below W.heap.size W w3 := hB2.trans (hb3.mono hB2.size)
  refine hK.out _ _ hB3 (fun hNew => ?_)
  clear hK K hb3 hN2 hB2 hX2
  have hHeld := hNew
  clear hNew
  try simp only [Act.put, pA, pB, pC]
  refine tkW 8 (v := ?_) ?_ ?_
  rotate_left
  · intro V hV
    first | (go_simp; done) | (go_simp; with_reducible rfl)
  try simp only [Act.put, pA, pB, pC]
  refine wpAnyH_done (by kernel_rfl) ?_ _
  refine NoPanic.normal ?_
  go_wp2
  go_ret
  exact ⟨rfl, HB.out.trans (hB3.mono HB.out.size)⟩
end Go.Proofs.YtbiinfnekhhfkaaGreat

/- The document's tables (layer 11): how many rows, where one goes on, whether two are the same; walked. Printed by exp.py. -/




namespace Go.Proofs.YtbiinfnekhhfkaaGreat
open Go.RowKit Go.Sort
set_option linter.unusedVariables false
set_option linter.unusedSimpArgs false

set_option maxRecDepth 100000 in
set_option maxHeartbeats 4000000 in
theorem rstates11_any (L : List Int) (m : Int) (a : Option Addr) (n c : Nat) (w : World) (hL : L.length = 256) (hn : n ≤ 1000000000000) :
    Calls Tryz.prog 115 #[.agg (dvC L m (.slice a n c)).toArray] w fun e w' => e = .returned (.int .i64 (statesZ m n)) ∧ Below w.heap.size w w' := by
  have hD := Dv.new w L m (.slice a n c) hL
  have hB : Below w.heap.size w (w.alloc (.cells (dvC L m (.slice a n c)).toArray 109)) := below_alloc _ _
  obtain ⟨W, hW⟩ : ∃ W, W = w.alloc (.cells (dvC L m (.slice a n c)).toArray 109) := ⟨_, rfl⟩
  rw [← hW] at hD hB
  obtain ⟨s1, s2⟩ := hD.cells
  obtain ⟨A, hA⟩ : ∃ A, (dvC L m (.slice a n c)).toArray = A := ⟨_, rfl⟩
  rw [hA] at hW ⊢
  clear hA hD
  by_cases hm : m < 1
  · have dm : decide (m < 1) = true := by simpa using hm
    have hz : statesZ m n = 0 := by unfold statesZ; rw [if_pos hm]
    rw [hz]
    clear hz hm
    go_enter Tryz.func115, Tryz.ntmps115
    go_upto_region 1 with fail
    rw [← hW]
    clear hW
    go_wp2_with fail
    go_ret
    exact ⟨rfl, hB⟩
  · have dm : decide (m < 1) = false := by simpa using hm
    obtain ⟨k, rfl⟩ : ∃ k : Nat, m = (k : Int) := ⟨m.toNat, by omega⟩
    have hz : statesZ k n = ((n / k : Nat) : Int) := by unfold statesZ; rw [if_neg hm]; exact (Int.natCast_ediv n k).symm
    rw [hz]
    have hk0 : ¬ ((k : Int) = 0) := by omega
    have hk1 : ((k : Int) == 0) = false := by simp; omega
    have hq : (n : Int).tdiv (k : Int) = ((n / k : Nat) : Int) := (Int.ofNat_tdiv n k).symm
    have hle : n / k ≤ n := Nat.div_le_self _ _
    have hwr : wrap64 ((n : Int) / (k : Int)) = ((n / k : Nat) : Int) := by
      have h2 : n / k ≤ 1000000000000 := Nat.le_trans hle hn
      rw [← Int.natCast_ediv]
      clear hq hk0 hk1 hle
      generalize n / k = d at h2 ⊢
      unfold wrap64
      omega
    have HWR := Lib.hid hwr
    clear hwr hq
    clear hz hm
    go_enter Tryz.func115, Tryz.ntmps115
    go_upto_region 1 with fail
    rw [← hW]
    clear hW
    go_wp2_with fail
    rw [HWR.out]
    go_ret
    exact ⟨rfl, hB⟩
set_option maxRecDepth 100000 in
set_option maxHeartbeats 8000000 in
theorem rnext11_any (L F : List Int) (m : Int) (a : Option Addr) (n c0 : Nat) (node : Int) (c : Nat) (w : World) (hL : L.length = 256) (hF : Sl1 (Value.int .i64) w a n F) (hn : n ≤ 1000000000) (hc : c < 256) :
    Calls Tryz.prog 80 #[.agg (dvC L m (.slice a n c0)).toArray, .int .i64 node, .int .u8 (c : Int)] w fun e w' => e = .returned (goDV (goD L m F node c)) ∧ Below w.heap.size w w' := by
  have hFl := hF.1
  obtain ⟨v, hv⟩ : ∃ v, L[c]? = some v := ⟨L[c]'(by omega), by simp⟩
  have hD := Dv.new w L m (.slice a n c0) hL
  have hB : Below w.heap.size w (w.alloc (.cells (dvC L m (.slice a n c0)).toArray 109)) := below_alloc _ _
  obtain ⟨W, hW⟩ : ∃ W, W = w.alloc (.cells (dvC L m (.slice a n c0)).toArray 109) := ⟨_, rfl⟩
  rw [← hW] at hD hB
  have HB := Lib.hid hB
  have KC : Hid (∀ V, RowKit.Below W.heap.size W V → V.cell? ⟨w.heap.size, c, none⟩ = some (.int .i64 v) ∧ V.cell? ⟨w.heap.size, 256, none⟩ = some (.int .i64 m) ∧ V.cell? ⟨w.heap.size, 257, none⟩ = some (.slice a n c0)) := fun V hV => by
    have h := hD.below hV
    exact ⟨h.cls hv, h.cells.1, h.cells.2⟩
  have HBX : Hid (∀ V, RowKit.Below W.heap.size W V → V.heap[w.heap.size]? = some (.cells (dvC L m (.slice a n c0)).toArray 109 (0, 0))) := fun V hV => (hD.below hV).box
  have hsz : (Tryz.prog.info? 109).map (·.size) = some (dvC L m (.slice a n c0)).toArray.size := by rw [dvC_size hL]; exact info28
  have HSt := Lib.hid (fun V => rstates11_any L m a n c0 V hL (by omega))
  have HF2 := Lib.hid (hF.below hB)
  have i1 : (0 : Int) ≤ (c : Int) := by omega
  have i2 : (c : Int) < 256 := by omega
  unfold goD
  rw [hv, Option.getD_some, hFl]
  obtain ⟨A, hA⟩ : ∃ A, (dvC L m (.slice a n c0)).toArray = A := ⟨_, rfl⟩
  rw [hA] at hW HBX hsz HSt ⊢
  have HSz := Lib.hid hsz
  obtain ⟨Z, hZ⟩ : ∃ Z, statesZ m n = Z := ⟨_, rfl⟩
  clear hA hD hF hFl hB hsz hv
  by_cases h0 : m < 1
  · rw [if_pos (by rcases Decidable.em (v < 0) with h | h; exact .inl (.inl h); exact .inl (.inr (by omega)))]
    have d0 : decide (m < 1) = true := by simpa using h0
    clear h0 hZ
    go_enter Tryz.func80, Tryz.ntmps80
    go_upto_region 1 with fail
    rw [← hW]
    clear hW
    refine wp_region_noPanic ?_
    refine wp_region_held_drew (S := RowKit.Below W.heap.size W) (by kernel_rfl) (bel_drewN W 1) (fun hHeld => ?_)
    change wpAnyH _ _ _ _ _ 29 _ _ _
    refine tkW 0 (v := ?_) ?_ ?_
    rotate_left
    · intro V hV
      first | (go_simp; done) | (go_simp; with_reducible rfl)
    try simp only [Act.put, pA, pB, pC]
    refine tkW 1 (v := ?_) ?_ ?_
    rotate_left
    · intro V hV
      obtain ⟨q0, q1, q2⟩ := KC.out V hV
      first | (go_simp; done) | (go_simp; with_reducible rfl)
    try simp only [Act.put, pA, pB, pC]
    iterate 2 (refine tkF 28 (v := ?_) ?_ ?_; rotate_left; (· intro V hV; first | (go_simp; done) | (go_simp; with_reducible rfl)); try simp only [Act.put, pA, pB, pC])
    refine tkN 4 ?_
    try simp only [Act.put, pA, pB, pC]
    refine tkN 5 ?_
    try simp only [Act.put, pA, pB, pC]
    refine tkN 6 ?_
    try simp only [Act.put, pA, pB, pC]
    refine tkN 7 ?_
    try simp only [Act.put, pA, pB, pC]
    refine tkN 8 ?_
    try simp only [Act.put, pA, pB, pC]
    iterate 2 (refine tkF 28 (v := ?_) ?_ ?_; rotate_left; (· intro V hV; first | (go_simp; done) | (go_simp; with_reducible rfl)); try simp only [Act.put, pA, pB, pC])
    refine tkN 11 ?_
    try simp only [Act.put, pA, pB, pC]
    refine tkN 12 ?_
    try simp only [Act.put, pA, pB, pC]
    refine tkN 13 ?_
    try simp only [Act.put, pA, pB, pC]
    refine tkN 14 ?_
    try simp only [Act.put, pA, pB, pC]
    refine tkN 15 ?_
    try simp only [Act.put, pA, pB, pC]
    refine tkN 16 ?_
    try simp only [Act.put, pA, pB, pC]
    refine tkN 17 ?_
    try simp only [Act.put, pA, pB, pC]
    iterate 2 (refine tkF 28 (v := ?_) ?_ ?_; rotate_left; (· intro V hV; first | (go_simp; done) | (go_simp; with_reducible rfl)); try simp only [Act.put, pA, pB, pC])
    refine tkN 20 ?_
    try simp only [Act.put, pA, pB, pC]
    refine tkN 21 ?_
    try simp only [Act.put, pA, pB, pC]
    iterate 2 (refine tkF 28 (v := ?_) ?_ ?_; rotate_left; (· intro V hV; first | (go_simp; done) | (go_simp; with_reducible rfl)); try simp only [Act.put, pA, pB, pC])
    refine tkN 24 ?_
    try simp only [Act.put, pA, pB, pC]
    refine tkN 25 ?_
    try simp only [Act.put, pA, pB, pC]
    refine tkN 26 ?_
    try simp only [Act.put, pA, pB, pC]
    refine tkN 27 ?_
    try simp only [Act.put, pA, pB, pC]
    refine tkW 28 (v := ?_) ?_ ?_
    rotate_left
    · intro V hV
      first | (go_simp; done) | (go_simp; with_reducible rfl)
    try simp only [Act.put, pA, pB, pC]
    refine wpAnyH_done (by kernel_rfl) ?_ _
    refine NoPanic.normal ?_
    go_wp2_with fail
    go_ret2
    exact ⟨rfl, HB.out.trans ((bel_drewN W 1).mono HB.out.size)⟩
  have d0 : decide (m < 1) = false := by simpa using h0
  by_cases h1 : v < 0
  · rw [if_pos (.inl (.inl h1))]
    have d1 : decide (v < 0) = true := by simpa using h1
    clear h0 h1 hZ
    go_enter Tryz.func80, Tryz.ntmps80
    go_upto_region 1 with fail
    rw [← hW]
    clear hW
    refine wp_region_noPanic ?_
    refine wp_region_held_drew (S := RowKit.Below W.heap.size W) (by kernel_rfl) (bel_drewN W 1) (fun hHeld => ?_)
    change wpAnyH _ _ _ _ _ 29 _ _ _
    refine tkW 0 (v := ?_) ?_ ?_
    rotate_left
    · intro V hV
      first | (go_simp; done) | (go_simp; with_reducible rfl)
    try simp only [Act.put, pA, pB, pC]
    refine tkW 1 (v := ?_) ?_ ?_
    rotate_left
    · intro V hV
      obtain ⟨q0, q1, q2⟩ := KC.out V hV
      first | (go_simp; done) | (go_simp; with_reducible rfl)
    try simp only [Act.put, pA, pB, pC]
    iterate 5 (refine tkF 28 (v := ?_) ?_ ?_; rotate_left; (· intro V hV; first | (go_simp; done) | (go_simp; with_reducible rfl)); try simp only [Act.put, pA, pB, pC])
    refine tkW 7 (v := ?_) ?_ ?_
    rotate_left
    · intro V hV
      obtain ⟨q0, q1, q2⟩ := KC.out V hV
      first | (go_simp; done) | (go_simp; with_reducible rfl)
    try simp only [Act.put, pA, pB, pC]
    iterate 3 (refine tkF 28 (v := ?_) ?_ ?_; rotate_left; (· intro V hV; first | (go_simp; done) | (go_simp; with_reducible rfl)); try simp only [Act.put, pA, pB, pC])
    refine tkN 11 ?_
    try simp only [Act.put, pA, pB, pC]
    refine tkN 12 ?_
    try simp only [Act.put, pA, pB, pC]
    refine tkN 13 ?_
    try simp only [Act.put, pA, pB, pC]
    refine tkN 14 ?_
    try simp only [Act.put, pA, pB, pC]
    refine tkN 15 ?_
    try simp only [Act.put, pA, pB, pC]
    refine tkN 16 ?_
    try simp only [Act.put, pA, pB, pC]
    refine tkN 17 ?_
    try simp only [Act.put, pA, pB, pC]
    iterate 2 (refine tkF 28 (v := ?_) ?_ ?_; rotate_left; (· intro V hV; first | (go_simp; done) | (go_simp; with_reducible rfl)); try simp only [Act.put, pA, pB, pC])
    refine tkN 20 ?_
    try simp only [Act.put, pA, pB, pC]
    refine tkN 21 ?_
    try simp only [Act.put, pA, pB, pC]
    iterate 2 (refine tkF 28 (v := ?_) ?_ ?_; rotate_left; (· intro V hV; first | (go_simp; done) | (go_simp; with_reducible rfl)); try simp only [Act.put, pA, pB, pC])
    refine tkN 24 ?_
    try simp only [Act.put, pA, pB, pC]
    refine tkN 25 ?_
    try simp only [Act.put, pA, pB, pC]
    refine tkN 26 ?_
    try simp only [Act.put, pA, pB, pC]
    refine tkN 27 ?_
    try simp only [Act.put, pA, pB, pC]
    refine tkW 28 (v := ?_) ?_ ?_
    rotate_left
    · intro V hV
      first | (go_simp; done) | (go_simp; with_reducible rfl)
    try simp only [Act.put, pA, pB, pC]
    refine wpAnyH_done (by kernel_rfl) ?_ _
    refine NoPanic.normal ?_
    go_wp2_with fail
    go_ret2
    exact ⟨rfl, HB.out.trans ((bel_drewN W 1).mono HB.out.size)⟩
  have d1 : decide (v < 0) = false := by simpa using h1
  by_cases h2 : m ≤ v
  · rw [if_pos (.inl (.inr h2))]
    have d2 : decide (m ≤ v) = true := by simpa using h2
    clear h0 h1 h2 hZ
    go_enter Tryz.func80, Tryz.ntmps80
    go_upto_region 1 with fail
    rw [← hW]
    clear hW
    refine wp_region_noPanic ?_
    refine wp_region_held_drew (S := RowKit.Below W.heap.size W) (by kernel_rfl) (bel_drewN W 1) (fun hHeld => ?_)
    change wpAnyH _ _ _ _ _ 29 _ _ _
    refine tkW 0 (v := ?_) ?_ ?_
    rotate_left
    · intro V hV
      first | (go_simp; done) | (go_simp; with_reducible rfl)
    try simp only [Act.put, pA, pB, pC]
    refine tkW 1 (v := ?_) ?_ ?_
    rotate_left
    · intro V hV
      obtain ⟨q0, q1, q2⟩ := KC.out V hV
      first | (go_simp; done) | (go_simp; with_reducible rfl)
    try simp only [Act.put, pA, pB, pC]
    iterate 5 (refine tkF 28 (v := ?_) ?_ ?_; rotate_left; (· intro V hV; first | (go_simp; done) | (go_simp; with_reducible rfl)); try simp only [Act.put, pA, pB, pC])
    refine tkW 7 (v := ?_) ?_ ?_
    rotate_left
    · intro V hV
      obtain ⟨q0, q1, q2⟩ := KC.out V hV
      first | (go_simp; done) | (go_simp; with_reducible rfl)
    try simp only [Act.put, pA, pB, pC]
    iterate 6 (refine tkF 28 (v := ?_) ?_ ?_; rotate_left; (· intro V hV; first | (go_simp; done) | (go_simp; with_reducible rfl)); try simp only [Act.put, pA, pB, pC])
    refine tkW 14 (v := ?_) ?_ ?_
    rotate_left
    · intro V hV
      obtain ⟨q0, q1, q2⟩ := KC.out V hV
      first | (go_simp; done) | (go_simp; with_reducible rfl)
    try simp only [Act.put, pA, pB, pC]
    refine tkW 15 (v := ?_) ?_ ?_
    rotate_left
    · intro V hV
      first | (go_simp; done) | (go_simp; with_reducible rfl)
    try simp only [Act.put, pA, pB, pC]
    refine tkW 16 (v := ?_) ?_ ?_
    rotate_left
    · intro V hV
      obtain ⟨q0, q1, q2⟩ := KC.out V hV
      first | (go_simp; done) | (go_simp; with_reducible rfl)
    try simp only [Act.put, pA, pB, pC]
    iterate 3 (refine tkF 28 (v := ?_) ?_ ?_; rotate_left; (· intro V hV; first | (go_simp; done) | (go_simp; with_reducible rfl)); try simp only [Act.put, pA, pB, pC])
    refine tkN 20 ?_
    try simp only [Act.put, pA, pB, pC]
    refine tkN 21 ?_
    try simp only [Act.put, pA, pB, pC]
    iterate 2 (refine tkF 28 (v := ?_) ?_ ?_; rotate_left; (· intro V hV; first | (go_simp; done) | (go_simp; with_reducible rfl)); try simp only [Act.put, pA, pB, pC])
    refine tkN 24 ?_
    try simp only [Act.put, pA, pB, pC]
    refine tkN 25 ?_
    try simp only [Act.put, pA, pB, pC]
    refine tkN 26 ?_
    try simp only [Act.put, pA, pB, pC]
    refine tkN 27 ?_
    try simp only [Act.put, pA, pB, pC]
    refine tkW 28 (v := ?_) ?_ ?_
    rotate_left
    · intro V hV
      first | (go_simp; done) | (go_simp; with_reducible rfl)
    try simp only [Act.put, pA, pB, pC]
    refine wpAnyH_done (by kernel_rfl) ?_ _
    refine NoPanic.normal ?_
    go_wp2_with fail
    go_ret2
    exact ⟨rfl, HB.out.trans ((bel_drewN W 1).mono HB.out.size)⟩
  have d2 : decide (m ≤ v) = false := by simpa using h2
  by_cases h3 : node < 0
  · rw [if_pos (.inr (.inl h3))]
    have d3 : decide (node < 0) = true := by simpa using h3
    clear h0 h1 h2 h3 hZ
    go_enter Tryz.func80, Tryz.ntmps80
    go_upto_region 1 with fail
    rw [← hW]
    clear hW
    refine wp_region_noPanic ?_
    refine wp_region_held_drew (S := RowKit.Below W.heap.size W) (by kernel_rfl) (bel_drewN W 1) (fun hHeld => ?_)
    change wpAnyH _ _ _ _ _ 29 _ _ _
    refine tkW 0 (v := ?_) ?_ ?_
    rotate_left
    · intro V hV
      first | (go_simp; done) | (go_simp; with_reducible rfl)
    try simp only [Act.put, pA, pB, pC]
    refine tkW 1 (v := ?_) ?_ ?_
    rotate_left
    · intro V hV
      obtain ⟨q0, q1, q2⟩ := KC.out V hV
      first | (go_simp; done) | (go_simp; with_reducible rfl)
    try simp only [Act.put, pA, pB, pC]
    iterate 5 (refine tkF 28 (v := ?_) ?_ ?_; rotate_left; (· intro V hV; first | (go_simp; done) | (go_simp; with_reducible rfl)); try simp only [Act.put, pA, pB, pC])
    refine tkW 7 (v := ?_) ?_ ?_
    rotate_left
    · intro V hV
      obtain ⟨q0, q1, q2⟩ := KC.out V hV
      first | (go_simp; done) | (go_simp; with_reducible rfl)
    try simp only [Act.put, pA, pB, pC]
    iterate 6 (refine tkF 28 (v := ?_) ?_ ?_; rotate_left; (· intro V hV; first | (go_simp; done) | (go_simp; with_reducible rfl)); try simp only [Act.put, pA, pB, pC])
    refine tkW 14 (v := ?_) ?_ ?_
    rotate_left
    · intro V hV
      obtain ⟨q0, q1, q2⟩ := KC.out V hV
      first | (go_simp; done) | (go_simp; with_reducible rfl)
    try simp only [Act.put, pA, pB, pC]
    refine tkW 15 (v := ?_) ?_ ?_
    rotate_left
    · intro V hV
      first | (go_simp; done) | (go_simp; with_reducible rfl)
    try simp only [Act.put, pA, pB, pC]
    refine tkW 16 (v := ?_) ?_ ?_
    rotate_left
    · intro V hV
      obtain ⟨q0, q1, q2⟩ := KC.out V hV
      first | (go_simp; done) | (go_simp; with_reducible rfl)
    try simp only [Act.put, pA, pB, pC]
    iterate 7 (refine tkF 28 (v := ?_) ?_ ?_; rotate_left; (· intro V hV; first | (go_simp; done) | (go_simp; with_reducible rfl)); try simp only [Act.put, pA, pB, pC])
    refine tkN 24 ?_
    try simp only [Act.put, pA, pB, pC]
    refine tkN 25 ?_
    try simp only [Act.put, pA, pB, pC]
    refine tkN 26 ?_
    try simp only [Act.put, pA, pB, pC]
    refine tkN 27 ?_
    try simp only [Act.put, pA, pB, pC]
    refine tkW 28 (v := ?_) ?_ ?_
    rotate_left
    · intro V hV
      first | (go_simp; done) | (go_simp; with_reducible rfl)
    try simp only [Act.put, pA, pB, pC]
    refine wpAnyH_done (by kernel_rfl) ?_ _
    refine NoPanic.normal ?_
    go_wp2_with fail
    go_ret2
    exact ⟨rfl, HB.out.trans ((bel_drewN W 1).mono HB.out.size)⟩
  have d3 : decide (node < 0) = false := by simpa using h3
  by_cases h4 : statesZ m n ≤ node
  · rw [if_pos (.inr (.inr h4))]
    rw [hZ] at h4 HSt
    have d4 : decide (Z ≤ node) = true := by simpa using h4
    clear h0 h1 h2 h3 h4 hZ
    go_enter Tryz.func80, Tryz.ntmps80
    go_upto_region 1 with fail
    rw [← hW]
    clear hW
    refine wp_region_noPanic ?_
    refine wp_region_held_drew (S := RowKit.Below W.heap.size W) (by kernel_rfl) (bel_drewN W 1) (fun hHeld => ?_)
    change wpAnyH _ _ _ _ _ 29 _ _ _
    refine tkW 0 (v := ?_) ?_ ?_
    rotate_left
    · intro V hV
      first | (go_simp; done) | (go_simp; with_reducible rfl)
    try simp only [Act.put, pA, pB, pC]
    refine tkW 1 (v := ?_) ?_ ?_
    rotate_left
    · intro V hV
      obtain ⟨q0, q1, q2⟩ := KC.out V hV
      first | (go_simp; done) | (go_simp; with_reducible rfl)
    try simp only [Act.put, pA, pB, pC]
    iterate 5 (refine tkF 28 (v := ?_) ?_ ?_; rotate_left; (· intro V hV; first | (go_simp; done) | (go_simp; with_reducible rfl)); try simp only [Act.put, pA, pB, pC])
    refine tkW 7 (v := ?_) ?_ ?_
    rotate_left
    · intro V hV
      obtain ⟨q0, q1, q2⟩ := KC.out V hV
      first | (go_simp; done) | (go_simp; with_reducible rfl)
    try simp only [Act.put, pA, pB, pC]
    iterate 6 (refine tkF 28 (v := ?_) ?_ ?_; rotate_left; (· intro V hV; first | (go_simp; done) | (go_simp; with_reducible rfl)); try simp only [Act.put, pA, pB, pC])
    refine tkW 14 (v := ?_) ?_ ?_
    rotate_left
    · intro V hV
      obtain ⟨q0, q1, q2⟩ := KC.out V hV
      first | (go_simp; done) | (go_simp; with_reducible rfl)
    try simp only [Act.put, pA, pB, pC]
    refine tkW 15 (v := ?_) ?_ ?_
    rotate_left
    · intro V hV
      first | (go_simp; done) | (go_simp; with_reducible rfl)
    try simp only [Act.put, pA, pB, pC]
    refine tkW 16 (v := ?_) ?_ ?_
    rotate_left
    · intro V hV
      obtain ⟨q0, q1, q2⟩ := KC.out V hV
      first | (go_simp; done) | (go_simp; with_reducible rfl)
    try simp only [Act.put, pA, pB, pC]
    iterate 8 (refine tkF 28 (v := ?_) ?_ ?_; rotate_left; (· intro V hV; first | (go_simp; done) | (go_simp; with_reducible rfl)); try simp only [Act.put, pA, pB, pC])
    refine' wpAnyH_take (i := 25) (v := _) (by simp only [pD, pE, pF]; rfl) (by as_aux_lemma => kernel_rfl) (by as_aux_lemma => kernel_rfl) (by as_aux_lemma => kernel_rfl) (fun _ _ _ h => h) (yieldsIf_load_row (by rfl) _ _ rfl w.heap.size rfl 109 A (0, 0) _ HBX.out Tryz.underlying109 rfl HSz.out) (by assumption) ?_
    try simp only [Act.put, pA, pB, pC]
    refine wpAnyH_one (i := 26) (vi := .int .i64 Z) (by simp only [pD, pE, pF]; rfl) (by as_aux_lemma => kernel_rfl) ?_ ?_ _ hHeld
    · intro V hV K hK
      try simp only [Act.put, pA, pB, pC] at hK
      go_simp
      go_at_call 115; refine (HSt.out V).mono ?_; rintro e w2 ⟨rfl, hb2⟩; exact hK _ (hV.trans (hb2.mono hV.size))
    clear hHeld
    intro V1 hHeld
    try simp only [Act.put, pA, pB, pC]
    iterate 2 (refine tkF 28 (v := ?_) ?_ ?_; rotate_left; (· intro V hV; first | (go_simp; done) | (go_simp; with_reducible rfl)); try simp only [Act.put, pA, pB, pC])
    refine wpAnyH_done (by kernel_rfl) ?_ _
    refine NoPanic.normal ?_
    go_wp2_with fail
    go_ret2
    exact ⟨rfl, HB.out.trans ((hHeld).mono HB.out.size)⟩
  rw [if_neg (by rintro ((h | h) | (h | h)) <;> contradiction)]
  obtain ⟨j, rfl⟩ : ∃ j : Nat, node = (j : Int) := ⟨node.toNat, by omega⟩
  obtain ⟨v, rfl⟩ : ∃ k : Nat, v = (k : Int) := ⟨v.toNat, by omega⟩
  obtain ⟨m, rfl⟩ : ∃ k : Nat, m = (k : Int) := ⟨m.toNat, by omega⟩
  have hfit := states_fit (m := m) (j := j) (n := n) (by omega)
  rw [hZ] at h4 HSt
  have hk : (((j : Int) * (m : Int) + (v : Int)).toNat) = j * m + v := by rw [← Int.natCast_mul]; omega
  rw [hk]
  have c1 : (j : Int) * (m : Int) = ((j * m : Nat) : Int) := (Int.natCast_mul _ _).symm
  obtain ⟨P, hP⟩ : ∃ P, j * m = P := ⟨_, rfl⟩
  rw [hP] at c1 hfit ⊢
  have l1 : P + v < n := by omega
  obtain ⟨b0, o0, x, ha, hlt, cx, hx⟩ := sl1_at HF2.out l1
  subst ha
  rw [hx]
  have HC := Lib.hid c1
  have HX := Lib.hid hx
  have d4 : decide (Z ≤ (j : Int)) = false := by simpa using h4
  have d0' : decide (m < 1) = false := by simp; omega
  have d0a : decide (m = 0) = false := by simp; omega
  have d0b : (m == 0) = false := by simp; omega
  have d5 : decide (m ≤ v) = false := by simp; omega
  have d8 : decide ((v : Int) < 0) = false := by simp
  have d9 : decide ((j : Int) < 0) = false := by simp
  have KR : Hid (∀ V, RowKit.Below W.heap.size W V → V.cell? ⟨b0, o0 + (P + v), none⟩ = some (.int .i64 x)) := fun V hV => (World.cell?_of_block (hV.block _ hlt)).trans cx
  clear h1 h2 h3 h4 hZ c1 hP hk hx cx hlt hfit d1 d3 h0
  go_enter Tryz.func80, Tryz.ntmps80
  go_upto_region 1 with fail
  rw [← hW]
  clear hW
  refine wp_region_noPanic ?_
  refine wp_region_held_drew (S := RowKit.Below W.heap.size W) (by kernel_rfl) (bel_drewN W 1) (fun hHeld => ?_)
  change wpAnyH _ _ _ _ _ 29 _ _ _
  refine tkW 0 (v := ?_) ?_ ?_
  rotate_left
  · intro V hV
    first | (go_simp; done) | (go_simp; with_reducible rfl)
  try simp only [Act.put, pA, pB, pC]
  refine tkW 1 (v := ?_) ?_ ?_
  rotate_left
  · intro V hV
    obtain ⟨q0, q1, q2⟩ := KC.out V hV
    first | (go_simp; done) | (go_simp; with_reducible rfl)
  try simp only [Act.put, pA, pB, pC]
  iterate 5 (refine tkF 28 (v := ?_) ?_ ?_; rotate_left; (· intro V hV; first | (go_simp; done) | (go_simp; with_reducible rfl)); try simp only [Act.put, pA, pB, pC])
  refine tkW 7 (v := ?_) ?_ ?_
  rotate_left
  · intro V hV
    obtain ⟨q0, q1, q2⟩ := KC.out V hV
    first | (go_simp; done) | (go_simp; with_reducible rfl)
  try simp only [Act.put, pA, pB, pC]
  iterate 6 (refine tkF 28 (v := ?_) ?_ ?_; rotate_left; (· intro V hV; first | (go_simp; done) | (go_simp; with_reducible rfl)); try simp only [Act.put, pA, pB, pC])
  refine tkW 14 (v := ?_) ?_ ?_
  rotate_left
  · intro V hV
    obtain ⟨q0, q1, q2⟩ := KC.out V hV
    first | (go_simp; done) | (go_simp; with_reducible rfl)
  try simp only [Act.put, pA, pB, pC]
  refine tkW 15 (v := ?_) ?_ ?_
  rotate_left
  · intro V hV
    first | (go_simp; done) | (go_simp; with_reducible rfl)
  try simp only [Act.put, pA, pB, pC]
  refine tkW 16 (v := ?_) ?_ ?_
  rotate_left
  · intro V hV
    obtain ⟨q0, q1, q2⟩ := KC.out V hV
    first | (go_simp; done) | (go_simp; with_reducible rfl)
  try simp only [Act.put, pA, pB, pC]
  iterate 8 (refine tkF 28 (v := ?_) ?_ ?_; rotate_left; (· intro V hV; first | (go_simp; done) | (go_simp; with_reducible rfl)); try simp only [Act.put, pA, pB, pC])
  refine' wpAnyH_take (i := 25) (v := _) (by simp only [pD, pE, pF]; rfl) (by as_aux_lemma => kernel_rfl) (by as_aux_lemma => kernel_rfl) (by as_aux_lemma => kernel_rfl) (fun _ _ _ h => h) (yieldsIf_load_row (by rfl) _ _ rfl w.heap.size rfl 109 A (0, 0) _ HBX.out Tryz.underlying109 rfl HSz.out) (by assumption) ?_
  try simp only [Act.put, pA, pB, pC]
  refine wpAnyH_one (i := 26) (vi := .int .i64 Z) (by simp only [pD, pE, pF]; rfl) (by as_aux_lemma => kernel_rfl) ?_ ?_ _ hHeld
  · intro V hV K hK
    try simp only [Act.put, pA, pB, pC] at hK
    go_simp
    go_at_call 115; refine (HSt.out V).mono ?_; rintro e w2 ⟨rfl, hb2⟩; exact hK _ (hV.trans (hb2.mono hV.size))
  clear hHeld
  intro V1 hHeld
  try simp only [Act.put, pA, pB, pC]
  iterate 2 (refine tkF 28 (v := ?_) ?_ ?_; rotate_left; (· intro V hV; first | (go_simp; done) | (go_simp; with_reducible rfl)); try simp only [Act.put, pA, pB, pC])
  refine wpAnyH_done (by kernel_rfl) ?_ _
  refine NoPanic.normal ?_
  have hV1 := Lib.hid hHeld
  have l2 : (0 : Int) ≤ (P : Int) + (v : Int) := by omega
  have l3 : (P : Int) + (v : Int) < (n : Int) := by omega
  have e1 : wrap64 ((j : Int) * (m : Int)) = (P : Int) := by rw [HC.out]; unfold wrap64; omega
  have e1' : IntKind.i64.wrap ((j : Int) * (m : Int)) = (P : Int) := by rw [HC.out]; exact wrap_nat (by omega)
  have e2' : IntKind.i64.wrap ((P : Int) + (v : Int)) = (P : Int) + (v : Int) := by have := wrap_nat (x := P + v) (by omega); simpa using this
  have e3 : ((P : Int) + (v : Int)).toNat = P + v := by omega
  clear hHeld
  go_upto_region 3 with fail
  refine wp_region_noPanic ?_
  refine wp_region_held_drew (S := RowKit.Below V1.heap.size V1) (by kernel_rfl) (bel_drewN V1 1) (fun hHeld => ?_)
  have KV : Hid (∀ V, RowKit.Below V1.heap.size V1 V → RowKit.Below W.heap.size W V) := fun V hV => hV1.out.trans (hV.mono hV1.out.size)
  change wpAnyH _ _ _ _ _ 15 _ _ _
  refine tkW 0 (v := ?_) ?_ ?_
  rotate_left
  · intro V hV
    first | (go_simp; done) | (go_simp; with_reducible rfl)
  try simp only [Act.put, pA, pB, pC]
  refine tkW 1 (v := ?_) ?_ ?_
  rotate_left
  · intro V hV
    obtain ⟨q0, q1, q2⟩ := KC.out V (KV.out V hV)
    first | (go_simp; done) | (go_simp; with_reducible rfl)
  try simp only [Act.put, pA, pB, pC]
  iterate 2 (refine tkF 14 (v := ?_) ?_ ?_; rotate_left; (· intro V hV; first | (go_simp; done) | (go_simp; with_reducible rfl)); try simp only [Act.put, pA, pB, pC])
  refine tkW 4 (v := ?_) ?_ ?_
  rotate_left
  · intro V hV
    obtain ⟨q0, q1, q2⟩ := KC.out V (KV.out V hV)
    first | (go_simp; done) | (go_simp; with_reducible rfl)
  try simp only [Act.put, pA, pB, pC]
  iterate 4 (refine tkF 14 (v := ?_) ?_ ?_; rotate_left; (· intro V hV; first | (go_simp; done) | (go_simp; with_reducible rfl)); try simp only [Act.put, pA, pB, pC])
  refine tkW 9 (v := ?_) ?_ ?_
  rotate_left
  · intro V hV
    obtain ⟨q0, q1, q2⟩ := KC.out V (KV.out V hV)
    first | (go_simp; done) | (go_simp; with_reducible rfl)
  try simp only [Act.put, pA, pB, pC]
  iterate 2 (refine tkF 14 (v := ?_) ?_ ?_; rotate_left; (· intro V hV; first | (go_simp; done) | (go_simp; with_reducible rfl)); try simp only [Act.put, pA, pB, pC])
  refine tkW 12 (v := ?_) ?_ ?_
  rotate_left
  · intro V hV
    have r0 := KR.out V (KV.out V hV)
    first | (go_simp; done) | (go_simp; with_reducible rfl)
  try simp only [Act.put, pA, pB, pC]
  iterate 2 (refine tkF 14 (v := ?_) ?_ ?_; rotate_left; (· intro V hV; first | (go_simp; done) | (go_simp; with_reducible rfl)); try simp only [Act.put, pA, pB, pC])
  refine wpAnyH_done (by kernel_rfl) ?_ _
  refine NoPanic.normal ?_
  go_wp2_with fail
  go_ret2
  exact ⟨rfl, HB.out.trans ((KV.out _ (bel_drewN V1 1)).mono HB.out.size)⟩

end Go.Proofs.YtbiinfnekhhfkaaGreat

/- The document's table (layer 11): made; walked. Printed by exp.py. -/




namespace Go.Proofs.YtbiinfnekhhfkaaGreat
open Go.RowKit Go.Sort
set_option linter.unusedVariables false
set_option linter.unusedSimpArgs false

theorem Dv.frozen {W : World} {B : Nat} {L : List Int} {m : Int} {row : Value} (h : Dv W B L m row) (i : Nat) : W.frozen? ⟨B, i, none⟩ = false := by simp [World.frozen?, h.box]
theorem Dv.setMany {W : World} {B : Nat} {L : List Int} {m : Int} {row : Value} (h : Dv W B L m row) (v : Int) : Dv (W.setCell ⟨B, 256, none⟩ (.int .i64 v)) B L v row := by
  refine ⟨?_, h.len⟩
  rw [setCell_eq_setRow W B 256 _ _ _ _ h.box, setRow_heap W B _ _ _ _ h.box]
  have e : (dvC L m row).toArray.setIfInBounds 256 (.int .i64 v) = (dvC L v row).toArray := by
    rw [dvC_eq, dvC_eq, List.setIfInBounds_toArray, List.set_append_right _ _ (by simp [h.len])]
    simp [h.len]
  rw [e]
theorem Dv.setRows {W : World} {B : Nat} {L : List Int} {m : Int} {row : Value} (h : Dv W B L m row) (v : Value) : Dv (W.setCell ⟨B, 257, none⟩ v) B L m v := by
  refine ⟨?_, h.len⟩
  rw [setCell_eq_setRow W B 257 _ _ _ _ h.box, setRow_heap W B _ _ _ _ h.box]
  have e : (dvC L m row).toArray.setIfInBounds 257 v = (dvC L m v).toArray := by
    rw [dvC_eq, dvC_eq, List.setIfInBounds_toArray, List.set_append_right _ _ (by simp [h.len])]
    simp [h.len]
  rw [e]
theorem slK_of_u8 {w : World} {a : Option Addr} {n : Nat} {l : List Int} (h : Sl1 (Value.int .u8) w a n l) : SlK 1 w a n (l.map (Value.int .u8)) := by
  obtain ⟨h1, h2⟩ := h
  refine ⟨by rw [List.length_map]; omega, h2.imp id fun ⟨b, off, e, hlt, hc⟩ => ⟨b, off, e, hlt, fun i u hu => ?_⟩⟩
  rw [List.getElem?_map] at hu
  cases hl : l[i]? with
  | none => rw [hl] at hu; cases hu
  | some x => rw [hl] at hu; injection hu with hu; subst hu; exact hc i x hl
theorem own_belowR {W V : World} {base n : Nat} {e : TypeId} {v : Value} {xs : List Value} (h : W.ownsRow base e 1 v n xs) (hb : Below W.heap.size W V) : V.ownsRow base e 1 v n xs := by
  refine ⟨h.1, ?_⟩
  rcases h.2 with hn | ⟨g, cap, cur, e1, h2, h3, r⟩
  · exact .inl hn
  · exact .inr ⟨g, cap, cur, e1, h2, (hb.block g (Array.getElem?_eq_some_iff.1 h3).1).trans h3, r⟩
theorem own_setCellR {W : World} {base n : Nat} {e : TypeId} {v u : Value} {xs : List Value} (h : W.ownsRow base e 1 v n xs) {D o : Nat} (hD : D < base) : (W.setCell ⟨D, o, none⟩ u).ownsRow base e 1 v n xs := by
  refine ⟨h.1, ?_⟩
  rcases h.2 with hn | ⟨g, cap, cur, e1, h2, h3, r⟩
  · exact .inl hn
  · exact .inr ⟨g, cap, cur, e1, h2, (Below.heap_setCell _ _ _ _ (by show g ≠ D; omega)).trans h3, r⟩
theorem dv_cases {L : List Int} {m : Int} {i : Nat} {u : Value} (h : (dvC L m (.slice none 0 0)).toArray[i]? = some u) : (∃ z, u = .int .i64 z) ∨ u = .slice none 0 0 := by
  have h : (dvC L m (.slice none 0 0))[i]? = some u := by simpa using h
  have hm := List.mem_of_getElem? h
  unfold dvC at hm
  rw [List.mem_append, List.mem_append] at hm
  rcases hm with (hm | hm) | hm
  · obtain ⟨z, _, rfl⟩ := List.mem_map.1 hm; exact .inl ⟨z, rfl⟩
  · rw [List.mem_singleton] at hm; exact .inl ⟨_, hm⟩
  · rw [List.mem_singleton] at hm; exact .inr hm
/-- Texts lie where they lay, though a table's rows are told. -/
theorem Wds.turnD {W V : World} {Q n : Nat} {a : Option Addr} {l : List (List Int)} {L : List Int} {m : Int} (h : Wds W a n l) (hQ : Dv W Q L m (.slice none 0 0)) (hx : ∃ x ∈ l, x ≠ [])
    (hk : ∀ j, j ≠ Q → j < W.heap.size → V.heap[j]? = W.heap[j]?) (hs : W.heap.size ≤ V.heap.size) : Wds V a n l := by
  have hno : ∀ (i : Nat) (x : Int), (dvC L m (.slice none 0 0)).toArray[i]? ≠ some (.int .u8 x) := fun i x e => by
    rcases dv_cases e with ⟨z, h1⟩ | h1 <;> cases h1
  obtain ⟨vs, ⟨h1, h2⟩, h3, h4⟩ := h
  have row : ∀ (i : Nat) (v : Option Addr × Nat × Nat) (x : List Int), vs[i]? = some v → l[i]? = some x → Bys V v.1 v.2.1 x ∧ v.2.1 ≤ v.2.2 := fun i v x hv hx => by
    obtain ⟨h5, h6⟩ := h4 i v x hv hx
    exact ⟨⟨h5.1.turn hQ.box hno hk hs, h5.2⟩, h6⟩
  obtain ⟨x, hxm, hx0⟩ := hx
  obtain ⟨i, hi⟩ := List.getElem?_of_mem hxm
  have hil := (List.getElem?_eq_some_iff.1 hi).1
  obtain ⟨v, hv⟩ : ∃ v, vs[i]? = some v := ⟨vs[i]'(by omega), by simp⟩
  refine ⟨vs, ⟨h1, ?_⟩, h3, row⟩
  rcases h2 with h2 | ⟨b, off, e, hlt, hc⟩
  · exact .inl h2
  · have hb : b ≠ Q := by
      rintro rfl
      have h5 := hc i v hv
      simp only [World.cell?, hQ.box] at h5
      have h6 : v.2.1 = 0 := by
        rcases dv_cases h5 with ⟨z, h7⟩ | h7
        · cases h7
        · injection h7
      have h7 := (h4 i v x hv hi).1.len
      rw [h6] at h7
      exact hx0 (List.eq_nil_of_length_eq_zero h7)
    exact .inr ⟨b, off, e, Nat.lt_of_lt_of_le hlt hs, fun k u hu => (World.cell?_of_block (hk b hb hlt)).trans (hc k u hu)⟩

set_option maxRecDepth 100000 in
set_option maxHeartbeats 16000000 in
theorem rmake11_yes (fold : Bool) (a : Option Addr) (la ca : Nat) (wss : List (List Int)) (w : World) (hA : Wds w a la wss) (hla : la ≤ 1000) (hM : ∀ x ∈ wss, x.length ≤ 1000000) (hr : rightP fold wss = true) :
    Calls Tryz.prog 79 #[.agg (setV fold a la ca)] w fun e w' => ∃ (a' : Option Addr) (n' c' : Nat), e = .returned (.tuple #[.agg (dvC (clsP fold wss) (manyP fold wss) (.slice a' n' c')).toArray, .int .i64 0]) ∧ Sl1 (Value.int .i64) w' a' n' (tabP fold wss) ∧ n' ≤ 1000000 ∧ Below w.heap.size w w' := by
  obtain ⟨W, hW⟩ : ∃ W, W = (w.alloc (.cells (setV fold a la ca) 24)).alloc (.cells Tryz.zeroCells109 109) := ⟨_, rfl⟩
  have hB : Below w.heap.size w W := by rw [hW]; exact ((Below.refl _ _).alloc (Nat.le_refl _) _).alloc (by simp) _
  have hO : Bx w.heap.size [.cells (setV fold a la ca) 24, .cells Tryz.zeroCells109 109] W := by rw [hW]; exact ((Bx.nil _ w).snoc _ rfl).snoc _ (by simp)
  have s0 : W.cell? ⟨w.heap.size, 0, none⟩ = some (.bool fold) := hO.cell (i := 0) rfl rfl
  have s1 : W.cell? ⟨w.heap.size, 1, none⟩ = some (.slice a la ca) := hO.cell (i := 0) rfl rfl
  have hR := rright_any fold a la ca wss W (hA.below hB) (by omega) hM
  rw [← right_eq, hr] at hR
  have HR := Lib.hid hR
  have HO := Lib.hid hO
  have HA := Lib.hid hA
  have HB := Lib.hid hB
  have HRT := Lib.hid hr
  have HOK := Lib.hid (okT hr (fun x hx c hc => hA.bytes x hx c hc))
  have hn4 : (nodesL wss).length ≤ 400 := read_n (readP_iff.2 ⟨right_false hr, rfl, rfl⟩)
  have hm257 : 1 ≤ manyP fold wss ∧ manyP fold wss ≤ 257 := clsN_many _ _ _
  have HM := Lib.hid hM
  have HW32 : Hid (∀ x ∈ wss, x.length ≤ 1000) := fun x hx => by have := ((right_spec hr).2.2.1 x hx).2; omega
  have HRN := Lib.hid (right_node hr)
  obtain ⟨n, hn⟩ : ∃ n, (nodesL wss).length = n := ⟨_, rfl⟩
  obtain ⟨m, hm⟩ : ∃ m, manyP fold wss = m := ⟨_, rfl⟩
  obtain ⟨L, hL⟩ : ∃ L, clsP fold wss = L := ⟨_, rfl⟩
  have hLl : L.length = 256 := by rw [← hL]; exact clsP_len _ _
  have HN := Lib.hid hn
  have HMM := Lib.hid hm
  have HLL := Lib.hid hL
  rw [hn] at hn4
  rw [hm] at hm257
  rw [hm, hL]
  clear hA hO hB hR hr hM hn hm hL
  go_enter Tryz.func79, Tryz.ntmps79
  go_upto_region 1 with fail
  rw [← hW]
  clear hW
  go_wp2_with fail
  refine HR.out.mono ?_
  rintro e w1 ⟨rfl, hb1⟩
  have hO1 := HO.out.below hb1
  go_upto_region 4 with fail
  obtain ⟨w2, hw2⟩ : ∃ w2, w2 = w1.alloc (.cells Tryz.zeroCells109 109) := ⟨_, rfl⟩
  have hO2 := hO1.below (below_alloc w1 (.cells Tryz.zeroCells109 109))
  have hD2 : w2.heap[w1.heap.size]? = some (.cells Tryz.zeroCells109 109 (0, 0)) := by rw [hw2]; exact heap_alloc_new _ _
  have hB2 : Below w.heap.size w w2 := by rw [hw2]; exact (HB.out.trans (hb1.mono HB.out.size)).alloc (HB.out.trans (hb1.mono HB.out.size)).size _
  have hwD : w.heap.size + 1 < w1.heap.size := (Array.getElem?_eq_some_iff.1 (hO1 1 _ rfl)).1
  rw [← hw2] at hO2 ⊢
  obtain ⟨D, hD⟩ : ∃ D, w1.heap.size = D := ⟨_, rfl⟩
  rw [hD] at hD2 hwD ⊢
  clear hw2 hb1 hO1 s0 s1 hD
  have s0 : w2.cell? ⟨w.heap.size, 0, none⟩ = some (.bool fold) := hO2.cell (i := 0) rfl rfl
  have s1 : w2.cell? ⟨w.heap.size, 1, none⟩ = some (.slice a la ca) := hO2.cell (i := 0) rfl rfl
  have hOf := rof10_yes fold a la ca wss w2 (HA.out.below hB2) (by omega) HM.out HRT.out
  rw [HLL.out, HMM.out] at hOf
  have HOf := Lib.hid hOf
  have HD2 := Lib.hid hD2
  have HO2 := Lib.hid hO2
  have HB2 := Lib.hid hB2
  have HLN : Hid ((L.map (Value.int .i64)).length = ((List.replicate 256 (0 : Int)).map (Value.int .i64)).length) := by rw [Hid, List.length_map, List.length_map, hLl, List.length_replicate]
  have HI25 : Hid ((Tryz.prog.info? 107).map (·.size) = some (L.map (Value.int .i64)).toArray.size) := by rw [Hid, rowI_size, hLl]; exact info25
  clear hOf hD2 hO2 hB2
  go_wp2_with fail
  refine HOf.out.mono ?_
  rintro e w3 ⟨rfl, hb3⟩
  iterate 17 (first | go_values | go_skip | go_guarded | go_step | go_upon | go_back | go_simp)
  have hD3 : w3.heap[D]? = some (.cells (((List.replicate 256 (0 : Int)).map (Value.int .i64)) ++ [Value.int .i64 0, Value.slice none 0 0]).toArray 109 (0, 0)) := by
    rw [← dvC_eq, ← zero28]
    exact (hb3.block _ (Array.getElem?_eq_some_iff.1 HD2.out).1).trans HD2.out
  have HB3 := Lib.hid (HB2.out.trans (hb3.mono HB2.out.size))
  have HO3 := Lib.hid (HO2.out.below hb3)
  have HD3 := Lib.hid hD3
  clear hb3 s0 s1 hD3
  refine wpList_store_head rfl 107 _ _ rfl D (L.map (Value.int .i64)) _ _ rfl rfl 109 HD3.out HLN.out HI25.out (rowI_one L) ?_
  rw [← dvC_eq]
  obtain ⟨w4, hw4⟩ : ∃ w4, w4 = w3.setRow D (dvC L 0 (.slice none 0 0)).toArray := ⟨_, rfl⟩
  have hV4 : Dv w4 D L 0 (.slice none 0 0) := ⟨by rw [hw4]; exact setRow_heap w3 D _ _ _ _ HD3.out, hLl⟩
  have hB4 : RowKit.Below D w3 w4 := by rw [hw4]; exact below_setRow (Below.refl _ _) (Nat.le_refl _) _
  rw [← hw4]
  have c256 := hV4.cells.1
  have f256 := hV4.frozen 256
  have HV4 := Lib.hid hV4
  have HB4 := Lib.hid hB4
  clear hw4 hV4 hB4
  go_upto_region 5 with fail
  obtain ⟨w5, hw5⟩ : ∃ w5, w5 = w4.setCell ⟨D, 256, none⟩ (.int .i64 (m : Int)) := ⟨_, rfl⟩
  have hV5 : Dv w5 D L m (.slice none 0 0) := by rw [hw5]; exact HV4.out.setMany _
  have hB5 : RowKit.Below D w3 w5 := by rw [hw5]; exact HB4.out.setCell (Nat.le_refl _) _
  rw [← hw5]
  have h50 : w5.heap[w.heap.size]? = _ := (hB5.block _ (by omega)).trans (HO3.out 0 _ rfl)
  have h51 : w5.heap[w.heap.size + 1]? = _ := (hB5.block _ hwD).trans (HO3.out 1 _ rfl)
  have s0 : w5.cell? ⟨w.heap.size, 0, none⟩ = some (.bool fold) := by simp [World.cell?, h50]
  have s1 : w5.cell? ⟨w.heap.size, 1, none⟩ = some (.slice a la ca) := by simp [World.cell?, h50]
  have hB05 : Below w.heap.size w w5 := HB3.out.trans (hB5.mono (by omega))
  have hNo := rnodes7_any a la ca wss w5 (HA.out.below hB05) hla HW32.out
  rw [HN.out] at hNo
  have HNo := Lib.hid hNo
  have HV5 := Lib.hid hV5
  have HB05 := Lib.hid hB05
  have H50 := Lib.hid h50
  have H51 := Lib.hid h51
  clear hw5 hV5 hB5 c256 f256 hNo hB05 h50 h51
  go_wp2_with fail
  refine HNo.out.mono ?_
  rintro e w6 ⟨a1, c1, rfl, hc1, hN6, hb6⟩
  have HV6 := Lib.hid (HV5.out.below hb6)
  have HB6 := Lib.hid (HB05.out.trans (hb6.mono HB05.out.size))
  have HN6 := Lib.hid hN6
  have hs56 := hb6.size
  have H60 : Hid (w6.heap[w.heap.size]? = some (.cells (setV fold a la ca) 24 (0, 0))) := (hb6.block _ (Array.getElem?_eq_some_iff.1 H50.out).1).trans H50.out
  have H61 : Hid (w6.heap[w.heap.size + 1]? = some (.cells Tryz.zeroCells109 109 (0, 0))) := (hb6.block _ (Array.getElem?_eq_some_iff.1 H51.out).1).trans H51.out
  have hD6 : D < w6.heap.size := HV6.out.lt
  have KS : Hid (∀ V, RowKit.Below D w6 V → V.cell? ⟨w.heap.size, 0, none⟩ = some (.bool fold) ∧ V.cell? ⟨w.heap.size, 1, none⟩ = some (.slice a la ca)) := fun V hV => by
    have h1 : V.heap[w.heap.size]? = _ := (hV.block _ (by omega)).trans H60.out
    simp [World.cell?, h1]
  clear hb6 hN6 s0 s1
  obtain ⟨i0, hi, hz0, hzz1, hzz2⟩ := info_parts i64_info7
  obtain ⟨j0, hj, hy0, hy1, hy2⟩ := info_parts u8_info
  go_wp2_with fail
  go_loopw [6] (fun s6 wr => ∃ (i : Nat) (v : Value), i ≤ n ∧ s6 = .int .i64 i ∧ Hid (Dv wr D L m v) ∧ Hid (wr.ownsRow w6.heap.size 3 1 v (i * m) ((rowsC fold wss i).map (Value.int .i64))) ∧ Hid (RowKit.Below D w6 wr) ∧ Hid ((∀ j, j ≠ D → j < w6.heap.size → wr.heap[j]? = w6.heap[j]?) ∧ w6.heap.size ≤ wr.heap.size)) (fun s _ => n - (intOf s).toNat)
  case atStart => exact ⟨0, .slice none 0 0, Nat.zero_le _, rfl, HV6.out, by rw [Hid, Nat.zero_mul]; exact World.ownsRow_nil _ _ _ _, Below.refl _ _, fun j _ _ => rfl, Nat.le_refl _⟩
  case round =>
    obtain ⟨i, v, hi6, rfl, HVr, HOr, HBr, HKr⟩ := hrel
    by_cases hin : i < n
    · have hd : decide ((i : Int) < (n : Int)) = true := by simp; omega
      have HNr := Lib.hid (HN6.out.turnD HV6.out HRN.out HKr.out.1 HKr.out.2)
      have hcl := HVr.out.cells.1
      have hmk : ∀ V : World, (Instr.makeSlice 32 (.int .i64 m) (.int .i64 m)).run Tryz.prog V = .ok (.slice (some ⟨V.heap.size, 0, none⟩) m m) (V.alloc (.cells (intsNil m) 3)) := fun V => by
        have h := run_makeSlice (P := Tryz.prog) (w := V) 32 3 i0 (.int .i64 0) Tryz.underlying32 hi hz0 .i64 .i64 (m : Int) (m : Int) (by omega) (by omega) (by rw [hzz1]; omega) (by rw [hzz2]; omega) (by omega)
        rw [hzz1] at h
        have e1 : (m : Int).toNat * 1 = m := by omega
        rw [e1, made_ints, Int.toNat_natCast] at h
        exact h
      go_upto_region 10 with fail
      obtain ⟨bb, off, aw, lw, cw, x, hbb, hbl, hcell, hx, hX, hlc⟩ := HNr.out.at_ hin
      have HXr := Lib.hid hX
      have HXI := Lib.hid hx
      have HCE := Lib.hid hcell
      have hx400 : lw ≤ 1000 := by
        have := node_len (right_false HRT.out) hx
        rw [hX.len] at this; omega
      obtain ⟨Rw, hRw⟩ : ∃ R, wr.heap.size = R := ⟨_, rfl⟩
      have hDR : D < Rw := by have := HKr.out.2; omega
      have hbbR : bb < Rw := by omega
      have hRow0 : IntRow Rw (rowC fold wss x 0) (wr.alloc (.cells (intsNil m) 3)) := by
        have h := IntRow.new wr m
        rw [hRw] at h
        unfold rowC
        rw [HMM.out]
        exact h
      have HRow0 := Lib.hid hRow0
      have HBW : Hid (∀ V, RowKit.Below Rw wr V → Below w.heap.size w V) := fun V hV => HB6.out.trans ((HBr.out.trans (hV.mono (by omega))).mono (by omega))
      have HRwE := Lib.hid hRw
      rw [hRw]
      clear hcell hx hX hcl hmk hRow0 hRw
      subst hbb
      go_wp2_with fail
      go_loopw [8] (fun s8 wi => ∃ c : Nat, c ≤ 256 ∧ s8 = .int .i64 c ∧ Hid (IntRow Rw (rowC fold wss x c) wi) ∧ Hid (RowKit.Below Rw wr wi)) (fun s _ => 256 - (intOf s).toNat)
      case atStart => exact ⟨0, by decide, rfl, HRow0.out, by have h := below_alloc wr (.cells (intsNil m) 3); rw [HRwE.out] at h; exact h⟩
      case round =>
        obtain ⟨c, hc6, rfl, HRi, HBi⟩ := hrel
        obtain ⟨c0, c1'⟩ := KS.out wr (HBr.out.trans (HBi.out.mono (by omega)))
        by_cases hcn : c < 256
        · have hd2 : decide ((c : Int) < 256) = true := by simp; omega
          have hd2' : decide (c < 256) = true := by simpa using hcn
          have i1 : (0 : Int) ≤ (c : Int) := by omega
          have i2 : (c : Int) < 256 := by omega
          have e1 : IntKind.u8.wrap (c : Int) = (c : Int) := by simp [IntKind.wrap, IntKind.bits, IntKind.signed]; omega
          have HC := Lib.hid (in11_any fold a la ca c wss wr (HA.out.below (HBW.out wr HBi.out)) (by omega) HM.out hcn)
          cases hq : wordQ wss (c : Int) with
          | false =>
            rw [hq] at HC
            have hrn : rowC fold wss x (c + 1) = rowC fold wss x c := by
              conv => lhs; unfold rowC
              rw [if_neg (by rw [hq]; decide)]
            have HRNE := Lib.hid hrn
            clear hq hrn
            go_wp2_with (go_at_call 114; refine HC.out.mono ?_; rintro e w2 ⟨rfl, hb2⟩)
            go_roundw
            case rel => exact ⟨c + 1, by omega, by go_num, by rw [HRNE.out]; exact (hb2.block _ HRi.out.lt).trans HRi.out, HBi.out.trans (hb2.mono HBi.out.size |> fun h => by rw [← HRwE.out]; exact h)⟩
            case measure => simp [intOf]; omega
          | true =>
            rw [hq] at HC
            have HWQ := Lib.hid hq
            have hwb := wordQ_iff.1 hq
            obtain ⟨q, hqe⟩ : ∃ q, clsO (inB fold wss) fold c = q := ⟨_, rfl⟩
            have hLc : L[c]? = some (q : Int) := by
              rw [← HLL.out, cls_in HOK.out.great hcn, if_pos (inB_word hwb), hqe]
            have hqm : q < m := by rw [← hqe, ← HMM.out]; exact clsO_lt (inB_shut HOK.out.great) (inB_word hwb) hcn
            have HQE := Lib.hid hqe
            have HLC := Lib.hid hLc
            obtain ⟨y0, hy0'⟩ : ∃ y, (rowC fold wss x c)[q]? = some y := ⟨(rowC fold wss x c)[q]'(by rw [rowC_len, HMM.out]; exact hqm), by simp⟩
            have HY0 := Lib.hid hy0'
            clear hq hwb hqe hLc hy0'
            go_upto_region 14 with (go_at_call 114; refine HC.out.mono ?_; rintro e w2 ⟨rfl, hb2⟩)
            have hle : Rw ≤ wr.heap.size := by have := HBi.out.size; rw [HRwE.out] at this; exact this
            have hBi2 := HBi.out.trans (hb2.mono hle)
            have HR2 : Hid (IntRow Rw (rowC fold wss x c) w2) := (hb2.block _ HRi.out.lt).trans HRi.out
            have HX2 := Lib.hid (HXr.out.below (hBi2.mono (by rw [HRwE.out]; exact Nat.le_refl _)))
            have HN2 := Lib.hid (HNr.out.below (hBi2.mono (by rw [HRwE.out]; exact Nat.le_refl _)))
            obtain ⟨B2, hB2⟩ : ∃ B, w2.heap.size = B := ⟨_, rfl⟩
            have HRB : Hid (Rw ≤ B2) := by have := hb2.size; rw [Hid]; omega
            have HB2E := Lib.hid hB2
            have HBi := Lib.hid hBi2
            have KQ : Hid (∀ V, RowKit.Below Rw w2 V → V.cell? ⟨D, c, none⟩ = some (.int .i64 (q : Int)) ∧ V.cell? ⟨bb, off + i, none⟩ = some (.slice aw lw cw)) := fun V hV => by
              have hV2 := hBi2.trans hV
              refine ⟨?_, ?_⟩
              · have h1 := HVr.out.cls HLC.out
                exact (World.cell?_of_block (hV2.block D hDR)).trans h1
              · exact (World.cell?_of_block (hV2.block bb hbbR)).trans HCE.out
            have i3 : (0 : Int) ≤ (i : Int) := by omega
            have i4 : (i : Int) < (n : Int) := by omega
            have i5 : (0 : Int) ≤ (q : Int) := by omega
            have i6 : (q : Int) < (m : Int) := by omega
            clear hb2 hBi2 c0 c1' hle
            refine wp_region_noPanic ?_
            refine wp_region_held_drew (S := RowKit.Below Rw w2) (by kernel_rfl) ((bel_drewN w2 1).mono (by rw [hB2]; exact HRB.out)) (fun hHeld => ?_)
            clear hB2
            refine tkW 0 (v := ?_) ?_ ?_
            rotate_left
            · intro V hV
              first | (go_simp; done) | (go_simp; with_reducible rfl)
            try simp only [Act.put, pA, pB, pC]
            refine tkW 1 (v := ?_) ?_ ?_
            rotate_left
            · intro V hV
              first | (go_simp; done) | (go_simp; with_reducible rfl)
            try simp only [Act.put, pA, pB, pC]
            refine tkW 2 (v := ?_) ?_ ?_
            rotate_left
            · intro V hV
              first | (go_simp; done) | (go_simp; with_reducible rfl)
            try simp only [Act.put, pA, pB, pC]
            refine tkW 3 (v := ?_) ?_ ?_
            rotate_left
            · intro V hV
              first | (go_simp; done) | (go_simp; with_reducible rfl)
            try simp only [Act.put, pA, pB, pC]
            refine tkW 4 (v := ?_) ?_ ?_
            rotate_left
            · intro V hV
              obtain ⟨q0, q1⟩ := KQ.out V hV
              first | (go_simp; done) | (go_simp; with_reducible rfl)
            try simp only [Act.put, pA, pB, pC]
            refine tkW 5 (v := ?_) ?_ ?_
            rotate_left
            · intro V hV
              first | (go_simp; done) | (go_simp; with_reducible rfl)
            try simp only [Act.put, pA, pB, pC]
            refine tkW 7 (v := ?_) ?_ ?_
            rotate_left
            · intro V hV
              first | (go_simp; done) | (go_simp; with_reducible rfl)
            try simp only [Act.put, pA, pB, pC]
            refine tkW 8 (v := ?_) ?_ ?_
            rotate_left
            · intro V hV
              first | (go_simp; done) | (go_simp; with_reducible rfl)
            try simp only [Act.put, pA, pB, pC]
            refine tkW 9 (v := ?_) ?_ ?_
            rotate_left
            · intro V hV
              first | (go_simp; done) | (go_simp; with_reducible rfl)
            try simp only [Act.put, pA, pB, pC]
            refine tkW 10 (v := ?_) ?_ ?_
            rotate_left
            · intro V hV
              obtain ⟨q0, q1⟩ := KQ.out V hV
              first | (go_simp; done) | (go_simp; with_reducible rfl)
            try simp only [Act.put, pA, pB, pC]
            refine tkW 12 (v := ?_) ?_ ?_
            rotate_left
            · intro V hV
              first | (go_simp; done) | (go_simp; with_reducible rfl)
            try simp only [Act.put, pA, pB, pC]
            refine tkW 13 (v := ?_) ?_ ?_
            rotate_left
            · intro V hV
              first | (go_simp; done) | (go_simp; with_reducible rfl)
            try simp only [Act.put, pA, pB, pC]
            refine wpAnyH_ready (rs := [6, 14]) (by as_aux_lemma => kernel_rfl) (by simp) ?_
            refine AllReadyH.cons (by simp only [pD, pE, pF]; rfl) (fun K hK => ?_) (AllReadyH.cons (by simp only [pD, pE, pF]; rfl) (fun K hK => ?_) AllReadyH.nil)
            · skip
              go_simp
              obtain ⟨WA, hWA⟩ : ∃ X, X = (w2.alloc (.cells #[] 5)).drew := ⟨_, rfl⟩
              have hBWA : RowKit.Below B2 w2 WA := by rw [hWA, ← HB2E.out]; exact (below_alloc w2 _).drew
              have hzWA : WA.heap.size = B2 + 1 := by rw [hWA, ← HB2E.out]; exact World.size_alloc _ _
              have own0 : WA.ownsRow B2 5 1 (.slice (some ⟨B2, 0, none⟩) 0 0) 0 #[].toList := by
                have h := World.ownsRow_lit (e := 5) (size := 1) w2 #[] 0 (Nat.le_refl _) (by unfold maxLen; omega) rfl
                rw [HB2E.out] at h
                rw [hWA]; exact h
              rw [HB2E.out, ← hWA]
              have hlWA : B2 ≤ WA.heap.size := by rw [← HB2E.out]; exact hBWA.size
              refine hK.out _ _ (hBWA.mono HRB.out) (fun hNew => ?_)
              clear hK K hHeld hWA
              have hHeld := hNew
              clear hNew
              try simp only [Act.put, pA, pB, pC]
              refine wpAnyH_ready (rs := [11, 14]) (by as_aux_lemma => kernel_rfl) (by simp) ?_
              refine AllReadyH.cons (by simp only [pD, pE, pF]; rfl) (fun K hK => ?_) (AllReadyH.cons (by simp only [pD, pE, pF]; rfl) (fun K hK => ?_) AllReadyH.nil)
              · skip
                refine wanted_one (by kernel_rfl) ?_
                refine oper_append_slK WA _ _ 25 rfl B2 5 j0 (.int .u8 0) 1 1 Tryz.underlying25 hj hy0 hy1 hy2 rfl (by decide) (.slice (some ⟨B2, 0, none⟩) 0 0) 0 [] rfl own0 aw lw cw _ rfl (slK_of_u8 (HX2.out.below (by rw [HB2E.out]; exact hBWA)).1) (fun y hy => by obtain ⟨x, _, rfl⟩ := List.mem_map.1 hy; rfl) (by unfold maxLen; omega) (by omega) hlWA ?_
                intro v1 WB own1' hgrow1 hat1
                have hBWB : RowKit.Below B2 w2 WB := hBWA.grown hgrow1 hlWA (fun j hj => (row_lt own0 j hj).1)
                rw [Nat.zero_add, List.nil_append] at own1'
                have hlWB : B2 ≤ WB.heap.size := by rw [← HB2E.out]; exact hBWB.size
                refine hK.out _ _ (hBWB.mono HRB.out) (fun hNew => ?_)
                clear hK K hHeld 
                have hHeld := hNew
                clear hNew
                try simp only [Act.put, pA, pB, pC]
                refine rdy 14 (fun K hK => ?_)
                go_simp
                obtain ⟨WC, hWC⟩ : ∃ X, X = WB.alloc (.cells #[.int .u8 (c : Int)] 5) := ⟨_, rfl⟩
                have hBWC : RowKit.Below B2 w2 WC := by rw [hWC]; exact hBWB.alloc hlWB _
                have ownC : WC.ownsRow B2 5 1 (.slice (some ⟨WB.heap.size, 0, none⟩) 1 1) 1 #[.int .u8 (c : Int)].toList := by rw [hWC]; exact World.ownsRow_lit WB #[.int .u8 (c : Int)] 1 hlWB (by unfold maxLen; omega) rfl
                rw [← hWC]
                have hlWC : B2 ≤ WC.heap.size := by rw [← HB2E.out]; exact hBWC.size
                have own1' := own1'.alloc (.cells #[.int .u8 (c : Int)] 5)
                rw [← hWC] at own1'
                refine hK.out _ _ (hBWC.mono HRB.out) (fun hNew => ?_)
                clear hK K hHeld hWC
                have hHeld := hNew
                clear hNew
                try simp only [Act.put, pA, pB, pC]
                clear own0
                refine rdy 15 (fun K hK => ?_)
                refine wanted_one (by kernel_rfl) ?_
                obtain ⟨ag, cg, eg, _, sg⟩ := own_sl1 (enc := Value.int .u8) (xs := [(c : Int)]) ownC
                injection eg with eg1 eg2 eg3
                subst eg1 eg3
                refine oper_append_slK WC _ _ 25 rfl B2 5 j0 (.int .u8 0) 1 1 Tryz.underlying25 hj hy0 hy1 hy2 rfl (by decide) _ _ _ rfl own1' _ 1 1 _ rfl (slK_of_u8 sg) (fun y hy => by obtain ⟨x, _, rfl⟩ := List.mem_map.1 hy; rfl) (by unfold maxLen; omega) (by omega) hlWC ?_
                intro v2 WD own2 hgrow2 hat2
                have hBWD : RowKit.Below B2 w2 WD := hBWC.grown hgrow2 hlWC (fun j hj => (row_lt own1' j hj).1)
                rw [← List.map_append] at own2
                obtain ⟨a2, c2, rfl, hc2, hx2⟩ := own_bys own2 (fun y hy => by
                  rcases List.mem_append.1 hy with h | h
                  · exact HX2.out.2 y h
                  · simp at h; omega)
                clear own1' ownC sg eg2 hgrow2 hat2 own2
                refine hK.out _ _ (hBWD.mono HRB.out) (fun hNew => ?_)
                clear hK K hHeld 
                have hHeld := hNew
                clear hNew
                try simp only [Act.put, pA, pB, pC]
                refine rdy 16 (fun K hK => ?_)
                go_simp
                go_at_call 85; refine (rnode11_any _ a2 n c1 (lw + 1) c2 (nodesL wss) (x ++ [(c : Int)]) WD (HN2.out.below (by rw [HB2E.out]; exact hBWD)) hx2 (by omega) (by omega) hc2 ((mem_nodesL wss).2 (.inl rfl))).mono ?_; rintro e WE ⟨rfl, hbE⟩
                have hBWE : RowKit.Below B2 w2 WE := hBWD.trans (hbE.mono (by rw [← HB2E.out]; exact hBWD.size))
                clear hbE hx2 hBWD
                refine hK.out _ _ (hBWE.mono HRB.out) (fun hNew => ?_)
                clear hK K hHeld 
                have hHeld := hNew
                clear hNew
                try simp only [Act.put, pA, pB, pC]
                refine tkW 17 (v := ?_) ?_ ?_
                rotate_left
                · intro V hV
                  first | (go_simp; done) | (go_simp; with_reducible rfl)
                try simp only [Act.put, pA, pB, pC]
                have hrE : IntRow Rw (rowC fold wss x c) WE := (hBWE.block _ (by rw [← HB2E.out]; exact HR2.out.lt)).trans HR2.out
                have ce := hrE.cell HY0.out
                have fe := hrE.frozen q
                have hrN : IntRow Rw (rowC fold wss x (c + 1)) (WE.setCell ⟨Rw, q, none⟩ (.int .i64 (placeS (nodesL wss) (lsf (nodesL wss) (x ++ [(c : Int)]))))) := by
                  have h := hrE.set (j := q) (placeS (nodesL wss) (lsf (nodesL wss) (x ++ [(c : Int)])))
                  have e : rowC fold wss x (c + 1) = (rowC fold wss x c).set q (placeS (nodesL wss) (lsf (nodesL wss) (x ++ [(c : Int)]))) := by
                    conv => lhs; unfold rowC
                    rw [if_pos HWQ.out, HQE.out]; rfl
                  rw [e]; exact h
                have HRN2 := Lib.hid hrN
                have HBE := Lib.hid hBWE
                obtain ⟨pv, hpv⟩ : ∃ pv, placeS (nodesL wss) (lsf (nodesL wss) (x ++ [(c : Int)])) = pv := ⟨_, rfl⟩
                rw [hpv] at HRN2 ⊢
                clear hrN hrE hBWE hpv
                refine rdy 18 (fun K hK => ?_)
                go_simp
                refine hK.out _ _ ((HBE.out.mono HRB.out).setCell (Nat.le_refl _) _) (fun hNew => ?_)
                clear hK K hHeld ce fe
                have hHeld := hNew
                clear hNew
                try simp only [Act.put, pA, pB, pC]
                refine wpAnyH_done (by kernel_rfl) ?_ _
                refine NoPanic.normal ?_
                have HBN := Lib.hid (HBi.out.trans hHeld)
                clear hHeld
                go_wp2_with fail
                go_roundw
                case rel => exact ⟨c + 1, by omega, by go_num, HRN2, HBN⟩
                case measure => simp [intOf]; omega
              · skip
                go_simp
                obtain ⟨WB, hWB⟩ : ∃ X, X = WA.alloc (.cells #[.int .u8 (c : Int)] 5) := ⟨_, rfl⟩
                have hBWB : RowKit.Below B2 w2 WB := by rw [hWB]; exact hBWA.alloc hlWA _
                have ownC : WB.ownsRow B2 5 1 (.slice (some ⟨WA.heap.size, 0, none⟩) 1 1) 1 #[.int .u8 (c : Int)].toList := by rw [hWB]; exact World.ownsRow_lit WA #[.int .u8 (c : Int)] 1 hlWA (by unfold maxLen; omega) rfl
                rw [← hWB]
                have hlWB : B2 ≤ WB.heap.size := by rw [← HB2E.out]; exact hBWB.size
                rw [hzWA] at ownC
                have own0 := own0.alloc (.cells #[.int .u8 (c : Int)] 5)
                rw [← hWB] at own0
                refine hK.out _ _ (hBWB.mono HRB.out) (fun hNew => ?_)
                clear hK K hHeld hWB
                have hHeld := hNew
                clear hNew
                try simp only [Act.put, pA, pB, pC]
                refine rdy 11 (fun K hK => ?_)
                refine wanted_one (by kernel_rfl) ?_
                refine oper_append_slK WB _ _ 25 rfl B2 5 j0 (.int .u8 0) 1 1 Tryz.underlying25 hj hy0 hy1 hy2 rfl (by decide) (.slice (some ⟨B2, 0, none⟩) 0 0) 0 [] rfl own0 aw lw cw _ rfl (slK_of_u8 (HX2.out.below (by rw [HB2E.out]; exact hBWB)).1) (fun y hy => by obtain ⟨x, _, rfl⟩ := List.mem_map.1 hy; rfl) (by unfold maxLen; omega) (by omega) hlWB ?_
                intro v1 WC own1' hgrow1 hat1
                have hBWC : RowKit.Below B2 w2 WC := hBWB.grown hgrow1 hlWB (fun j hj => (row_lt own0 j hj).1)
                rw [Nat.zero_add, List.nil_append] at own1'
                have hlWC : B2 ≤ WC.heap.size := by rw [← HB2E.out]; exact hBWC.size
                have ownC := World.ownsRow.kept ownC hgrow1 (.inr (fun e => by first | (simp [Value.ownBlock] at e; done) | (simp [Value.ownBlock] at e; omega)))
                refine hK.out _ _ (hBWC.mono HRB.out) (fun hNew => ?_)
                clear hK K hHeld 
                have hHeld := hNew
                clear hNew
                try simp only [Act.put, pA, pB, pC]
                clear own0
                refine rdy 15 (fun K hK => ?_)
                refine wanted_one (by kernel_rfl) ?_
                obtain ⟨ag, cg, eg, _, sg⟩ := own_sl1 (enc := Value.int .u8) (xs := [(c : Int)]) ownC
                injection eg with eg1 eg2 eg3
                subst eg1 eg3
                refine oper_append_slK WC _ _ 25 rfl B2 5 j0 (.int .u8 0) 1 1 Tryz.underlying25 hj hy0 hy1 hy2 rfl (by decide) _ _ _ rfl own1' _ 1 1 _ rfl (slK_of_u8 sg) (fun y hy => by obtain ⟨x, _, rfl⟩ := List.mem_map.1 hy; rfl) (by unfold maxLen; omega) (by omega) hlWC ?_
                intro v2 WD own2 hgrow2 hat2
                have hBWD : RowKit.Below B2 w2 WD := hBWC.grown hgrow2 hlWC (fun j hj => (row_lt own1' j hj).1)
                rw [← List.map_append] at own2
                obtain ⟨a2, c2, rfl, hc2, hx2⟩ := own_bys own2 (fun y hy => by
                  rcases List.mem_append.1 hy with h | h
                  · exact HX2.out.2 y h
                  · simp at h; omega)
                clear own1' ownC sg eg2 hgrow2 hat2 own2
                refine hK.out _ _ (hBWD.mono HRB.out) (fun hNew => ?_)
                clear hK K hHeld 
                have hHeld := hNew
                clear hNew
                try simp only [Act.put, pA, pB, pC]
                refine rdy 16 (fun K hK => ?_)
                go_simp
                go_at_call 85; refine (rnode11_any _ a2 n c1 (lw + 1) c2 (nodesL wss) (x ++ [(c : Int)]) WD (HN2.out.below (by rw [HB2E.out]; exact hBWD)) hx2 (by omega) (by omega) hc2 ((mem_nodesL wss).2 (.inl rfl))).mono ?_; rintro e WE ⟨rfl, hbE⟩
                have hBWE : RowKit.Below B2 w2 WE := hBWD.trans (hbE.mono (by rw [← HB2E.out]; exact hBWD.size))
                clear hbE hx2 hBWD
                refine hK.out _ _ (hBWE.mono HRB.out) (fun hNew => ?_)
                clear hK K hHeld 
                have hHeld := hNew
                clear hNew
                try simp only [Act.put, pA, pB, pC]
                refine tkW 17 (v := ?_) ?_ ?_
                rotate_left
                · intro V hV
                  first | (go_simp; done) | (go_simp; with_reducible rfl)
                try simp only [Act.put, pA, pB, pC]
                have hrE : IntRow Rw (rowC fold wss x c) WE := (hBWE.block _ (by rw [← HB2E.out]; exact HR2.out.lt)).trans HR2.out
                have ce := hrE.cell HY0.out
                have fe := hrE.frozen q
                have hrN : IntRow Rw (rowC fold wss x (c + 1)) (WE.setCell ⟨Rw, q, none⟩ (.int .i64 (placeS (nodesL wss) (lsf (nodesL wss) (x ++ [(c : Int)]))))) := by
                  have h := hrE.set (j := q) (placeS (nodesL wss) (lsf (nodesL wss) (x ++ [(c : Int)])))
                  have e : rowC fold wss x (c + 1) = (rowC fold wss x c).set q (placeS (nodesL wss) (lsf (nodesL wss) (x ++ [(c : Int)]))) := by
                    conv => lhs; unfold rowC
                    rw [if_pos HWQ.out, HQE.out]; rfl
                  rw [e]; exact h
                have HRN2 := Lib.hid hrN
                have HBE := Lib.hid hBWE
                obtain ⟨pv, hpv⟩ : ∃ pv, placeS (nodesL wss) (lsf (nodesL wss) (x ++ [(c : Int)])) = pv := ⟨_, rfl⟩
                rw [hpv] at HRN2 ⊢
                clear hrN hrE hBWE hpv
                refine rdy 18 (fun K hK => ?_)
                go_simp
                refine hK.out _ _ ((HBE.out.mono HRB.out).setCell (Nat.le_refl _) _) (fun hNew => ?_)
                clear hK K hHeld ce fe
                have hHeld := hNew
                clear hNew
                try simp only [Act.put, pA, pB, pC]
                refine wpAnyH_done (by kernel_rfl) ?_ _
                refine NoPanic.normal ?_
                have HBN := Lib.hid (HBi.out.trans hHeld)
                clear hHeld
                go_wp2_with fail
                go_roundw
                case rel => exact ⟨c + 1, by omega, by go_num, HRN2, HBN⟩
                case measure => simp [intOf]; omega
            · skip
              go_simp
              obtain ⟨WA, hWA⟩ : ∃ X, X = (w2.alloc (.cells #[.int .u8 (c : Int)] 5)).drew := ⟨_, rfl⟩
              have hBWA : RowKit.Below B2 w2 WA := by rw [hWA, ← HB2E.out]; exact (below_alloc w2 _).drew
              have hzWA : WA.heap.size = B2 + 1 := by rw [hWA, ← HB2E.out]; exact World.size_alloc _ _
              have ownC : WA.ownsRow B2 5 1 (.slice (some ⟨B2, 0, none⟩) 1 1) 1 #[.int .u8 (c : Int)].toList := by
                have h := World.ownsRow_lit (e := 5) (size := 1) w2 #[.int .u8 (c : Int)] 1 (Nat.le_refl _) (by unfold maxLen; omega) rfl
                rw [HB2E.out] at h
                rw [hWA]; exact h
              rw [HB2E.out, ← hWA]
              have hlWA : B2 ≤ WA.heap.size := by rw [← HB2E.out]; exact hBWA.size
              refine hK.out _ _ (hBWA.mono HRB.out) (fun hNew => ?_)
              clear hK K hHeld hWA
              have hHeld := hNew
              clear hNew
              try simp only [Act.put, pA, pB, pC]
              refine rdy 6 (fun K hK => ?_)
              go_simp
              obtain ⟨WB, hWB⟩ : ∃ X, X = WA.alloc (.cells #[] 5) := ⟨_, rfl⟩
              have hBWB : RowKit.Below B2 w2 WB := by rw [hWB]; exact hBWA.alloc hlWA _
              have own0 : WB.ownsRow B2 5 1 (.slice (some ⟨WA.heap.size, 0, none⟩) 0 0) 0 #[].toList := by rw [hWB]; exact World.ownsRow_lit WA #[] 0 hlWA (by unfold maxLen; omega) rfl
              rw [← hWB]
              have hlWB : B2 ≤ WB.heap.size := by rw [← HB2E.out]; exact hBWB.size
              rw [hzWA] at own0
              have ownC := ownC.alloc (.cells #[] 5)
              rw [← hWB] at ownC
              refine hK.out _ _ (hBWB.mono HRB.out) (fun hNew => ?_)
              clear hK K hHeld hWB
              have hHeld := hNew
              clear hNew
              try simp only [Act.put, pA, pB, pC]
              refine rdy 11 (fun K hK => ?_)
              refine wanted_one (by kernel_rfl) ?_
              refine oper_append_slK WB _ _ 25 rfl B2 5 j0 (.int .u8 0) 1 1 Tryz.underlying25 hj hy0 hy1 hy2 rfl (by decide) (.slice (some ⟨B2 + 1, 0, none⟩) 0 0) 0 [] rfl own0 aw lw cw _ rfl (slK_of_u8 (HX2.out.below (by rw [HB2E.out]; exact hBWB)).1) (fun y hy => by obtain ⟨x, _, rfl⟩ := List.mem_map.1 hy; rfl) (by unfold maxLen; omega) (by omega) hlWB ?_
              intro v1 WC own1' hgrow1 hat1
              have hBWC : RowKit.Below B2 w2 WC := hBWB.grown hgrow1 hlWB (fun j hj => (row_lt own0 j hj).1)
              rw [Nat.zero_add, List.nil_append] at own1'
              have hlWC : B2 ≤ WC.heap.size := by rw [← HB2E.out]; exact hBWC.size
              have ownC := World.ownsRow.kept ownC hgrow1 (.inr (fun e => by first | (simp [Value.ownBlock] at e; done) | (simp [Value.ownBlock] at e; omega)))
              refine hK.out _ _ (hBWC.mono HRB.out) (fun hNew => ?_)
              clear hK K hHeld 
              have hHeld := hNew
              clear hNew
              try simp only [Act.put, pA, pB, pC]
              clear own0
              refine rdy 15 (fun K hK => ?_)
              refine wanted_one (by kernel_rfl) ?_
              obtain ⟨ag, cg, eg, _, sg⟩ := own_sl1 (enc := Value.int .u8) (xs := [(c : Int)]) ownC
              injection eg with eg1 eg2 eg3
              subst eg1 eg3
              refine oper_append_slK WC _ _ 25 rfl B2 5 j0 (.int .u8 0) 1 1 Tryz.underlying25 hj hy0 hy1 hy2 rfl (by decide) _ _ _ rfl own1' _ 1 1 _ rfl (slK_of_u8 sg) (fun y hy => by obtain ⟨x, _, rfl⟩ := List.mem_map.1 hy; rfl) (by unfold maxLen; omega) (by omega) hlWC ?_
              intro v2 WD own2 hgrow2 hat2
              have hBWD : RowKit.Below B2 w2 WD := hBWC.grown hgrow2 hlWC (fun j hj => (row_lt own1' j hj).1)
              rw [← List.map_append] at own2
              obtain ⟨a2, c2, rfl, hc2, hx2⟩ := own_bys own2 (fun y hy => by
                rcases List.mem_append.1 hy with h | h
                · exact HX2.out.2 y h
                · simp at h; omega)
              clear own1' ownC sg eg2 hgrow2 hat2 own2
              refine hK.out _ _ (hBWD.mono HRB.out) (fun hNew => ?_)
              clear hK K hHeld 
              have hHeld := hNew
              clear hNew
              try simp only [Act.put, pA, pB, pC]
              refine rdy 16 (fun K hK => ?_)
              go_simp
              go_at_call 85; refine (rnode11_any _ a2 n c1 (lw + 1) c2 (nodesL wss) (x ++ [(c : Int)]) WD (HN2.out.below (by rw [HB2E.out]; exact hBWD)) hx2 (by omega) (by omega) hc2 ((mem_nodesL wss).2 (.inl rfl))).mono ?_; rintro e WE ⟨rfl, hbE⟩
              have hBWE : RowKit.Below B2 w2 WE := hBWD.trans (hbE.mono (by rw [← HB2E.out]; exact hBWD.size))
              clear hbE hx2 hBWD
              refine hK.out _ _ (hBWE.mono HRB.out) (fun hNew => ?_)
              clear hK K hHeld 
              have hHeld := hNew
              clear hNew
              try simp only [Act.put, pA, pB, pC]
              refine tkW 17 (v := ?_) ?_ ?_
              rotate_left
              · intro V hV
                first | (go_simp; done) | (go_simp; with_reducible rfl)
              try simp only [Act.put, pA, pB, pC]
              have hrE : IntRow Rw (rowC fold wss x c) WE := (hBWE.block _ (by rw [← HB2E.out]; exact HR2.out.lt)).trans HR2.out
              have ce := hrE.cell HY0.out
              have fe := hrE.frozen q
              have hrN : IntRow Rw (rowC fold wss x (c + 1)) (WE.setCell ⟨Rw, q, none⟩ (.int .i64 (placeS (nodesL wss) (lsf (nodesL wss) (x ++ [(c : Int)]))))) := by
                have h := hrE.set (j := q) (placeS (nodesL wss) (lsf (nodesL wss) (x ++ [(c : Int)])))
                have e : rowC fold wss x (c + 1) = (rowC fold wss x c).set q (placeS (nodesL wss) (lsf (nodesL wss) (x ++ [(c : Int)]))) := by
                  conv => lhs; unfold rowC
                  rw [if_pos HWQ.out, HQE.out]; rfl
                rw [e]; exact h
              have HRN2 := Lib.hid hrN
              have HBE := Lib.hid hBWE
              obtain ⟨pv, hpv⟩ : ∃ pv, placeS (nodesL wss) (lsf (nodesL wss) (x ++ [(c : Int)])) = pv := ⟨_, rfl⟩
              rw [hpv] at HRN2 ⊢
              clear hrN hrE hBWE hpv
              refine rdy 18 (fun K hK => ?_)
              go_simp
              refine hK.out _ _ ((HBE.out.mono HRB.out).setCell (Nat.le_refl _) _) (fun hNew => ?_)
              clear hK K hHeld ce fe
              have hHeld := hNew
              clear hNew
              try simp only [Act.put, pA, pB, pC]
              refine wpAnyH_done (by kernel_rfl) ?_ _
              refine NoPanic.normal ?_
              have HBN := Lib.hid (HBi.out.trans hHeld)
              clear hHeld
              go_wp2_with fail
              go_roundw
              case rel => exact ⟨c + 1, by omega, by go_num, HRN2, HBN⟩
              case measure => simp [intOf]; omega
        · obtain rfl : c = 256 := by omega
          have hd2 : decide ((256 : Int) < 256) = false := by decide
          have hle : Rw ≤ wr.heap.size := by have := HBi.out.size; rw [HRwE.out] at this; exact this
          have hBS := HBi.out
          have hV := HVr.out.below (hBS.mono (by rw [HRwE.out]; exact Nat.le_refl _))
          have hO := own_belowR HOr.out (hBS.mono (by rw [HRwE.out]; exact Nat.le_refl _))
          have cr := hV.cells.2
          have hsl : Sl1 (Value.int .i64) wr (some ⟨Rw, 0, none⟩) m (rowC fold wss x 256) := by
            have h := HRi.out.sl1
            rwa [rowC_len, HMM.out] at h
          have hwR : w6.heap.size ≤ Rw := by have := HKr.out.2; rw [HRwE.out] at this; exact this
          have hbase : w6.heap.size ≤ wr.heap.size := Nat.le_trans hwR hle
          have him : i * m + m ≤ 400 * 257 + 257 := by
            have := Nat.mul_le_mul (show i ≤ 400 by omega) hm257.2
            omega
          have HO2 := Lib.hid hO
          have HV2 := Lib.hid hV
          have HSL := Lib.hid hsl
          obtain ⟨IM, hIM⟩ : ∃ IM, i * m = IM := ⟨_, rfl⟩
          rw [hIM] at HO2 him
          have HIM := Lib.hid hIM
          clear hO hV hsl hIM c0 c1'
          go_upto_region 15 with fail
          iterate 10 (first | go_values | go_skip | go_guarded | go_step)
          refine wpList_append_sl1 rfl _ _ 32 rfl (fun _ => rfl) w6.heap.size 3 i0 (.int .i64 0) 8 Tryz.underlying32 hi hz0 hzz1 hzz2 rfl v IM _ rfl HO2.out (some ⟨Rw, 0, none⟩) m m (rowC fold wss x 256) rfl HSL.out (by unfold maxLen; omega) (by omega) hbase ?_
          intro v' WF own' hgrow hat
          rw [← List.map_append] at own'
          obtain ⟨ar, cr', rfl, _, sr⟩ := own_sl1 (enc := Value.int .i64) own'
          have hBF : RowKit.Below w6.heap.size wr WF := (Below.refl _ _).grown hgrow hbase (fun j hj => (row_lt HO2.out j hj).1)
          have hVF : Dv WF D L m v := ⟨(hBF.block D hD6).trans HV2.out.box, HV2.out.len⟩
          have cF := hVF.cells.2
          have fF := hVF.frozen 257
          have hVG := hVF.setRows (.slice ar (IM + m) cr')
          have hOG := own_setCellR (D := D) (o := 257) (u := .slice ar (IM + m) cr') own' hD6
          have HVG := Lib.hid hVG
          have HOG := Lib.hid hOG
          have HBF := Lib.hid hBF
          have HBS := Lib.hid hBS
          have HRS : Hid (rowsC fold wss i ++ rowC fold wss x 256 = rowsC fold wss (i + 1)) := by
            rw [Hid]
            show _ = rowsC fold wss i ++ rowC fold wss (((nodesL wss)[i]?).getD []) 256
            rw [HXI.out]; rfl
          clear hVF hVG hOG own' hgrow hat sr hBF hBS cr
          go_wp2_with fail
          go_roundw
          case rel =>
            refine ⟨i + 1, _, by omega, by go_num, HVG.out, ?_, ?_, ?_, ?_⟩
            · rw [Hid, Nat.succ_mul, HIM.out, ← HRS.out]; exact HOG.out
            · exact (HBr.out.trans ((HBS.out.mono (by omega)).trans (HBF.out.mono (Nat.le_of_lt hD6)))).setCell (Nat.le_refl _) _
            · intro j hj hj6
              refine (Below.heap_setCell _ _ _ _ (by show j ≠ D; exact hj)).trans ((HBF.out.block j hj6).trans ((HBS.out.block j (by omega)).trans (HKr.out.1 j hj hj6)))
            · have := HBF.out.size
              rw [World.size_setCell]; omega
          case measure => simp [intOf]; omega
    · obtain rfl : i = n := by omega
      have hd : decide ((i : Int) < (i : Int)) = false := by simp
      have hlo := fun k hk => (row_lt HOr.out k hk).1
      obtain ⟨ar, cr, rfl, hcr, sr⟩ := own_sl1 (enc := Value.int .i64) HOr.out
      have hall : rowsC fold wss i = tabP fold wss := by
        have := rowsC_all HOK.out
        rwa [HN.out] at this
      rw [hall] at sr
      have hlen : i * m ≤ 400 * 257 := Nat.mul_le_mul (by omega) hm257.2
      have hro : ∀ y, ar = some y → w6.heap.size ≤ y.block := fun y e => hlo y.block (by rw [e]; rfl)
      have h1 : wr.heap[w.heap.size + 1]? = some (.cells Tryz.zeroCells109 109 (0, 0)) := (HKr.out.1 _ (by omega) (by omega)).trans H61.out
      have hbx := HVr.out.box
      have hzl := dv_info hLl (m : Int) (.slice ar (i * m) cr)
      have hzo := dv_old hLl (m : Int) (.slice ar (i * m) cr)
      have hz1 := dvC_one L (m : Int) (.slice ar (i * m) cr) rfl
      obtain ⟨Z, hZ⟩ : ∃ Z, (dvC L (m : Int) (.slice ar (i * m) cr)).toArray = Z := ⟨_, rfl⟩
      rw [hZ] at hbx hzl hzo hz1
      have HBXX := Lib.hid hbx
      have HZI := Lib.hid hzl
      have HZO := Lib.hid hzo
      have HZ1 := Lib.hid hz1
      have HZE := Lib.hid hZ
      have H1 := Lib.hid h1
      have H2 := Lib.hid (setRow_heap wr (w.heap.size + 1) _ Z _ _ h1)
      have HSR := Lib.hid sr
      have HRO := Lib.hid hro
      clear hbx hzl hzo hz1 hZ h1 sr hro hlo hall
      go_upto_region 16 with fail
      iterate 1 (first | go_values | go_skip | go_guarded | go_step)
      refine wpList_load_row rfl 109 _ rfl D rfl 109 Z (0, 0) _ HBXX.out Tryz.underlying109 rfl HZI.out ?_
      refine wpList_store_row rfl 109 _ _ rfl (w.heap.size + 1) Z rfl rfl 109 _ H1.out HZI.out HZO.out HZ1.out ?_
      go_wp2_with fail
      refine bodyPost_ret (results_dense2 rfl rfl H2.out HZI.out) rfl ?_
      exact ⟨ar, i * m, cr, by rw [HZE.out]; rfl, sl1_setRow HSR.out _ _ (fun y e => by have := HRO.out y e; omega), by omega, below_setRow (HB6.out.trans (HBr.out.mono (by omega))) (by omega) _⟩
end Go.Proofs.YtbiinfnekhhfkaaGreat

/- The document's words of nodes (layer 9): the next ones, chains; walked. -/

namespace Go.Proofs.YtbiinfnekhhfkaaGreat
open Go.RowKit Go.Sort
set_option linter.unusedVariables false
set_option linter.unusedSimpArgs false

/-- The longest word that ends at bytes, of so many bytes at most. -/
def lonR (ws : List (List Int)) (x : List Int) (m : Int) : Int := if m < 0 then -1 else (sufM ws x m.toNat).headD (-1)
theorem lonR_of {ws : List (List Int)} (hn : ws.Nodup) (h0 : ∀ y ∈ ws, y.length ≠ 0) {x : List Int} {m r : Int} (hm : m ≤ x.length) (h : IsLon ws x m r) : r = lonR ws x m := by
  unfold lonR
  by_cases h1 : m < 0
  · rw [if_pos h1]
    rcases h with ⟨rfl, _⟩ | ⟨w, y, _, _, _, hl, _⟩
    · rfl
    · omega
  · rw [if_neg h1]
    obtain ⟨k, rfl⟩ := Int.eq_ofNat_of_zero_le (show 0 ≤ m by omega)
    rw [Int.toNat_natCast]
    exact lon_head hn h0 (by omega) h
theorem right_words {T : TrieT} {r : List (List Int) × List (List Int)} (h : readP T = some r) : wordsT T = r.2 ∧ T = trieP r.2 ∧ r.2.Nodup ∧ (∀ y ∈ r.2, y.length ≠ 0 ∧ y.length ≤ 32) ∧ r.2.length ≤ 64 ∧ (nodesL r.2).length ≤ 400 := by
  obtain ⟨h1, h2, h3⟩ := readP_iff.1 (show readP T = some (r.1, r.2) from h)
  obtain ⟨r1, _, r3, _⟩ := right_spec h1
  exact ⟨by unfold wordsT; rw [h], by first | exact h3 | exact h2, (right_nodup h1).1, r3, r1, (right_nodes h1).2⟩
theorem rlon9_any (a b : Option Addr) (la ca nb cb : Nat) (ws : List (List Int)) (x : List Int) (m : Int) (w : World) (hA : Wds w a la ws) (hX : Bys w b nb x) (hcb : nb ≤ cb) (hnb : nb ≤ 1000000) (hn : ws.Nodup) (h0 : ∀ y ∈ ws, y.length ≠ 0 ∧ y.length ≤ 32) (hl : ws.length ≤ 64) (hm : m ≤ nb) :
    Calls Tryz.prog 118 #[.slice a la ca, .slice b nb cb, .int .i64 m] w fun e w' => e = .returned (.int .i64 (lonR ws x m)) ∧ Below w.heap.size w w' := by
  refine (rlongest9_any a b la ca nb cb ws x m w hA hX hcb hnb (by rw [hA.len] at hl; omega) (fun y hy => by have := (h0 y hy).2; omega)).mono ?_
  rintro e w' ⟨r, rfl, hr, hb⟩
  exact ⟨by rw [lonR_of hn (fun y hy => (h0 y hy).1) (by rw [hX.len]; exact hm) hr], hb⟩
end Go.Proofs.YtbiinfnekhhfkaaGreat

/- Tries (layer 7): what the law with the document's answers leans on: contracts brought together; two calls of which either may come first. -/




namespace Go.Proofs.YtbiinfnekhhfkaaGreat
open Go.RowKit Go.Sort
set_option linter.unusedVariables false
set_option linter.unusedSimpArgs false

theorem spellT_bd {T : TrieT} {w : World} {a : Option Addr} {n : Nat} (hB : Bys w a n T.byt) {node : Int} {x : List Int} (h : spellT T node = some x) : x.length ≤ 1000 ∧ ∀ y ∈ x, 0 ≤ y ∧ y ≤ 255 := by
  unfold spellT at h
  cases hr : readP T with
  | none => rw [hr] at h; cases h
  | some q =>
    rw [hr] at h
    dsimp only at h
    by_cases h0 : node < 0
    · rw [if_pos h0] at h; cases h
    · rw [if_neg h0] at h
      have := (readR7 (sp := q.1) (ws := q.2) hr).2 _ x h
      subst this
      have := spellR_len T (node.toNat : Int)
      exact ⟨by omega, spellR_bd hB _⟩
end Go.Proofs.YtbiinfnekhhfkaaGreat
