/- Parts of the proof, one behind the other: YJ, YK. No condition but what each theorem states. -/
import Derived.Test.YtjfhefffbkpgkaaGreatQ11
import Derived.Test.YtjfhefffbkpgkaaGreatQ13
import Derived.Test.YtjfhefffbkpgkaaGreatQ15

/- The document's table (layer 11): the node of the longest end; walked. -/


namespace Go.Proofs.YtjfhefffbkpgkaaGreat
open Go.RowKit Go.Sort
set_option linter.unusedVariables false
set_option linter.unusedSimpArgs false

set_option maxRecDepth 100000 in
set_option maxHeartbeats 4000000 in
theorem rnode11_any (a b : Option Addr) (la ca lb cb : Nat) (N : List (List Int)) (x : List Int) (w : World) (hA : Wds w a la N) (hB : Bys w b lb x) (hla : la ≤ 1000000) (hlb : lb ≤ 1000000) (hcb : lb ≤ cb) (h0 : [] ∈ N) :
    Calls Tryz.prog 32 #[.slice a la ca, .slice b lb cb] w fun e w' => e = .returned (.int .i64 (placeS N (lsf N x))) ∧ Below w.heap.size w w' := by
  have HX := Lib.hid hB.len
  have HL := Lib.hid hA.len
  have HA := Lib.hid hA
  have HB := Lib.hid hB
  have H0 := Lib.hid h0
  clear hA hB h0
  go_enter Tryz.func32, Tryz.ntmps32
  go_wp2_with fail
  go_loopw [5] (fun s5 wr => ∃ k : Nat, k ≤ lb ∧ s5 = .int .i64 k ∧ Hid (lsf N x = lsf N (x.drop k)) ∧ RowKit.Below w.heap.size w wr) (fun s _ => lb - (intOf s).toNat)
  case atStart => exact ⟨0, Nat.zero_le _, rfl, rfl, RowKit.Below.refl _ _⟩
  case round =>
    obtain ⟨k, hk, rfl, HK, hBe⟩ := hrel
    have hd : decide ((k : Int) ≤ (lb : Int)) = true := by simp; omega
    have hd' : decide (k ≤ lb) = true := by simpa using hk
    have HBE := Lib.hid hBe
    have HRT := Lib.hid (HB.out.rest hk hcb)
    obtain ⟨y, hy⟩ : ∃ y, x.drop k = y := ⟨_, rfl⟩
    have HY := Lib.hid hy
    rw [hy] at HRT
    clear hBe hy
    go_wp2_with fail
    go_loopw [6] (fun s6 wq => ∃ i : Nat, i ≤ la ∧ s6 = .int .i64 i ∧ Hid (y ∉ N.take i) ∧ Hid (RowKit.Below wr.heap.size wr wq)) (fun s _ => la - (intOf s).toNat)
    case atStart => exact ⟨0, Nat.zero_le _, rfl, by simp [Hid], Below.refl _ _⟩
    case round =>
      obtain ⟨i, hi, rfl, HNI, HBq⟩ := hrel
      have HBq2 := Lib.hid (HBE.out.trans (HBq.out.mono HBE.out.size))
      by_cases hil : i < la
      · have hd2 : decide ((i : Int) < (la : Int)) = true := by simp; omega
        obtain ⟨bb, off, aw, lw, cw, z, hbb, hbl, hcell, hz, hZ, hlc⟩ := (HA.out.below HBq2.out).at_ hil
        subst hbb
        have f2 : ∀ d os, (grow (redrawn wr d) os).cell? ⟨bb, off + i, none⟩ = some (.slice aw lw cw) := fun d os => ((below_regrown wr d os).cell (p := ⟨bb, off + i, none⟩) hbl).trans hcell
        have f4 := fun d os => conv_bys (hZ.below (below_regrown wr d os)) cw
        have f5 := fun d os => conv_bys ((HRT.out.below HBq2.out).below (below_regrown wr d os)) (cb - k)
        have i1 : (0 : Int) ≤ (i : Int) := by omega
        have i2 : (i : Int) < (la : Int) := by omega
        have i3 : (0 : Int) ≤ (k : Int) := by omega
        have i4 : (k : Int) ≤ (lb : Int) := by omega
        have i5 : (lb : Int) ≤ (cb : Int) := by omega
        have HZ := Lib.hid hz
        have HZB := Lib.hid hZ.2
        have HE := Lib.hid (str_beq HZB.out HRT.out.2)
        clear hz hZ hcell hlc
        by_cases e : z = y
        · have hq : ((strOfNums z).toList == (strOfNums y).toList) = true := by rw [HE.out]; simpa using e
          have HS : Hid (placeS N (lsf N x) = i) := by
            have hm : y ∈ N := by rw [← e]; exact List.mem_of_getElem? HZ.out
            rw [Hid, HK.out, HY.out, lsf_of_mem hm, ← e]
            exact placeS_first HZ.out (by rw [e]; exact HNI.out)
          clear e
          go_wp2_with fail
          refine wp_region_quiet_below mixed (by kernel_rfl) ?_
          repeat (go_big_quiet_step (fail))
          refine wpQuiet_nil ?_
          rintro _ ⟨⟨dq, osq⟩, rfl⟩
          generalize (if cb = k then b else Option.map (fun x => x.add k) b) = bs
          go_wp2
          go_ret
          exact ⟨by rw [HS.out]; rfl, HBq2.out.trans ((below_regrown wr dq osq).mono HBq2.out.size)⟩
        · have hq : ((strOfNums z).toList == (strOfNums y).toList) = false := by rw [HE.out]; simpa using e
          have HS : Hid (y ∉ N.take (i + 1)) := by
            rw [Hid, take_step HZ.out, List.mem_append, List.mem_singleton]
            exact fun h => h.elim HNI.out (fun e2 => e e2.symm)
          clear e
          go_wp2_with fail
          refine wp_region_quiet_below mixed (by kernel_rfl) ?_
          repeat (go_big_quiet_step (fail))
          refine wpQuiet_nil ?_
          rintro _ ⟨⟨dq, osq⟩, rfl⟩
          generalize (if cb = k then b else Option.map (fun x => x.add k) b) = bs
          have hBn := HBq.out.trans ((below_regrown wr dq osq).mono HBq.out.size)
          clear f2 f4 f5
          go_wp2
          go_roundw
          case rel => exact ⟨i + 1, by omega, by go_num, HS, hBn⟩
          case measure => simp [intOf]; omega
      · obtain rfl : i = la := by omega
        have hd2 : decide ((i : Int) < (i : Int)) = false := by simp
        have hno : y ∉ N := by
          have h := HNI.out
          rwa [List.take_of_length_le (by rw [HL.out]; exact Nat.le_refl _)] at h
        have hkl : k < lb := by
          rcases Nat.lt_or_ge k lb with h | h
          · exact h
          · exfalso
            refine hno ?_
            rw [← HY.out, List.drop_of_length_le (by rw [HX.out]; exact h)]
            exact H0.out
        have HK2 : Hid (lsf N x = lsf N (x.drop (k + 1))) := by
          rw [Hid, HK.out]
          exact lsf_next (by rw [HX.out]; exact hkl) (by rw [HY.out]; exact hno)
        clear hno
        go_wp2
        go_roundw
        case rel => exact ⟨k + 1, by omega, by go_num, HK2, HBq2.out⟩
        case measure => simp [intOf]; omega

set_option maxHeartbeats 1000000 in
theorem text11_any (fold : Bool) (a : Option Addr) (la ca : Nat) (xs : List Int) (w : World) (hA : Bys w a la xs) (hla : la ≤ 1000000) :
    Calls Tryz.prog 37 #[.bool fold, .slice a la ca] w fun e w' => ∃ a1 c1, e = .returned (.slice a1 la c1) ∧ la ≤ c1 ∧ Bys w' a1 la (foldL fold xs) ∧ Below w.heap.size w w' := by
  have hbd := foldL_bd (fold := fold) hA.2
  obtain ⟨i0, hi, hz0, hz1, hz2⟩ := info_parts u8_info
  cases fold
  · have hA1 := hA.below ((Below.refl _ _).alloc (Nat.le_refl _) (.cells #[] 5))
    have hown0 : OwnB (w.alloc (.cells #[] 5)) w.heap.size (.slice (some ⟨w.heap.size, 0, none⟩) 0 0) 0 [] := World.ownsRow_lit w #[] 0 (Nat.le_refl _) (Nat.zero_le _) rfl
    go_enter Tryz.func37, Tryz.ntmps37
    go_wp2_with (at_builtin; refine wpList_append_sl1 rfl _ _ 29 rfl u8_one w.heap.size 5 i0 (.int .u8 0) 1 Tryz.underlying29 hi hz0 hz1 hz2 rfl _ 0 [] rfl hown0 a la ca xs rfl hA1.1 (by unfold maxLen; omega) (by omega) (by simp) ?_; intro v' w5 hown' hgrow hat)
    go_ret
    have ho : OwnB w5 w.heap.size v' la (foldL false xs) := by simpa [foldL, OwnB] using hown'
    obtain ⟨a1, c1, rfl, hc, h⟩ := own_bys ho hbd
    exact ⟨a1, c1, rfl, hc, h, ((Below.refl _ _).alloc (Nat.le_refl _) _).grown hgrow (by simp) (fun k e => by cases e; exact Nat.le_refl _)⟩
  · go_enter Tryz.func37, Tryz.ntmps37
    go_wp2_with fail
    refine (rfolded_any a la ca xs w hA hla).mono ?_
    rintro e w1 ⟨v, rfl, hown, hb⟩
    have ho : OwnB w1 w.heap.size v la (foldL true xs) := by simpa [foldL, OwnB] using hown
    obtain ⟨a1, c1, rfl, hc, h⟩ := own_bys ho hbd
    go_wp2
    go_ret
    exact ⟨a1, c1, rfl, hc, h, hb⟩

set_option maxRecDepth 100000 in
set_option maxHeartbeats 4000000 in
theorem at11_any (fold : Bool) (a : Option Addr) (la ca : Nat) (wss : List (List Int)) (b : Option Addr) (lb cb : Nat) (x : List Int) (w : World) (hA : Wds w a la wss) (hla : la ≤ 1000) (hM : ∀ x ∈ wss, x.length ≤ 1000) (hX : Bys w b lb x) (hlb : lb ≤ 1000000) (hnn : (nodesL wss).length ≤ 1000000) :
    Calls Tryz.prog 22 #[.agg (setV fold a la ca), .slice b lb cb] w fun e w' => e = .returned (.int .i64 (nodeI wss (lsf (nodesL wss) (foldL fold x)))) ∧ Below w.heap.size w w' := by
  obtain ⟨W, hW⟩ : ∃ W, W = w.alloc (.cells (setV fold a la ca) 24) := ⟨_, rfl⟩
  have hB : Below w.heap.size w W := by rw [hW]; exact below_alloc _ _
  have hO : Bx w.heap.size [.cells (setV fold a la ca) 24] W := by rw [hW]; exact (Bx.nil _ w).snoc _ rfl
  have CE : Hid (∀ V, RowKit.Below W.heap.size W V → V.cell? ⟨w.heap.size, 0, none⟩ = some (.bool fold) ∧ V.cell? ⟨w.heap.size, 1, none⟩ = some (.slice a la ca)) := fun V hV =>
    have h := hO.below hV
    ⟨h.cell (i := 0) rfl rfl, h.cell (i := 0) rfl rfl⟩
  have HA := Lib.hid (hA.below hB)
  have HX := Lib.hid (hX.below hB)
  have HB := Lib.hid hB
  clear hA hX hO hB
  go_enter Tryz.func22, Tryz.ntmps22
  go_upto_region 1 with fail
  rw [← hW]
  clear hW
  refine wp_region_noPanic ?_
  refine wp_region_held_drew (S := RowKit.Below W.heap.size W) (by kernel_rfl) (bel_drewN W 1) (fun hHeld => ?_)
  refine wpAnyH_take (i := 0) (v := ?_) (by simp only [List.getElem?_toArray, List.getElem?_cons_zero, List.getElem?_cons_succ]; rfl) (by as_aux_lemma => kernel_rfl) (by as_aux_lemma => kernel_rfl) (by as_aux_lemma => kernel_rfl) (fun _ _ _ h => h) (Or.inl ⟨by rfl, ?_⟩) (by assumption) ?_
  rotate_left
  · intro V hV
    first | (go_simp; done) | (go_simp; with_reducible rfl)
  try simp only [Act.put, List.setIfInBounds_toArray, List.set_cons_zero, List.set_cons_succ]
  refine wpAnyH_take (i := 1) (v := ?_) (by simp only [List.getElem?_toArray, List.getElem?_cons_zero, List.getElem?_cons_succ]; rfl) (by as_aux_lemma => kernel_rfl) (by as_aux_lemma => kernel_rfl) (by as_aux_lemma => kernel_rfl) (fun _ _ _ h => h) (Or.inl ⟨by rfl, ?_⟩) (by assumption) ?_
  rotate_left
  · intro V hV
    obtain ⟨q0, q1⟩ := CE.out V hV
    first | (go_simp; done) | (go_simp; with_reducible rfl)
  try simp only [Act.put, List.setIfInBounds_toArray, List.set_cons_zero, List.set_cons_succ]
  refine wpAnyH_take (i := 3) (v := ?_) (by simp only [List.getElem?_toArray, List.getElem?_cons_zero, List.getElem?_cons_succ]; rfl) (by as_aux_lemma => kernel_rfl) (by as_aux_lemma => kernel_rfl) (by as_aux_lemma => kernel_rfl) (fun _ _ _ h => h) (Or.inl ⟨by rfl, ?_⟩) (by assumption) ?_
  rotate_left
  · intro V hV
    first | (go_simp; done) | (go_simp; with_reducible rfl)
  try simp only [Act.put, List.setIfInBounds_toArray, List.set_cons_zero, List.set_cons_succ]
  refine wpAnyH_take (i := 4) (v := ?_) (by simp only [List.getElem?_toArray, List.getElem?_cons_zero, List.getElem?_cons_succ]; rfl) (by as_aux_lemma => kernel_rfl) (by as_aux_lemma => kernel_rfl) (by as_aux_lemma => kernel_rfl) (fun _ _ _ h => h) (Or.inl ⟨by rfl, ?_⟩) (by assumption) ?_
  rotate_left
  · intro V hV
    obtain ⟨q0, q1⟩ := CE.out V hV
    first | (go_simp; done) | (go_simp; with_reducible rfl)
  try simp only [Act.put, List.setIfInBounds_toArray, List.set_cons_zero, List.set_cons_succ]
  refine wpAnyH_take (i := 5) (v := ?_) (by simp only [List.getElem?_toArray, List.getElem?_cons_zero, List.getElem?_cons_succ]; rfl) (by as_aux_lemma => kernel_rfl) (by as_aux_lemma => kernel_rfl) (by as_aux_lemma => kernel_rfl) (fun _ _ _ h => h) (Or.inl ⟨by rfl, ?_⟩) (by assumption) ?_
  rotate_left
  · intro V hV
    first | (go_simp; done) | (go_simp; with_reducible rfl)
  try simp only [Act.put, List.setIfInBounds_toArray, List.set_cons_zero, List.set_cons_succ]
  refine wpAnyH_ready (rs := [2]) (by as_aux_lemma => kernel_rfl) (by simp) ?_
  refine AllReadyH.cons (by simp only [List.getElem?_toArray, List.getElem?_cons_zero, List.getElem?_cons_succ]; rfl) (fun K hK => ?_) AllReadyH.nil
  go_simp
  go_at_call 30; refine (rnodes7_any a la ca wss _ (HA.out.below hHeld) hla hM).mono ?_; rintro e w1 ⟨a1, c1, rfl, hc1, hN1, hb1⟩
  have hB1 : RowKit.Below W.heap.size W w1 := hHeld.trans (hb1.mono hHeld.size)
  refine hK.out _ _ hB1 (fun hNew => ?_)
  clear hK K hHeld hNew hb1
  try simp only [Act.put, List.setIfInBounds_toArray, List.set_cons_zero, List.set_cons_succ]
  refine wpAnyH_ready (rs := [6]) (by as_aux_lemma => kernel_rfl) (by simp) ?_
  refine AllReadyH.cons (by simp only [List.getElem?_toArray, List.getElem?_cons_zero, List.getElem?_cons_succ]; rfl) (fun K hK => ?_) AllReadyH.nil
  go_simp
  go_at_call 37; refine (text11_any fold b lb cb x w1 (HX.out.below hB1) hlb).mono ?_; rintro e w2 ⟨a2, c2, rfl, hc2, hX2, hb2⟩
  have hB2 : RowKit.Below W.heap.size W w2 := hB1.trans (hb2.mono hB1.size)
  have hN2 := hN1.below hb2
  refine hK.out _ _ hB2 (fun hNew => ?_)
  clear hK K hNew hb2 hN1 hB1
  try simp only [Act.put, List.setIfInBounds_toArray, List.set_cons_zero, List.set_cons_succ]
  refine wpAnyH_ready (rs := [7]) (by as_aux_lemma => kernel_rfl) (by simp) ?_
  refine AllReadyH.cons (by simp only [List.getElem?_toArray, List.getElem?_cons_zero, List.getElem?_cons_succ]; rfl) (fun K hK => ?_) AllReadyH.nil
  go_simp
  go_at_call 32; refine (rnode11_any a1 a2 _ c1 lb c2 (nodesL wss) (foldL fold x) w2 hN2 hX2 hnn hlb hc2 ((mem_nodesL wss).2 (.inl rfl))).mono ?_; rintro e w3 ⟨rfl, hb3⟩
  have hB3 : RowKit.Below W.heap.size W w3 := hB2.trans (hb3.mono hB2.size)
  refine hK.out _ _ hB3 (fun hNew => ?_)
  clear hK K hb3 hN2 hB2 hX2
  have hHeld := hNew
  clear hNew
  try simp only [Act.put, List.setIfInBounds_toArray, List.set_cons_zero, List.set_cons_succ]
  refine wpAnyH_take (i := 8) (v := ?_) (by simp only [List.getElem?_toArray, List.getElem?_cons_zero, List.getElem?_cons_succ]; rfl) (by as_aux_lemma => kernel_rfl) (by as_aux_lemma => kernel_rfl) (by as_aux_lemma => kernel_rfl) (fun _ _ _ h => h) (Or.inl ⟨by rfl, ?_⟩) (by assumption) ?_
  rotate_left
  · intro V hV
    first | (go_simp; done) | (go_simp; with_reducible rfl)
  try simp only [Act.put, List.setIfInBounds_toArray, List.set_cons_zero, List.set_cons_succ]
  refine wpAnyH_done (by kernel_rfl) ?_ _
  refine NoPanic.normal ?_
  go_wp2
  go_ret
  exact ⟨rfl, HB.out.trans (hB3.mono HB.out.size)⟩
end Go.Proofs.YtjfhefffbkpgkaaGreat

/- The law DenseEnds (layer 11): walked. Printed by exp.py. -/


namespace Go.Proofs.YtjfhefffbkpgkaaGreat
open Go.RowKit Go.Sort
set_option linter.unusedVariables false
set_option linter.unusedSimpArgs false

set_option maxRecDepth 100000 in
set_option maxHeartbeats 16000000 in
theorem denseEnds_walk (fold : Bool) (a : Option Addr) (la ca : Nat) (b : Option Addr) (lb cb : Nat) (text : List Int) (wss : List (List Int)) (w : World) (hA : Wds w a la wss) (hX : Bys w b lb text) (hcb : lb ≤ cb) :
    Calls Tryz.prog 4 #[.agg (setV fold a la ca), .slice b lb cb] w fun e w' => e = .returned (.bool true) ∧ Below w.heap.size w w' := by
  have HL := Lib.hid hA.len
  have HTL := Lib.hid hX.len
  obtain ⟨W, hW⟩ : ∃ W, W = w.alloc (.cells (setV fold a la ca) 24) := ⟨_, rfl⟩
  have hB : Below w.heap.size w W := by rw [hW]; exact below_alloc _ _
  have hO : Bx w.heap.size [.cells (setV fold a la ca) 24] W := by rw [hW]; exact (Bx.nil _ w).snoc _ rfl
  have s0 : W.cell? ⟨w.heap.size, 0, none⟩ = some (.bool fold) := hO.cell (i := 0) rfl rfl
  have s1 : W.cell? ⟨w.heap.size, 1, none⟩ = some (.slice a la ca) := hO.cell (i := 0) rfl rfl
  have hg := great5_any fold a la ca wss W (hA.below hB)
  obtain ⟨G, hG⟩ : ∃ G, greatP wss = G := ⟨_, rfl⟩
  rw [hG] at hg
  have HG := Lib.hid hg
  have HA := Lib.hid hA
  have HX := Lib.hid hX
  clear hg hA hX
  go_enter Tryz.func4, Tryz.ntmps4
  go_upto_region 1 with fail
  rw [← hW]
  clear hW
  go_wp2_with fail
  refine HG.out.mono ?_
  rintro e w1 ⟨rfl, hb1⟩
  have hB1 := hB.trans (hb1.mono hB.size)
  have hO1 := hO.below hb1
  clear s0 s1 hO hB hb1 HG
  cases G with
  | true =>
    go_wp2_with fail
    refine (wakes11 _).mono ?_
    rintro e w2 ⟨rfl, hb2⟩
    have hB2 := hB1.trans (hb2.mono hB1.size)
    go_wp2
    go_ret
    exact ⟨rfl, hB2⟩
  | false =>
    obtain ⟨g1, g2, g3⟩ := gr8_bd hG fold
    rw [HL.out] at g1
    have s0 : w1.cell? ⟨w.heap.size, 0, none⟩ = some (.bool fold) := hO1.cell (i := 0) rfl rfl
    have s1 : w1.cell? ⟨w.heap.size, 1, none⟩ = some (.slice a la ca) := hO1.cell (i := 0) rfl rfl
    have hR := rright_any fold a la ca wss w1 (HA.out.below hB1) (by omega) (fun x hx => by have := g2 x hx; omega)
    rw [← right_eq] at hR
    have HR := Lib.hid hR
    clear hR
    cases hr : rightP fold wss with
    | false =>
      rw [hr] at HR
      clear hr g1 g2 g3
      go_wp2_with fail
      refine HR.out.mono ?_
      rintro e w2 ⟨rfl, hb2⟩
      have hB2 := hB1.trans (hb2.mono hB1.size)
      clear s0 s1
      go_wp2_with fail
      refine (wakes11 _).mono ?_
      rintro e w3 ⟨rfl, hb3⟩
      have hB3 := hB2.trans (hb3.mono hB2.size)
      go_wp2
      go_ret
      exact ⟨rfl, hB3⟩
    | true =>
      rw [hr] at HR
      have hOK := okT hr (fun x hx c hc => HA.out.bytes x hx c hc)
      have hn4 : (nodesL wss).length ≤ 400 := read_n (readP_iff.2 ⟨right_false hr, rfl, rfl⟩)
      have hm257 : 1 ≤ manyP fold wss ∧ manyP fold wss ≤ 257 := clsN_many _ _ _
      have hML : Hid (∀ V, Below w.heap.size w V → Calls Tryz.prog 10 #[.agg (setV fold a la ca)] V fun e w' => ∃ R, e = .returned (.tuple #[.agg (dvC (clsP fold wss) (manyP fold wss) (.slice (some ⟨R, 0, none⟩) (manyP fold wss * (nodesL wss).length) (manyP fold wss * (nodesL wss).length))).toArray, .int .i64 0]) ∧
          IntRow R (tabP fold wss) w' ∧ V.heap.size ≤ R ∧ Below V.heap.size V w') := fun V hV => make11_yes fold a la ca wss V (HA.out.below hV) (by omega) (fun x hx => by have := g2 x hx; omega) (by omega) hr
      have hFl := tabP_len hOK
      have hSt := states_tab hOK
      have hrun := runD_root hOK text HX.out.2
      have hnc := nodesL_count fold (right_nodup hr).2
      have hw32 : ∀ x ∈ wss, x.length ≤ 1000 := fun x hx => by have := ((right_spec hr).2.2.1 x hx).2; omega
      have HW32 := Lib.hid hw32
      have HNC := Lib.hid hnc
      obtain ⟨z, hz⟩ : ∃ z, nodeI wss (lsf (nodesL wss) (foldL fold text)) = z := ⟨_, rfl⟩
      rw [hz] at hrun
      have HZ := Lib.hid hz
      have HLE : Hid (∀ v ∈ wss, v.length ≤ 1000000) := fun v hv => by have := g2 v hv; omega
      have hn4' := hn4
      have hla80 : la ≤ 80 := g1
      obtain ⟨n, hn⟩ : ∃ n, (nodesL wss).length = n := ⟨_, rfl⟩
      obtain ⟨m, hm⟩ : ∃ m, manyP fold wss = m := ⟨_, rfl⟩
      obtain ⟨k, hk⟩ : ∃ k, m * n = k := ⟨_, rfl⟩
      have hk2 : k ≤ 257 * 400 := by rw [← hk]; exact Nat.mul_le_mul (by omega) (by omega)
      obtain ⟨L, hL⟩ : ∃ L, clsP fold wss = L := ⟨_, rfl⟩
      obtain ⟨F, hF⟩ : ∃ F, tabP fold wss = F := ⟨_, rfl⟩
      have hLl : L.length = 256 := by rw [← hL]; exact clsP_len _ _
      rw [hL, hm, hF] at hrun
      rw [hm, hF] at hSt
      rw [hn] at hSt hnc
      rw [hn] at HNC
      have HRUN := Lib.hid hrun
      have hn400 : n ≤ 400 := by rw [← hn]; exact hn4
      have HNN := Lib.hid hn
      rw [hF, hm, hn, hk] at hFl
      rw [hFl] at hSt
      rw [hL, hm, hF, hn, hk] at hML
      have HFL := Lib.hid hFl
      clear hr hG g1 g2 g3 hOK hn hm hk hL hF hFl hn4 hrun hz hnc hn4' hw32
      go_wp2_with fail
      refine HR.out.mono ?_
      rintro e w2 ⟨rfl, hb2⟩
      have hB2 := hB1.trans (hb2.mono hB1.size)
      have hO2 := hO1.below hb2
      clear s0 s1 hb2 HR hO1 hB1
      by_cases h300 : lb ≤ 300
      · have d1 : decide ((300 : Int) < (lb : Int)) = false := by simp; omega
        have d1' : decide (300 < lb) = false := by simp; omega
        have s0 : w2.cell? ⟨w.heap.size, 0, none⟩ = some (.bool fold) := hO2.cell (i := 0) rfl rfl
        have s1 : w2.cell? ⟨w.heap.size, 1, none⟩ = some (.slice a la ca) := hO2.cell (i := 0) rfl rfl
        have HM := Lib.hid (hML.out w2 hB2)
        clear hML
        go_upto_region 4 with (first
          | (refine wpList_store_row rfl 28 _ _ rfl _ _ rfl rfl 28 _ (heap_alloc_new _ _) (dv_info hLl _ _) (dv_old hLl _ _) (dvC_one _ _ _ rfl) ?_)
          | (go_at_call 10; refine HM.out.mono ?_; rintro e w3 ⟨R, rfl, hrow, hRl, hb3⟩))
        rw [World.setRow_alloc_new]
        obtain ⟨w4, hw4⟩ : ∃ w4, w4 = w3.alloc (.cells (dvC L m (.slice (some ⟨R, 0, none⟩) k k)).toArray 28) := ⟨_, rfl⟩
        have hC4 : CT w L F m k R w3.heap.size w4 := by
          rw [hw4]
          exact ⟨((below_alloc w3 _).block R hrow.lt).trans hrow, Dv.new w3 _ _ _ hLl, HFL.out, hB2.trans ((hb3.alloc hb3.size _).mono hB2.size)⟩
        have HO4 : Hid (Bx w.heap.size [.cells (setV fold a la ca) 24] w4) := by rw [Hid, hw4]; exact hO2.below (hb3.alloc hb3.size _)
        rw [← hw4]
        obtain ⟨Q, hQ⟩ : ∃ Q, w3.heap.size = Q := ⟨_, rfl⟩
        rw [hQ] at hC4 ⊢
        clear hw4 hrow hRl hb3 HM s0 s1 hB2 hQ hO2
        have HRn := Lib.hid (fun V (hV : CT w L F m k R Q V) (z : Int) (bs : List Int) (ab : Option Addr) (lb cb : Nat) (hbs : Bys V ab lb bs) (hlb : lb ≤ 1000000) => run11_any L F bs m (some ⟨R, 0, none⟩) k k z ab lb cb V hLl hV.sl (by omega) hbs hlb)
        have HS := Lib.hid (fun V => states11_any L m (some ⟨R, 0, none⟩) k k V hLl (by omega))
        have hAi := dv_info hLl m (.slice (some ⟨R, 0, none⟩) k k)
        have HBX : Hid (∀ V, CT w L F m k R Q V → V.heap[Q]? = some (.cells (dvC L m (.slice (some ⟨R, 0, none⟩) k k)).toArray 28 (0, 0))) := fun V hV => hV.box.box
        obtain ⟨A, hA⟩ : ∃ A, (dvC L m (.slice (some ⟨R, 0, none⟩) k k)).toArray = A := ⟨_, rfl⟩
        rw [hA] at HRn HS hAi HBX ⊢
        rw [hSt] at HS
        have HAi := Lib.hid hAi
        have HC4 := Lib.hid hC4
        have K4 := Lib.hid (HRn.out w4 HC4.out 0 text b lb cb (HX.out.below HC4.out.bel) (by omega))
        rw [HRUN.out] at K4
        clear hA hAi hSt hC4
        go_upto_region 5 with (first
          | (refine wpList_load_row rfl 28 _ rfl Q rfl 28 A (0, 0) _ (HBX.out w4 HC4.out) Tryz.underlying28 rfl HAi.out ?_)
          | (go_at_call 14; refine K4.out.mono ?_; rintro e w5 ⟨rfl, hb5⟩; simp only [goDV]))
        have HC5 := Lib.hid (HC4.out.below hb5)
        have HO5 := Lib.hid (HO4.out.below hb5)
        clear hb5 K4
        have KC : Hid (∀ V, RowKit.Below w5.heap.size w5 V → V.cell? ⟨w.heap.size, 0, none⟩ = some (.bool fold) ∧ V.cell? ⟨w.heap.size, 1, none⟩ = some (.slice a la ca)) := fun V hV => by
          have h2 := HO5.out.below hV
          exact ⟨h2.cell (i := 0) rfl rfl, h2.cell (i := 0) rfl rfl⟩
        have KA : Hid (∀ V, RowKit.Below w5.heap.size w5 V → Calls Tryz.prog 22 #[.agg (setV fold a la ca), .slice b lb cb] V fun e w' => e = .returned (.int .i64 z) ∧ RowKit.Below V.heap.size V w') := fun V hV => by
          have h := at11_any fold a la ca wss b lb cb text V (HA.out.below (HC5.out.below hV).bel) (by omega) HW32.out (HX.out.below (HC5.out.below hV).bel) (by omega) (by rw [HNN.out]; omega)
          rw [HZ.out] at h
          exact h
        have KN : Hid (∀ V, RowKit.Below w5.heap.size w5 V → Calls Tryz.prog 23 #[.bool fold, .slice a la ca] V fun e w' => e = .returned (.int .i64 (n : Int)) ∧ RowKit.Below V.heap.size V w') := fun V hV => by
          have h := rnodes_any fold a la ca wss V (HA.out.below (HC5.out.below hV).bel) (by omega) HLE.out
          rw [← HNC.out] at h
          exact h
        refine wp_region_noPanic ?_
        refine wp_region_held_drew (S := RowKit.Below w5.heap.size w5) (by kernel_rfl) (bel_drewN w5 1) (fun hHeld => ?_)
        refine wpAnyH_take (i := 0) (v := ?_) (by simp only [List.getElem?_toArray, List.getElem?_cons_zero, List.getElem?_cons_succ]; rfl) (by as_aux_lemma => kernel_rfl) (by as_aux_lemma => kernel_rfl) (by as_aux_lemma => kernel_rfl) (fun _ _ _ h => h) (Or.inl ⟨by rfl, ?_⟩) (by assumption) ?_
        rotate_left
        · intro V hV
          first | (go_simp; done) | (go_simp; with_reducible rfl)
        try simp only [Act.put, List.setIfInBounds_toArray, List.set_cons_zero, List.set_cons_succ]
        refine wpAnyH_take (i := 1) (v := ?_) (by simp only [List.getElem?_toArray, List.getElem?_cons_zero, List.getElem?_cons_succ]; rfl) (by as_aux_lemma => kernel_rfl) (by as_aux_lemma => kernel_rfl) (by as_aux_lemma => kernel_rfl) (fun _ _ _ h => h) (Or.inl ⟨by rfl, ?_⟩) (by assumption) ?_
        rotate_left
        · intro V hV
          first | (go_simp; done) | (go_simp; with_reducible rfl)
        try simp only [Act.put, List.setIfInBounds_toArray, List.set_cons_zero, List.set_cons_succ]
        refine wpAnyH_take (i := 2) (v := ?_) (by simp only [List.getElem?_toArray, List.getElem?_cons_zero, List.getElem?_cons_succ]; rfl) (by as_aux_lemma => kernel_rfl) (by as_aux_lemma => kernel_rfl) (by as_aux_lemma => kernel_rfl) (fun _ _ _ h => h) (Or.inl ⟨by rfl, ?_⟩) (by assumption) ?_
        rotate_left
        · intro V hV
          first | (go_simp; done) | (go_simp; with_reducible rfl)
        try simp only [Act.put, List.setIfInBounds_toArray, List.set_cons_zero, List.set_cons_succ]
        refine wpAnyH_take (i := 3) (v := ?_) (by simp only [List.getElem?_toArray, List.getElem?_cons_zero, List.getElem?_cons_succ]; rfl) (by as_aux_lemma => kernel_rfl) (by as_aux_lemma => kernel_rfl) (by as_aux_lemma => kernel_rfl) (fun _ _ _ h => h) (Or.inl ⟨by rfl, ?_⟩) (by assumption) ?_
        rotate_left
        · intro V hV
          first | (go_simp; done) | (go_simp; with_reducible rfl)
        try simp only [Act.put, List.setIfInBounds_toArray, List.set_cons_zero, List.set_cons_succ]
        refine wpAnyH_take (i := 4) (v := ?_) (by simp only [List.getElem?_toArray, List.getElem?_cons_zero, List.getElem?_cons_succ]; rfl) (by as_aux_lemma => kernel_rfl) (by as_aux_lemma => kernel_rfl) (by as_aux_lemma => kernel_rfl) (fun _ _ _ h => h) (Or.inl ⟨by rfl, ?_⟩) (by assumption) ?_
        rotate_left
        · intro V hV
          first | (go_simp; done) | (go_simp; with_reducible rfl)
        try simp only [Act.put, List.setIfInBounds_toArray, List.set_cons_zero, List.set_cons_succ]
        refine wpAnyH_take (i := 5) (v := ?_) (by simp only [List.getElem?_toArray, List.getElem?_cons_zero, List.getElem?_cons_succ]; rfl) (by as_aux_lemma => kernel_rfl) (by as_aux_lemma => kernel_rfl) (by as_aux_lemma => kernel_rfl) (fun _ _ _ h => h) (Or.inl ⟨by rfl, ?_⟩) (by assumption) ?_
        rotate_left
        · intro V hV
          first | (go_simp; done) | (go_simp; with_reducible rfl)
        try simp only [Act.put, List.setIfInBounds_toArray, List.set_cons_zero, List.set_cons_succ]
        refine wpAnyH_take (i := 6) (v := ?_) (by simp only [List.getElem?_toArray, List.getElem?_cons_zero, List.getElem?_cons_succ]; rfl) (by as_aux_lemma => kernel_rfl) (by as_aux_lemma => kernel_rfl) (by as_aux_lemma => kernel_rfl) (fun _ _ _ h => h) (Or.inl ⟨by rfl, ?_⟩) (by assumption) ?_
        rotate_left
        · intro V hV
          first | (go_simp; done) | (go_simp; with_reducible rfl)
        try simp only [Act.put, List.setIfInBounds_toArray, List.set_cons_zero, List.set_cons_succ]
        refine wpAnyH_take (i := 7) (v := ?_) (by simp only [List.getElem?_toArray, List.getElem?_cons_zero, List.getElem?_cons_succ]; rfl) (by as_aux_lemma => kernel_rfl) (by as_aux_lemma => kernel_rfl) (by as_aux_lemma => kernel_rfl) (fun _ _ _ h => h) (Or.inl ⟨by rfl, ?_⟩) (by assumption) ?_
        rotate_left
        · intro V hV
          obtain ⟨q0, q1⟩ := KC.out V hV
          first | (go_simp; done) | (go_simp; with_reducible rfl)
        try simp only [Act.put, List.setIfInBounds_toArray, List.set_cons_zero, List.set_cons_succ]
        refine wpAnyH_take (i := 8) (v := ?_) (by simp only [List.getElem?_toArray, List.getElem?_cons_zero, List.getElem?_cons_succ]; rfl) (by as_aux_lemma => kernel_rfl) (by as_aux_lemma => kernel_rfl) (by as_aux_lemma => kernel_rfl) (fun _ _ _ h => h) (Or.inl ⟨by rfl, ?_⟩) (by assumption) ?_
        rotate_left
        · intro V hV
          first | (go_simp; done) | (go_simp; with_reducible rfl)
        try simp only [Act.put, List.setIfInBounds_toArray, List.set_cons_zero, List.set_cons_succ]
        refine wpAnyH_one (i := 9) (vi := .int .i64 z) (by simp only [List.getElem?_toArray, List.getElem?_cons_zero, List.getElem?_cons_succ]; rfl) (by as_aux_lemma => kernel_rfl) ?_ ?_ _ hHeld
        · intro V hV K hK
          try simp only [Act.put, List.setIfInBounds_toArray, List.set_cons_zero, List.set_cons_succ] at hK
          go_simp
          go_at_call 22; refine (KA.out V hV).mono ?_; rintro e w2 ⟨rfl, hb2⟩; exact hK _ (hV.trans (hb2.mono hV.size))
        clear hHeld
        intro V1 hHeld
        try simp only [Act.put, List.setIfInBounds_toArray, List.set_cons_zero, List.set_cons_succ]
        refine wpAnyH_take (i := 10) (v := ?_) (by simp only [List.getElem?_toArray, List.getElem?_cons_zero, List.getElem?_cons_succ]; rfl) (by as_aux_lemma => kernel_rfl) (by as_aux_lemma => kernel_rfl) (by as_aux_lemma => kernel_rfl) (fun _ _ _ h => h) (Or.inl ⟨by rfl, ?_⟩) (by assumption) ?_
        rotate_left
        · intro V hV
          first | (go_simp; done) | (go_simp; with_reducible rfl)
        try simp only [Act.put, List.setIfInBounds_toArray, List.set_cons_zero, List.set_cons_succ]
        refine wpAnyH_take (i := 11) (v := ?_) (by simp only [List.getElem?_toArray, List.getElem?_cons_zero, List.getElem?_cons_succ]; rfl) (by as_aux_lemma => kernel_rfl) (by as_aux_lemma => kernel_rfl) (by as_aux_lemma => kernel_rfl) (fun _ _ _ h => h) (Or.inl ⟨by rfl, ?_⟩) (by assumption) ?_
        rotate_left
        · intro V hV
          first | (go_simp; done) | (go_simp; with_reducible rfl)
        try simp only [Act.put, List.setIfInBounds_toArray, List.set_cons_zero, List.set_cons_succ]
        refine wpAnyH_take (i := 12) (v := ?_) (by simp only [List.getElem?_toArray, List.getElem?_cons_zero, List.getElem?_cons_succ]; rfl) (by as_aux_lemma => kernel_rfl) (by as_aux_lemma => kernel_rfl) (by as_aux_lemma => kernel_rfl) (fun _ _ _ h => h) (Or.inl ⟨by rfl, ?_⟩) (by assumption) ?_
        rotate_left
        · intro V hV
          first | (go_simp; done) | (go_simp; with_reducible rfl)
        try simp only [Act.put, List.setIfInBounds_toArray, List.set_cons_zero, List.set_cons_succ]
        refine' wpAnyH_take (i := 13) (v := _) (by simp only [List.getElem?_toArray, List.getElem?_cons_zero, List.getElem?_cons_succ]; rfl) (by as_aux_lemma => kernel_rfl) (by as_aux_lemma => kernel_rfl) (by as_aux_lemma => kernel_rfl) (fun _ _ _ h => h) (yieldsIf_load_row (by rfl) _ _ rfl Q rfl 28 A (0, 0) _ (fun V hV => HBX.out V (HC5.out.below hV)) Tryz.underlying28 rfl HAi.out) (by assumption) ?_
        try simp only [Act.put, List.setIfInBounds_toArray, List.set_cons_zero, List.set_cons_succ]
        refine wpAnyH_take (i := 15) (v := ?_) (by simp only [List.getElem?_toArray, List.getElem?_cons_zero, List.getElem?_cons_succ]; rfl) (by as_aux_lemma => kernel_rfl) (by as_aux_lemma => kernel_rfl) (by as_aux_lemma => kernel_rfl) (fun _ _ _ h => h) (Or.inl ⟨by rfl, ?_⟩) (by assumption) ?_
        rotate_left
        · intro V hV
          first | (go_simp; done) | (go_simp; with_reducible rfl)
        try simp only [Act.put, List.setIfInBounds_toArray, List.set_cons_zero, List.set_cons_succ]
        refine wpAnyH_take (i := 16) (v := ?_) (by simp only [List.getElem?_toArray, List.getElem?_cons_zero, List.getElem?_cons_succ]; rfl) (by as_aux_lemma => kernel_rfl) (by as_aux_lemma => kernel_rfl) (by as_aux_lemma => kernel_rfl) (fun _ _ _ h => h) (Or.inl ⟨by rfl, ?_⟩) (by assumption) ?_
        rotate_left
        · intro V hV
          obtain ⟨q0, q1⟩ := KC.out V hV
          first | (go_simp; done) | (go_simp; with_reducible rfl)
        try simp only [Act.put, List.setIfInBounds_toArray, List.set_cons_zero, List.set_cons_succ]
        refine wpAnyH_take (i := 17) (v := ?_) (by simp only [List.getElem?_toArray, List.getElem?_cons_zero, List.getElem?_cons_succ]; rfl) (by as_aux_lemma => kernel_rfl) (by as_aux_lemma => kernel_rfl) (by as_aux_lemma => kernel_rfl) (fun _ _ _ h => h) (Or.inl ⟨by rfl, ?_⟩) (by assumption) ?_
        rotate_left
        · intro V hV
          first | (go_simp; done) | (go_simp; with_reducible rfl)
        try simp only [Act.put, List.setIfInBounds_toArray, List.set_cons_zero, List.set_cons_succ]
        refine wpAnyH_take (i := 18) (v := ?_) (by simp only [List.getElem?_toArray, List.getElem?_cons_zero, List.getElem?_cons_succ]; rfl) (by as_aux_lemma => kernel_rfl) (by as_aux_lemma => kernel_rfl) (by as_aux_lemma => kernel_rfl) (fun _ _ _ h => h) (Or.inl ⟨by rfl, ?_⟩) (by assumption) ?_
        rotate_left
        · intro V hV
          obtain ⟨q0, q1⟩ := KC.out V hV
          first | (go_simp; done) | (go_simp; with_reducible rfl)
        try simp only [Act.put, List.setIfInBounds_toArray, List.set_cons_zero, List.set_cons_succ]
        refine wpAnyH_one (i := 14) (vi := .int .i64 (n : Int)) (by simp only [List.getElem?_toArray, List.getElem?_cons_zero, List.getElem?_cons_succ]; rfl) (by as_aux_lemma => kernel_rfl) ?_ ?_ _ hHeld
        · intro V hV K hK
          try simp only [Act.put, List.setIfInBounds_toArray, List.set_cons_zero, List.set_cons_succ] at hK
          go_simp
          go_at_call 17; refine (HS.out V).mono ?_; rintro e w2 ⟨rfl, hb2⟩; exact hK _ (hV.trans (hb2.mono hV.size))
        clear hHeld
        intro V1 hHeld
        try simp only [Act.put, List.setIfInBounds_toArray, List.set_cons_zero, List.set_cons_succ]
        refine wpAnyH_one (i := 19) (vi := .int .i64 (n : Int)) (by simp only [List.getElem?_toArray, List.getElem?_cons_zero, List.getElem?_cons_succ]; rfl) (by as_aux_lemma => kernel_rfl) ?_ ?_ _ hHeld
        · intro V hV K hK
          try simp only [Act.put, List.setIfInBounds_toArray, List.set_cons_zero, List.set_cons_succ] at hK
          go_simp
          go_at_call 23; refine (KN.out V hV).mono ?_; rintro e w2 ⟨rfl, hb2⟩; exact hK _ (hV.trans (hb2.mono hV.size))
        clear hHeld
        intro V1 hHeld
        try simp only [Act.put, List.setIfInBounds_toArray, List.set_cons_zero, List.set_cons_succ]
        refine wpAnyH_take (i := 20) (v := ?_) (by simp only [List.getElem?_toArray, List.getElem?_cons_zero, List.getElem?_cons_succ]; rfl) (by as_aux_lemma => kernel_rfl) (by as_aux_lemma => kernel_rfl) (by as_aux_lemma => kernel_rfl) (fun _ _ _ h => h) (Or.inl ⟨by rfl, ?_⟩) (by assumption) ?_
        rotate_left
        · intro V hV
          first | (go_simp; done) | (go_simp; with_reducible rfl)
        try simp only [Act.put, List.setIfInBounds_toArray, List.set_cons_zero, List.set_cons_succ]
        refine wpAnyH_take (i := 21) (v := ?_) (by simp only [List.getElem?_toArray, List.getElem?_cons_zero, List.getElem?_cons_succ]; rfl) (by as_aux_lemma => kernel_rfl) (by as_aux_lemma => kernel_rfl) (by as_aux_lemma => kernel_rfl) (fun _ _ _ h => h) (Or.inl ⟨by rfl, ?_⟩) (by assumption) ?_
        rotate_left
        · intro V hV
          first | (go_simp; done) | (go_simp; with_reducible rfl)
        try simp only [Act.put, List.setIfInBounds_toArray, List.set_cons_zero, List.set_cons_succ]
        refine wpAnyH_take (i := 22) (v := ?_) (by simp only [List.getElem?_toArray, List.getElem?_cons_zero, List.getElem?_cons_succ]; rfl) (by as_aux_lemma => kernel_rfl) (by as_aux_lemma => kernel_rfl) (by as_aux_lemma => kernel_rfl) (fun _ _ _ h => h) (Or.inl ⟨by rfl, ?_⟩) (by assumption) ?_
        rotate_left
        · intro V hV
          first | (go_simp; done) | (go_simp; with_reducible rfl)
        try simp only [Act.put, List.setIfInBounds_toArray, List.set_cons_zero, List.set_cons_succ]
        refine wpAnyH_one (i := 23) (vi := .bool true) (by simp only [List.getElem?_toArray, List.getElem?_cons_zero, List.getElem?_cons_succ]; rfl) (by as_aux_lemma => kernel_rfl) ?_ ?_ _ hHeld
        · intro V hV K hK
          try simp only [Act.put, List.setIfInBounds_toArray, List.set_cons_zero, List.set_cons_succ] at hK
          go_simp
          go_at_call 9; refine (wakes11 V).mono ?_; rintro e w2 ⟨rfl, hb2⟩; exact hK _ (hV.trans (hb2.mono hV.size))
        clear hHeld
        intro V1 hHeld
        try simp only [Act.put, List.setIfInBounds_toArray, List.set_cons_zero, List.set_cons_succ]
        refine wpAnyH_take (i := 24) (v := ?_) (by simp only [List.getElem?_toArray, List.getElem?_cons_zero, List.getElem?_cons_succ]; rfl) (by as_aux_lemma => kernel_rfl) (by as_aux_lemma => kernel_rfl) (by as_aux_lemma => kernel_rfl) (fun _ _ _ h => h) (Or.inl ⟨by rfl, ?_⟩) (by assumption) ?_
        rotate_left
        · intro V hV
          first | (go_simp; done) | (go_simp; with_reducible rfl)
        try simp only [Act.put, List.setIfInBounds_toArray, List.set_cons_zero, List.set_cons_succ]
        refine wpAnyH_take (i := 25) (v := ?_) (by simp only [List.getElem?_toArray, List.getElem?_cons_zero, List.getElem?_cons_succ]; rfl) (by as_aux_lemma => kernel_rfl) (by as_aux_lemma => kernel_rfl) (by as_aux_lemma => kernel_rfl) (fun _ _ _ h => h) (Or.inl ⟨by rfl, ?_⟩) (by assumption) ?_
        rotate_left
        · intro V hV
          first | (go_simp; done) | (go_simp; with_reducible rfl)
        try simp only [Act.put, List.setIfInBounds_toArray, List.set_cons_zero, List.set_cons_succ]
        refine wpAnyH_done (by kernel_rfl) ?_ _
        refine NoPanic.normal ?_
        go_wp2
        go_ret
        exact ⟨rfl, (HC5.out.below hHeld).bel⟩
      · have d1 : decide ((300 : Int) < (lb : Int)) = true := by simp; omega
        have d1' : decide (300 < lb) = true := by simp; omega
        go_wp2_with fail
        refine (wakes11 _).mono ?_
        rintro e w3 ⟨rfl, hb3⟩
        have hB3 := hB2.trans (hb3.mono hB2.size)
        go_wp2
        go_ret
        exact ⟨rfl, hB3⟩
end Go.Proofs.YtjfhefffbkpgkaaGreat
