/- Parts of the proof, one behind the other: EC, ED. No condition but what each theorem states. -/
import Derived.Test.YtbiinfnekhhfkaaGreatZS4
import Derived.Test.YtbiinfnekhhfkaaGreatZS13
import Derived.Test.YtbiinfnekhhfkaaGreatZS15
import Derived.Test.YtbiinfnekhhfkaaGreatZS16

/- stream's law: are a set or chunks too great to be asked? -/


namespace Go.Proofs.YtbiinfnekhhfkaaGreat
open Go.RowKit Go.Sort
set_option linter.unusedVariables false
set_option linter.unusedSimpArgs false

theorem flat_le (k : Nat) : ∀ (l : List (List Int)), (∀ x ∈ l, x.length ≤ k) → l.flatten.length ≤ l.length * k
  | [], _ => by simp
  | x :: l, h => by
    have h1 := h x (by simp)
    have h2 := flat_le k l (fun y hy => h y (List.mem_cons_of_mem _ hy))
    simp only [List.flatten_cons, List.length_append, List.length_cons, Nat.add_mul, Nat.one_mul]
    omega

theorem great_flat {css : List (List Int)} (h : greatP css = false) : css.length ≤ 80 ∧ (∀ x ∈ css, x.length ≤ 3000) ∧ css.flatten.length ≤ 240000 := by
  obtain ⟨h1, h2, _⟩ := gr8_bd h false
  have h3 := flat_le 3000 css h2
  have h4 : css.length * 3000 ≤ 80 * 3000 := Nat.mul_le_mul_right _ h1
  exact ⟨h1, h2, by omega⟩

theorem great14_false {wss css : List (List Int)} (h : great14 wss css = false) : greatP wss = false ∧ css.length ≤ 30 ∧ (∀ x ∈ css, x.length ≤ 3000) ∧ css.flatten.length ≤ 200 := by
  unfold great14 at h
  simp only [Bool.or_eq_false_iff, decide_eq_false_iff_not] at h
  obtain ⟨⟨⟨h1, h2⟩, h3⟩, h4⟩ := h
  exact ⟨h1, by omega, (great_flat h3).2.1, by omega⟩

theorem len_flat {css : List (List Int)} {x : List Int} (h : x ∈ css) : x.length ≤ css.flatten.length := by
  induction css with
  | nil => cases h
  | cons y l ih =>
    simp only [List.flatten_cons, List.length_append]
    rcases List.mem_cons.1 h with rfl | h
    · omega
    · have := ih h
      omega

theorem right_facts {fold : Bool} {wss : List (List Int)} (hr : rightP fold wss = true) : (nodesL wss).length ≤ 1000 ∧ ∀ (node : Int), ∀ v ∈ words13 wss node, I64 v := by
  have h1 : (nodesL wss).length ≤ 400 := read_n (readP_iff.2 ⟨right_false hr, rfl, rfl⟩)
  obtain ⟨g1, _, g3, _⟩ := right_spec hr
  exact ⟨by omega, fun node => words13_i64 (by omega) (right_nodup hr).1 (fun x hx => (g3 x hx).1) node⟩

/-- Feed over a machine of a set that may be. -/
theorem feed14_w {W0 V : World} {B : Nat} {fold : Bool} {wss : List (List Int)} (hU : MUse W0 B fold wss V) (hr : rightP fold wss = true) (z at_ : Int) (a : Option Addr) (n cn : Nat) (css : List (List Int)) (hC : Wds V a n css) (hn : n ≤ 1000000) (hT : css.flatten.length ≤ 1000000) :
    Calls Tryz.prog 55 #[.pointer (some ⟨B, 0, none⟩), scV z at_, .slice a n cn] V fun e w' => ∃ (a1 : Option Addr) (c1 : Nat), e = .returned (.tuple #[scV (fdZ fold wss z at_ css.flatten) (fdA wss z at_ css.flatten), .slice a1 (fdH fold wss z at_ css.flatten).length c1, .int .i64 (fdE wss z at_ css.flatten)]) ∧
      (fdH fold wss z at_ css.flatten).length ≤ c1 ∧ Hts w' a1 (fdH fold wss z at_ css.flatten).length (fdH fold wss z at_ css.flatten) ∧ OwnH w' V.heap.size (.slice a1 (fdH fold wss z at_ css.flatten).length c1) (fdH fold wss z at_ css.flatten) ∧ Below V.heap.size V w' := by
  obtain ⟨h1, h2⟩ := right_facts hr
  refine (feed14_uni z at_ a n cn css V hU hC hn (fun x hx => by have := len_flat hx; omega) hT h1 h2).mono ?_
  rintro e w' ⟨v, rfl, ho, hb⟩
  obtain ⟨a1, c1, rfl, hc, hs⟩ := ho.hts (fun h hh => (fdH_bd hr z at_ _ h hh).1)
  exact ⟨a1, c1, rfl, hc, hs, ho, hb⟩

/-- All over a machine of a set that may be. -/
theorem all14_w {W0 V : World} {B : Nat} {fold : Bool} {wss : List (List Int)} (hU : MUse W0 B fold wss V) (hr : rightP fold wss = true) (frm : Int) (a : Option Addr) (n cn : Nat) (css : List (List Int)) (hC : Wds V a n css) (hn : n ≤ 1000000) (hT : css.flatten.length ≤ 1000000) :
    Calls Tryz.prog 63 #[.pointer (some ⟨B, 0, none⟩), .int .i64 frm, .slice a n cn] V fun e w' => ∃ v, e = .returned (.tuple #[v, .int .i64 (if newE frm = 0 then fdE wss 0 frm css.flatten else 2)]) ∧ OwnH w' V.heap.size v (if newE frm = 0 then fdH fold wss 0 frm css.flatten else []) ∧ Below V.heap.size V w' := by
  obtain ⟨h1, h2⟩ := right_facts hr
  exact all14_run _ frm a n cn (fdZ fold wss 0 frm css.flatten) (fdA wss 0 frm css.flatten) (fdE wss 0 frm css.flatten) (fdH fold wss 0 frm css.flatten) V (fun _ V2 hV => feed14_uni 0 frm a n cn css V2 (hU.below hV) (hC.below hV) hn (fun x hx => by have := len_flat hx; omega) hT h1 h2)

theorem fd_occ {fold : Bool} {wss : List (List Int)} (hr : rightP fold wss = true) {frm : Int} (h0 : 0 ≤ frm) (h1 : frm ≤ 4611686018427387904) {F : List Int} (hF : F.length ≤ 1000000) :
    newE frm = 0 ∧ fdOK wss 0 frm F = true ∧ fdE wss 0 frm F = 0 ∧ fdH fold wss 0 frm F = occD fold wss frm F := by
  have hp : 0 < (nodesL wss).length := by
    have := nodesL_head wss
    exact (List.getElem?_eq_some_iff.1 this).1
  have hok : fdOK wss 0 frm F = true := by
    unfold fdOK scanR
    rw [decide_eq_true ⟨⟨Int.le_refl 0, by omega⟩, h0, by omega⟩, decide_eq_true (by omega : frm + (F.length : Int) ≤ 4611686020574871551)]
    rfl
  obtain ⟨g1, g2⟩ := right_nodup hr
  have g3 : ∀ y ∈ wss, y.length ≠ 0 := fun y hy => ((right_spec hr).2.2.1 y hy).1
  refine ⟨if_pos ⟨h0, h1⟩, hok, if_pos hok, ?_⟩
  unfold fdH
  rw [if_pos hok, occ_goes g1 g3 g2]
  exact scanH_goes g3 F frm (nodesL_head wss)

set_option maxRecDepth 100000 in
set_option maxHeartbeats 4000000 in
theorem great14_any (fold : Bool) (a b : Option Addr) (la ca lb cb : Nat) (wss css : List (List Int)) (w : World) (hA : Wds w a la wss) (hC : Wds w b lb css) :
    Calls Tryz.prog 53 #[.agg (setV fold a la ca), .slice b lb cb] w fun e w' => e = .returned (.bool (great14 wss css)) ∧ Below w.heap.size w w' := by
  obtain ⟨W, hW⟩ : ∃ W, W = w.alloc (.cells (setV fold a la ca) 24) := ⟨_, rfl⟩
  have hB : Below w.heap.size w W := by rw [hW]; exact below_alloc _ _
  have hO : Bx w.heap.size [.cells (setV fold a la ca) 24] W := by rw [hW]; exact (Bx.nil _ w).snoc _ rfl
  have s0 : W.cell? ⟨w.heap.size, 0, none⟩ = some (.bool fold) := hO.cell (i := 0) rfl rfl
  have s1 : W.cell? ⟨w.heap.size, 1, none⟩ = some (.slice a la ca) := hO.cell (i := 0) rfl rfl
  have hg := great5_any fold a la ca wss W (hA.below hB)
  have HE : Hid (great14 wss css = (greatP wss || decide (30 < css.length) || greatP css || decide (200 < css.flatten.length))) := rfl
  obtain ⟨E, hE⟩ : ∃ E, great14 wss css = E := ⟨_, rfl⟩
  rw [hE] at HE ⊢
  clear hE
  obtain ⟨G, hG⟩ : ∃ G, greatP wss = G := ⟨_, rfl⟩
  rw [hG] at hg HE
  have HG := Lib.hid hg
  have HC := Lib.hid (hC.below hB)
  have HCL := Lib.hid hC.len
  have HB := Lib.hid hB
  clear hg hA hO hG hC hB
  go_enter Tryz.func53, Tryz.ntmps53
  go_upto_region 1 with fail
  rw [← hW]
  clear hW
  go_wp2_with fail
  refine HG.out.mono ?_
  rintro e w1 ⟨rfl, hb1⟩
  have HB1 := Lib.hid (HB.out.trans (hb1.mono HB.out.size))
  have HC1 := Lib.hid (HC.out.below hb1)
  clear s0 s1 HG HC HB hb1
  cases G with
  | true =>
    go_wp2
    go_ret
    exact ⟨by rw [HE.out]; rfl, HB1.out⟩
  | false =>
    by_cases h30 : 30 < lb
    · have d1 : decide ((30 : Int) < (lb : Int)) = true := by simp; omega
      have d1' : decide (30 < lb) = true := by simp; omega
      go_wp2
      go_ret
      exact ⟨by rw [HE.out, HCL.out, d1']; rfl, HB1.out⟩
    · have d1 : decide ((30 : Int) < (lb : Int)) = false := by simp; omega
      have d1' : decide (30 < lb) = false := by simp; omega
      have H3 := great3_any b lb cb css w1 HC1.out
      obtain ⟨K, hK⟩ : ∃ K, greatP css = K := ⟨_, rfl⟩
      have HK := Lib.hid hK
      rw [hK] at H3 HE
      have H3 := Lib.hid H3
      clear hK
      go_wp2_with fail
      refine H3.out.mono ?_
      rintro e w2 ⟨rfl, rfl⟩
      clear H3
      cases K with
      | true =>
        go_wp2
        go_ret
        exact ⟨by rw [HE.out, HCL.out, d1']; rfl, HB1.out⟩
      | false =>
        have hf := (great_flat HK.out).2.2
        have H4 := join03_any b lb cb css w1 HC1.out (by omega) (by omega)
        obtain ⟨F, hF⟩ : ∃ F, css.flatten.length = F := ⟨_, rfl⟩
        rw [hF] at H4 HE hf
        have H4 := Lib.hid H4
        clear hF HK
        go_wp2_with fail
        refine H4.out.mono ?_
        rintro e w2 ⟨a1, c1, rfl, h1, _, hb2⟩
        have HB2 := Lib.hid (HB1.out.trans (hb2.mono HB1.out.size))
        have HE' : Hid (E = decide ((200 : Int) < (F : Int))) := by
          rw [Hid, HE.out, HCL.out, d1']
          simp only [Bool.false_or]
          by_cases h2 : 200 < F
          · rw [decide_eq_true h2, decide_eq_true (by omega)]
          · rw [decide_eq_false h2, decide_eq_false (by omega)]
        clear HE H4 hb2
        go_wp2
        go_ret
        exact ⟨by rw [HE'.out]; rfl, HB2.out⟩
end Go.Proofs.YtbiinfnekhhfkaaGreat

/- The law StreamOcc (layer 14): walked. Printed by exp.py. -/




namespace Go.Proofs.YtbiinfnekhhfkaaGreat
open Go.RowKit Go.Sort
set_option linter.unusedVariables false
set_option linter.unusedSimpArgs false

set_option maxRecDepth 100000 in
set_option maxHeartbeats 16000000 in
theorem streamOcc_walk (fold : Bool) (a : Option Addr) (la ca : Nat) (frm : Int) (b : Option Addr) (lb cb : Nat) (wss css : List (List Int)) (w : World) (hA : Wds w a la wss) (hC : Wds w b lb css) :
    Calls Tryz.prog 12 #[.agg (setV fold a la ca), .int .i64 frm, .slice b lb cb] w fun e w' => e = .returned (.bool true) ∧ Below w.heap.size w w' := by
  have HL := Lib.hid hA.len
  have HCL := Lib.hid hC.len
  obtain ⟨W, hW⟩ : ∃ W, W = w.alloc (.cells (setV fold a la ca) 24) := ⟨_, rfl⟩
  have hB : Below w.heap.size w W := by rw [hW]; exact below_alloc _ _
  have hO : Bx w.heap.size [.cells (setV fold a la ca) 24] W := by rw [hW]; exact (Bx.nil _ w).snoc _ rfl
  have s0 : W.cell? ⟨w.heap.size, 0, none⟩ = some (.bool fold) := hO.cell (i := 0) rfl rfl
  have s1 : W.cell? ⟨w.heap.size, 1, none⟩ = some (.slice a la ca) := hO.cell (i := 0) rfl rfl
  have KS : Hid (∀ V, RowKit.Below W.heap.size W V → V.cell? ⟨w.heap.size, 0, none⟩ = some (.bool fold) ∧ V.cell? ⟨w.heap.size, 1, none⟩ = some (.slice a la ca)) := fun V hV =>
    have h := hO.below hV
    ⟨h.cell (i := 0) rfl rfl, h.cell (i := 0) rfl rfl⟩
  have hg := great14_any fold a b la ca lb cb wss css W (hA.below hB) (hC.below hB)
  obtain ⟨G, hG⟩ : ∃ G, great14 wss css = G := ⟨_, rfl⟩
  rw [hG] at hg
  have HG := Lib.hid hg
  have HA := Lib.hid (hA.below hB)
  have HC := Lib.hid (hC.below hB)
  have HB := Lib.hid hB
  clear hg hA hC hB hO
  go_enter Tryz.func12, Tryz.ntmps12
  go_upto_region 1 with fail
  rw [← hW]
  clear hW
  go_wp2_with fail
  refine HG.out.mono ?_
  rintro e w1 ⟨rfl, hb1⟩
  clear s0 s1 HG
  cases G with
  | true =>
    go_wp2_with fail
    refine (wakes14 _).mono ?_
    rintro e w2 ⟨rfl, hb2⟩
    go_wp2
    go_ret
    exact ⟨rfl, HB.out.trans ((hb1.trans (hb2.mono hb1.size)).mono HB.out.size)⟩
  | false =>
    obtain ⟨k0, k1, k2, k3⟩ := great14_false hG
    obtain ⟨g1, g2, g3⟩ := gr8_bd k0 fold
    rw [HL.out] at g1
    rw [HCL.out] at k1
    have hM : ∀ x ∈ wss, x.length ≤ 1000000 := fun x hx => by have := g2 x hx; omega
    have HM := Lib.hid hM
    have hR := rright_any fold a la ca wss w1 (HA.out.below hb1) (by omega) hM
    rw [← right_eq] at hR
    have HR := Lib.hid hR
    have HT := Lib.hid k3
    have HBG : Hid ((begL fold wss).length ≤ 1000000) := by rw [Hid]; omega
    have hla : la ≤ 80 := g1
    have hlb : lb ≤ 30 := k1
    obtain ⟨s0, s1⟩ := KS.out w1 hb1
    clear hR hG k0 k1 k2 k3 g1 g2 g3 hM
    cases hr : rightP fold wss with
    | false =>
      rw [hr] at HR
      clear hr
      go_wp2_with fail
      refine HR.out.mono ?_
      rintro e w2 ⟨rfl, hb2⟩
      have hb12 := hb1.trans (hb2.mono hb1.size)
      clear s0 s1
      go_wp2_with fail
      refine (wakes14 _).mono ?_
      rintro e w3 ⟨rfl, hb3⟩
      go_wp2
      go_ret
      exact ⟨rfl, HB.out.trans ((hb12.trans (hb3.mono hb12.size)).mono HB.out.size)⟩
    | true =>
      rw [hr] at HR
      have HRT : Hid (rightP fold wss = true) := hr
      clear hr
      go_wp2_with fail
      refine HR.out.mono ?_
      rintro e w2 ⟨rfl, hb2⟩
      have hb12 := hb1.trans (hb2.mono hb1.size)
      clear s0 s1 HR hb1 hb2
      by_cases hf0 : frm < 0
      · have d1 : decide (frm < (0 : Int)) = true := by simp; omega
        go_wp2_with fail
        refine (wakes14 _).mono ?_
        rintro e w3 ⟨rfl, hb3⟩
        go_wp2
        go_ret
        exact ⟨rfl, HB.out.trans ((hb12.trans (hb3.mono hb12.size)).mono HB.out.size)⟩
      · by_cases hf1 : 4611686018427387904 < frm
        · have d1 : decide (frm < (0 : Int)) = false := by simp; omega
          have d2 : decide ((4611686018427387904 : Int) < frm) = true := by simp; omega
          go_wp2_with fail
          refine (wakes14 _).mono ?_
          rintro e w3 ⟨rfl, hb3⟩
          go_wp2
          go_ret
          exact ⟨rfl, HB.out.trans ((hb12.trans (hb3.mono hb12.size)).mono HB.out.size)⟩
        · have d1 : decide (frm < (0 : Int)) = false := by simp; omega
          have d2 : decide ((4611686018427387904 : Int) < frm) = false := by simp; omega
          have HM3 := Lib.hid (compile13_use fold a la ca wss w2 (HA.out.below hb12) (by omega) HM.out HBG.out HRT.out)
          obtain ⟨q1, q2, q3, q4⟩ := fd_occ (F := css.flatten) HRT.out (by omega : 0 ≤ frm) (by omega) (by have := HT.out; omega)
          have hmay : mayP fold wss frm = true := by
            have h := HRT.out
            unfold mayP
            rw [h, Bool.and_true]
            exact decide_eq_true ⟨by omega, by omega⟩
          have HMAY := Lib.hid hmay
          obtain ⟨s0, s1⟩ := KS.out w2 hb12
          have HAL := Lib.hid (fun (V : World) (B : Nat) (hU : MUse w2 B fold wss V) (hV : RowKit.Below W.heap.size W V) => by
            have h := all14_w hU HRT.out frm b lb cb css (HC.out.below hV) (by omega) (by have := HT.out; omega)
            rw [if_pos q1, if_pos q1, q3, q4] at h
            exact h)
          have hID : ∀ h ∈ occD fold wss frm css.flatten, I64 h.1 ∧ I64 h.2 := fun h hh => by
            rw [← q4] at hh
            exact (fdH_bd HRT.out 0 frm css.flatten h hh).1
          have hDL : (occD fold wss frm css.flatten).length ≤ 1000000000 := by
            rw [← q4]
            have h := fdH_len HRT.out 0 frm css.flatten
            have := HT.out
            omega
          clear q1 q2 q3 q4 hmay
          go_upto_region 4 with (go_at_call 17; refine HM3.out.mono ?_; rintro e w3 ⟨B, rfl, hU3⟩)
          have hb13 := hb12.trans (hU3.bel.mono hb12.size)
          have H4 := Lib.hid (HAL.out w3 B hU3 hb13)
          clear s0 s1 HM3 HAL hb12
          obtain ⟨D, hD⟩ : ∃ D, occD fold wss frm css.flatten = D := ⟨_, rfl⟩
          rw [hD] at H4 hID hDL
          obtain ⟨N, hN⟩ : ∃ N, css.flatten.length = N := ⟨_, rfl⟩
          have hNT : N ≤ 200 := by rw [← hN]; exact HT.out
          obtain ⟨n, hn⟩ : ∃ n, D.length = n := ⟨_, rfl⟩
          have KOC : Hid (∀ (V : World) (a6 : Option Addr) (c6 : Nat), RowKit.Below W.heap.size W V → N ≤ c6 → Bys V a6 N css.flatten →
              Calls Tryz.prog 50 #[.agg (setV fold a la ca), .int .i64 frm, .slice a6 N c6] V fun e w' => ∃ (a : Option Addr) (c : Nat), e = .returned (.tuple #[.slice a n c, .int .i64 0]) ∧ Hts w' a n D ∧ RowKit.Below V.heap.size V w') := fun V a6 c6 hV hc hs => by
            refine (rocc_yes fold a a6 la ca N c6 frm css.flatten wss V (HA.out.below hV) hs (by omega) (by omega) hc HM.out HMAY.out).mono ?_
            rintro e w' ⟨v, rfl, ho, hb⟩
            rw [hD] at ho
            obtain ⟨a1, c1, rfl, _, h1⟩ := ho.hts hID
            rw [hn] at h1 ⊢
            exact ⟨a1, c1, rfl, h1, hb⟩
          have KJ : Hid (∀ V, RowKit.Below W.heap.size W V → Calls Tryz.prog 64 #[.slice b lb cb] V fun e w' => ∃ (a1 : Option Addr) (c1 : Nat), e = .returned (.slice a1 N c1) ∧ N ≤ c1 ∧ Bys w' a1 N css.flatten ∧ RowKit.Below V.heap.size V w') := fun V hV => by
            have h := join03_any b lb cb css V (HC.out.below hV) (by omega) (by omega)
            rw [hN] at h
            exact h
          have HID := Lib.hid hID
          have HND : Hid (D.length = n) := hn
          have hnl : n ≤ 1000000000 := by rw [← hn]; exact hDL
          clear hD hN hID hDL hn
          go_upto_region 5 with (go_at_call 63; refine H4.out.mono ?_; rintro e w4 ⟨v4, rfl, ho4, hb4⟩; obtain ⟨a4, c4, rfl, hc4, hs4⟩ := ho4.hts HID.out)
          rw [HND.out] at hs4 ho4 hc4 ⊢
          have hb14 := hb13.trans (hb4.mono hb13.size)
          have HB4 : Hid (∀ V, RowKit.Below w4.heap.size w4 V → RowKit.Below W.heap.size W V) := fun V hV => hb14.trans (hV.mono hb14.size)
          have HS4 := Lib.hid hs4
          clear ho4 hs4 hb4 hb14 hb13 H4 hU3
          refine wp_region_noPanic ?_
          refine wp_region_held_drew (S := RowKit.Below w4.heap.size w4) (by kernel_rfl) (bel_drewN w4 1) (fun hS => ?_)
          obtain ⟨w5, hw5⟩ : ∃ X, X = w4.drew := ⟨_, rfl⟩
          rw [← hw5] at hS ⊢
          clear hw5
          change wpAnyH _ _ _ _ _ 10 _ _ _
          refine tkW 0 (v := ?_) ?_ ?_
          rotate_left
          · intro V hV
            obtain ⟨q0, q1⟩ := KS.out V (HB4.out V hV)
            first | (go_simp; done) | (go_simp; with_reducible rfl)
          try simp only [Act.put, pA, pB, pC]
          iterate 2 (refine tkF 9 (v := ?_) ?_ ?_; rotate_left; (· intro V hV; first | (go_simp; done) | (go_simp; with_reducible rfl)); try simp only [Act.put, pA, pB, pC])
          refine rdy 3 (fun K hK => ?_)
          go_simp
          go_at_call 64; refine (KJ.out w5 (HB4.out w5 hS)).mono ?_; rintro e w6 ⟨a6, c6, rfl, hc6, hs6, hb6⟩
          refine hK.out _ _ (hS.trans (hb6.mono hS.size)) (fun hS6 => ?_)
          clear hK K
          try simp only [Act.put, pA, pB, pC]
          refine rdy 4 (fun K hK => ?_)
          go_simp
          go_at_call 50; refine (KOC.out w6 a6 c6 (HB4.out w6 hS6) hc6 hs6).mono ?_; rintro e w7 ⟨a7, c7, rfl, hs7, hb7⟩
          refine hK.out _ _ (hS6.trans (hb7.mono hS6.size)) (fun hS7 => ?_)
          clear hK K
          try simp only [Act.put, pA, pB, pC]
          iterate 5 (refine tkF 9 (v := ?_) ?_ ?_; rotate_left; (· intro V hV; first | (go_simp; done) | (go_simp; with_reducible rfl)); try simp only [Act.put, pA, pB, pC])
          refine wpAnyH_done (by kernel_rfl) ?_ _
          refine NoPanic.normal ?_
          have H7 := Lib.hid (rsame6_any a4 a7 n c4 n c7 D D w7 (HS4.out.below hS7) hs7 (by omega))
          rw [decide_eq_true rfl] at H7
          clear hs6 hs7 hb6 hb7 KOC KJ
          go_wp2_with fail
          refine H7.out.mono ?_
          rintro e w8 ⟨rfl, hb8⟩
          have hS8 := hS7.trans (hb8.mono hS7.size)
          go_wp2_with fail
          refine (wakes14 _).mono ?_
          rintro e w9 ⟨rfl, hb9⟩
          have hS9 := HB4.out w9 (hS8.trans (hb9.mono hS8.size))
          go_wp2
          go_ret
          exact ⟨rfl, HB.out.trans (hS9.mono HB.out.size)⟩
end Go.Proofs.YtbiinfnekhhfkaaGreat
