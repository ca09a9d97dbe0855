/- Parts of the proof, one behind the other: T3, T4. No condition but what each theorem states. -/
import Derived.IntWalk
import Derived.Test.YtmpmjkbjnklgfaaQ12

/- The law that parts all hits (layer 6), walked. -/



namespace Go.Proofs.Ytmpmjkbjnklgfaa
open Go.RowKit Go.Sort
set_option linter.unusedVariables false
set_option linter.unusedSimpArgs false

theorem Bys.take {w : World} {a : Option Addr} {n : Nat} {l : List Int} (h : Bys w a n l) {m : Nat} (hm : m ≤ n) : Bys w a m (l.take m) := by
  refine ⟨⟨by rw [List.length_take, h.len]; omega, ?_⟩, fun x hx => h.2 x (List.mem_of_mem_take hx)⟩
  by_cases h0 : m = 0
  · exact .inl h0
  · right
    obtain ⟨b, off, rfl, hlt, hcell⟩ := h.1.2.resolve_left (by omega)
    refine ⟨b, off, rfl, hlt, fun i u hu => hcell i u ?_⟩
    rw [List.getElem?_take] at hu
    split at hu
    · exact hu
    · cases hu
theorem Bys.drop {w : World} {a : Option Addr} {n : Nat} {l : List Int} (h : Bys w a n l) {m : Nat} (hm : m ≤ n) : Bys w (a.map (·.add m)) (n - m) (l.drop m) := by
  have hc := h.cut (lo := m) (m := n - m) (by omega)
  rwa [List.take_of_length_le (by rw [List.length_drop, h.len]; exact Nat.le_refl _)] at hc
theorem Bys.rest {V : World} {b : Option Addr} {lb cb n : Nat} {l : List Int} (h : Bys V b lb l) (hn : n ≤ lb) (hcb : lb ≤ cb) : Bys V (if cb = n then b else Option.map (fun x => x.add n) b) (lb - n) (l.drop n) := by
  split
  · have e : l.drop n = [] := List.drop_eq_nil_of_le (by rw [h.len]; omega)
    rw [e, show lb - n = 0 by omega]
    exact Bys.nil _ _
  · exact h.drop hn
theorem occ_t (fold : Bool) (a b : Option Addr) (la ca lb cb : Nat) (frm : Int) (text : List Int) (wss : List (List Int)) (w : World) (hA : Wds w a la wss) (hL : Bys w b lb text) (hla : la ≤ 1000) (hlb : lb ≤ 1000000) (hcb : lb ≤ cb) (hM : ∀ x ∈ wss, x.length ≤ 1000000) (hT : (begL fold wss).length ≤ 1000000) (hm : mayP fold wss frm = true) :
    Calls Try.prog 28 #[.agg (setV fold a la ca), .int .i64 frm, .slice b lb cb] w fun e w' => ∃ (a1 : Option Addr) (c1 : Nat), e = .returned (.tuple #[.slice a1 (occD fold wss frm text).length c1, .int .i64 0]) ∧ (occD fold wss frm text).length ≤ c1 ∧ Hts w' a1 (occD fold wss frm text).length (occD fold wss frm text) ∧ Below w.heap.size w w' := by
  have h := occ_c fold a b la ca lb cb frm text wss w hA hL hla hlb hcb hM hT
  have e1 : occL fold wss frm text = occD fold wss frm text := by simp [occL, hm]
  have e2 : occE fold wss frm = 0 := by simp [occE, hm]
  rwa [e1, e2] at h
theorem bel_drewN (W : World) (n : Nat) : Below W.heap.size W (W.drewN n) := ⟨rfl, rfl, rfl, Nat.le_refl _, fun _ _ => rfl⟩
theorem longL_le {wss : List (List Int)} {M : Nat} : (∀ x ∈ wss, x.length ≤ M) → longL wss ≤ M := by
  refine snoc_ind (P := fun wss => (∀ x ∈ wss, x.length ≤ M) → longL wss ≤ M) (fun _ => by simp [longL]) (fun l x ih h => ?_) wss
  rw [longL_snoc]
  have h1 := ih (fun y hy => h y (by simp [hy]))
  have h2 := h x (by simp)
  omega
theorem mayP_of {fold : Bool} {wss : List (List Int)} {frm : Int} (h : rightR fold wss = true) (h0 : 0 ≤ frm) (h1 : frm ≤ 4611686018427387904) : mayP fold wss frm = true := by
  unfold mayP; rw [right_eq, h, decide_eq_true ⟨h0, h1⟩]; rfl
theorem occD_le (fold : Bool) (wss : List (List Int)) (frm : Int) (text : List Int) : (occD fold wss frm text).length ≤ (text.length + 1) * wss.length := occTo_le _ _ _ _ _
theorem occD_small {fold : Bool} {wss : List (List Int)} {frm : Int} {text : List Int} (h1 : text.length ≤ 300) (h2 : wss.length ≤ 80) : (occD fold wss frm text).length ≤ 301 * 80 := by
  have h3 := occD_le fold wss frm text
  have h4 : (text.length + 1) * wss.length ≤ 301 * 80 := Nat.mul_le_mul (by omega) h2
  omega

set_option maxRecDepth 100000 in
set_option maxHeartbeats 8000000 in
theorem occParts_walk (fold : Bool) (a b : Option Addr) (la ca lb cb : Nat) (frm at_ : Int) (text : List Int) (wss : List (List Int)) (w : World) (hA : Wds w a la wss) (hT : Bys w b lb text) (hcb : lb ≤ cb) (hcb2 : cb ≤ 9223372036854775807) (ha : -9223372036854775808 ≤ at_ ∧ at_ ≤ 9223372036854775807) :
    Calls Try.prog 7 #[.agg (setV fold a la ca), .int .i64 frm, .slice b lb cb, .int .i64 at_] w fun e w' => e = .returned (.bool true) ∧ Below w.heap.size w w' := by
  obtain ⟨W1, hW1⟩ : ∃ W1, W1 = w.alloc (.cells (setV fold a la ca) 39) := ⟨_, rfl⟩
  have hB1 : Below w.heap.size w W1 := by rw [hW1]; exact below_alloc _ _
  have hO1 : Bx w.heap.size [.cells (setV fold a la ca) 39] W1 := by rw [hW1]; exact (Bx.nil _ w).snoc _ rfl
  have HGC := Lib.hid (great5_any fold a la ca wss W1 (hA.below hB1))
  have c0 : W1.cell? ⟨w.heap.size, 0, none⟩ = some (.bool fold) := hO1.cell (i := 0) rfl rfl
  have c1 : W1.cell? ⟨w.heap.size, 1, none⟩ = some (.slice a la ca) := hO1.cell (i := 0) rfl rfl
  have HTL := Lib.hid hT.len
  cases hg : greatP wss with
  | true =>
    have HG := Lib.hid hg
    clear hg
    go_enter Try.func7, Try.ntmps7
    go_wp2_with fail
    rw [← hW1]
    refine HGC.out.mono ?_
    rintro e w2 ⟨rfl, hb⟩
    rw [HG.out]
    have hB2 : RowKit.Below w.heap.size w w2 := hB1.trans (hb.mono hB1.size)
    have hO2 := hO1.below hb
    clear c0 c1 hb
    go_wp2_with fail
    refine (wakes6 w2).mono ?_
    rintro e w9 ⟨rfl, hb9⟩
    go_wp2
    go_ret
    exact ⟨rfl, hB2.trans (hb9.mono hB2.size)⟩
  | false =>
    obtain ⟨g1, g2, g3⟩ := great_bd hg fold
    have HG := Lib.hid hg
    have hla : la ≤ 1000 := by rw [← hA.len]; omega
    have HM := Lib.hid (show ∀ x ∈ wss, x.length ≤ 1000000 from fun z hz => by have := g2 z hz; omega)
    have hBL : (begL fold wss).length ≤ 1000000 := by omega
    clear hg g2
    cases hr : rightR fold wss with
    | false =>
      have HR := Lib.hid hr
      clear hr
      go_enter Try.func7, Try.ntmps7
      go_wp2_with fail
      rw [← hW1]
      refine HGC.out.mono ?_
      rintro e w2 ⟨rfl, hb⟩
      rw [HG.out]
      have hB2 : RowKit.Below w.heap.size w w2 := hB1.trans (hb.mono hB1.size)
      have hO2 := hO1.below hb
      clear c0 c1 hb
      have c0 : w2.cell? ⟨w.heap.size, 0, none⟩ = some (.bool fold) := hO2.cell (i := 0) rfl rfl
      have c1 : w2.cell? ⟨w.heap.size, 1, none⟩ = some (.slice a la ca) := hO2.cell (i := 0) rfl rfl
      go_wp2_with fail
      refine (rright_any fold a la ca wss w2 (hA.below hB2) (by omega) HM.out).mono ?_
      rintro e w3 ⟨rfl, hb⟩
      rw [HR.out]
      have hB3 : RowKit.Below w.heap.size w w3 := hB2.trans (hb.mono hB2.size)
      have hO3 := hO2.below hb
      clear c0 c1 hb hO2
      go_wp2_with fail
      refine (wakes6 w3).mono ?_
      rintro e w9 ⟨rfl, hb9⟩
      go_wp2
      go_ret
      exact ⟨rfl, hB3.trans (hb9.mono hB3.size)⟩
    | true =>
      have HR := Lib.hid hr
      clear hr
      by_cases hf0 : 0 ≤ frm
      · by_cases hf1 : frm ≤ 4611686018427387604
        · by_cases h300 : lb ≤ 300
          · have HA := Lib.hid hA.len
            obtain ⟨n, hn, hnl⟩ : ∃ n : Nat, min (max at_ 0) (lb : Int) = n ∧ n ≤ lb := ⟨(min (max at_ 0) (lb : Int)).toNat, by omega, by omega⟩
            have HN := Lib.hid hn
            have hlg := (longL_mem wss).1
            have hlg2 : longL wss ≤ 1000000 := longL_le HM.out
            obtain ⟨q, hq⟩ : ∃ q : Nat, min (max (longL wss - 1) 0) (n : Int) = q := ⟨(min (max (longL wss - 1) 0) (n : Int)).toNat, by omega⟩
            have hqn : q ≤ n := by omega
            have hwq : q = n ∨ longL wss - 1 ≤ q ∧ q ≤ n := by omega
            have HQ := Lib.hid hq
            have HPA := Lib.hid (occ_parts fold wss frm text n q (by rw [HTL.out]; exact hnl) hwq)
            have HPB := Lib.hid (betw_first fold wss frm text n (by rw [HTL.out]; exact hnl))
            obtain ⟨L, hL⟩ : ∃ L, L = longL wss := ⟨_, rfl⟩
            rw [← hL] at hq hlg hlg2
            have HQL := Lib.hid hq
            have HLL := Lib.hid hL
            obtain ⟨d, hd⟩ : ∃ d, d = n - q := ⟨_, rfl⟩
            obtain ⟨G, hG⟩ : ∃ G, G = frm + (n : Int) - (q : Int) := ⟨_, rfl⟩
            have hG0 : 0 ≤ G := by omega
            have hG1 : G ≤ 4611686018427387904 := by omega
            have hdl : d ≤ lb := by omega
            obtain ⟨D, hD⟩ : ∃ D, occD fold wss frm text = D := ⟨_, rfl⟩
            obtain ⟨D1, hD1⟩ : ∃ D, occD fold wss frm (text.take n) = D := ⟨_, rfl⟩
            obtain ⟨D2, hD2⟩ : ∃ D, occD fold wss G (text.drop d) = D := ⟨_, rfl⟩
            have hDl : D.length ≤ 301 * 80 := by rw [← hD]; exact occD_small (by rw [HTL.out]; exact h300) g1
            have hD1l : D1.length ≤ 301 * 80 := by rw [← hD1]; exact occD_small (by rw [List.length_take, HTL.out]; omega) g1
            have hD2l : D2.length ≤ 301 * 80 := by rw [← hD2]; exact occD_small (by rw [List.length_drop, HTL.out]; omega) g1
            have HDB := Lib.hid (occD_bd (fold := fold) (wss := wss) (frm := frm) (text := text) hf0 (by omega) (by rw [HTL.out]; omega) (by omega))
            have HD1B := Lib.hid (occD_bd (fold := fold) (wss := wss) (frm := frm) (text := text.take n) hf0 (by omega) (by rw [List.length_take, HTL.out]; omega) (by omega))
            have HD2B := Lib.hid (occD_bd (fold := fold) (wss := wss) (frm := G) (text := text.drop d) hG0 hG1 (by rw [List.length_drop, HTL.out]; omega) (by omega))
            have HPA2 : Hid (D1 ++ betwH (frm + n) (frm + lb) D2 = D) := by rw [Hid, ← hD, HPA.out, HTL.out, hD1, ← hG, ← hd, hD2]
            have HPB2 : Hid (betwH (frm - 1) (frm + n) D = D1) := by rw [Hid, ← hD1, HPB.out, hD]
            have k0 := fun (W : World) (hB : Below w.heap.size w W) => occ_t fold a b la ca lb cb frm text wss W (hA.below hB) (hT.below hB) hla (by omega) hcb HM.out hBL (mayP_of HR.out hf0 (by omega))
            have k1 := fun (W : World) (hB : Below w.heap.size w W) => occ_t fold a b la ca n cb frm (text.take n) wss W (hA.below hB) ((hT.below hB).take hnl) hla (by omega) (by omega) HM.out hBL (mayP_of HR.out hf0 (by omega))
            have k2 := fun (W : World) (hB : Below w.heap.size w W) => occ_t fold a _ la ca (lb - d) (cb - d) G (text.drop d) wss W (hA.below hB) ((hT.below hB).rest hdl hcb) hla (by omega) (by omega) HM.out hBL (mayP_of HR.out hG0 hG1)
            rw [hD] at k0 HDB
            rw [hD1] at k1 HD1B
            rw [hD2] at k2 HD2B
            have K0 := Lib.hid k0
            have K1 := Lib.hid k1
            have K2 := Lib.hid k2
            have EG := Lib.hid hG
            have ED := Lib.hid hd
            clear hn hq hL hwq hD hD1 hD2 k0 k1 k2 hG hd HPA HPB
            go_enter Try.func7, Try.ntmps7
            go_wp2_with fail
            rw [← hW1]
            refine HGC.out.mono ?_
            rintro e w2 ⟨rfl, hb⟩
            rw [HG.out]
            have hB2 : RowKit.Below w.heap.size w w2 := hB1.trans (hb.mono hB1.size)
            have hO2 := hO1.below hb
            clear c0 c1 hb
            have c0 : w2.cell? ⟨w.heap.size, 0, none⟩ = some (.bool fold) := hO2.cell (i := 0) rfl rfl
            have c1 : w2.cell? ⟨w.heap.size, 1, none⟩ = some (.slice a la ca) := hO2.cell (i := 0) rfl rfl
            go_wp2_with fail
            refine (rright_any fold a la ca wss w2 (hA.below hB2) (by omega) HM.out).mono ?_
            rintro e w3 ⟨rfl, hb⟩
            rw [HR.out]
            have hB3 : RowKit.Below w.heap.size w w3 := hB2.trans (hb.mono hB2.size)
            have hO3 := hO2.below hb
            clear c0 c1 hb hO2
            have c0 : w3.cell? ⟨w.heap.size, 0, none⟩ = some (.bool fold) := hO3.cell (i := 0) rfl rfl
            have c1 : w3.cell? ⟨w.heap.size, 1, none⟩ = some (.slice a la ca) := hO3.cell (i := 0) rfl rfl
            go_upto_region 4 with fail
            rw [HN.out]
            go_wp2_with fail
            refine (longest_any fold a la ca wss w3 (hA.below hB3) (by omega)).mono ?_
            rintro e w4 ⟨rfl, hb⟩
            rw [← HLL.out]
            have hB4 : RowKit.Below w.heap.size w w4 := hB3.trans (hb.mono hB3.size)
            have hO4 := hO3.below hb
            clear c0 c1 hb hO3 hB3
            have c0 : w4.cell? ⟨w.heap.size, 0, none⟩ = some (.bool fold) := hO4.cell (i := 0) rfl rfl
            have c1 : w4.cell? ⟨w.heap.size, 1, none⟩ = some (.slice a la ca) := hO4.cell (i := 0) rfl rfl
            go_upto_region 5 with fail
            rw [HQL.out]
            go_wp2_with fail
            refine (K0.out _ hB4).mono ?_
            rintro e w5 ⟨b1, c1', rfl, hc1, hX1, hb⟩
            have hB5 : RowKit.Below w.heap.size w w5 := hB4.trans (hb.mono hB4.size)
            have hO5 := hO4.below hb
            clear c0 c1 hb hO4 hB4
            have c0 : w5.cell? ⟨w.heap.size, 0, none⟩ = some (.bool fold) := hO5.cell (i := 0) rfl rfl
            have c1 : w5.cell? ⟨w.heap.size, 1, none⟩ = some (.slice a la ca) := hO5.cell (i := 0) rfl rfl
            have hncb : (n : Int) ≤ cb := by omega
            have hncb2 : n ≤ cb := by omega
            go_upto_region 6 with fail
            have hbd5 : RowKit.Below w.heap.size w w5.drew := hB5.trans ((below_drew w5).mono hB5.size)
            have HK1 := Lib.hid (K1.out w5.drew hbd5)
            go_cut [12, 13] (fun s12 s13 wx => ∃ (b2 : Option Addr) (c2' : Nat), s12 = .slice b2 D1.length c2' ∧ s13 = .int .i64 0 ∧ D1.length ≤ c2' ∧ Hts wx b1 D.length D ∧ Hts wx b2 D1.length D1 ∧ RowKit.Below w.heap.size w wx ∧ Bx w.heap.size [.cells (setV fold a la ca) 39] wx)
            case first =>
              go_region_with (go_at_call 28; refine HK1.out.mono ?_; rintro e w6 ⟨b2, c2', rfl, hc2, hX2, hb⟩)
              all_goals
                have hX1 := (hX1.below (below_drew w5)).below hb
                have hB6 : RowKit.Below w.heap.size w w6 := hbd5.trans (hb.mono hbd5.size)
                have hO6 := (hO5.below (below_drew w5)).below hb
                clear c0 c1 hb hO5 hB5 hbd5
                go_wp2_with fail
                go_meet
                exact ⟨_, _, rfl, rfl, hc2, hX1, hX2, hB6, hO6⟩
            case rest =>
            clear hX1 c0 c1 hO5 hB5 hbd5 HK1
            obtain ⟨b2, c2', rfl, rfl, hc2, hX1, hX2, hB6, hO6⟩ := hcut
            obtain ⟨w6, rfl⟩ : ∃ w6 : World, w6 = wc := ⟨_, rfl⟩
            have c0 : w6.cell? ⟨w.heap.size, 0, none⟩ = some (.bool fold) := hO6.cell (i := 0) rfl rfl
            have c1 : w6.cell? ⟨w.heap.size, 1, none⟩ = some (.slice a la ca) := hO6.cell (i := 0) rfl rfl
            have hdcb : (d : Int) ≤ cb := by omega
            have hdlb : (d : Int) ≤ lb := by omega
            have hdcb2 : d ≤ cb := by omega
            have hbd6 : RowKit.Below w.heap.size w w6.drew := hB6.trans ((below_drew w6).mono hB6.size)
            have hk2 := K2.out w6.drew hbd6
            have e1 : IntKind.i64.wrap (frm + (n : Int)) = frm + n := IntWalk.i64_in _ (by omega)
            have e2 : IntKind.i64.wrap (frm + (n : Int) - q) = G := by rw [IntWalk.i64_in _ (by omega)]; exact EG.out.symm
            have e3 : IntKind.i64.wrap ((n : Int) - q) = d := by rw [IntWalk.i64_in _ (by omega)]; have := ED.out; omega
            go_upto_region 7 with fail
            go_cut [14, 15] (fun s14 s15 wx => ∃ (b3 : Option Addr) (c3' : Nat), s14 = .slice b3 D2.length c3' ∧ s15 = .int .i64 0 ∧ D2.length ≤ c3' ∧ Hts wx b1 D.length D ∧ Hts wx b2 D1.length D1 ∧ Hts wx b3 D2.length D2 ∧ RowKit.Below w.heap.size w wx)
            case first =>
              by_cases hcd : cb = d
              · obtain rfl : d = cb := hcd.symm
                obtain rfl : lb = _ := Nat.le_antisymm hcb hdl
                rw [if_pos rfl, Nat.sub_self] at hk2
                have HK2 := Lib.hid hk2
                clear hk2
                go_region_with (go_at_call 28; refine HK2.out.mono ?_; rintro e w7 ⟨b3, c3', rfl, hc3, hX3, hb⟩)
                all_goals
                  have hX1 := (hX1.below (below_drew w6)).below hb
                  have hX2 := (hX2.below (below_drew w6)).below hb
                  have hB7 : RowKit.Below w.heap.size w w7 := hbd6.trans (hb.mono hbd6.size)
                  clear c0 c1 hb hO6 hB6 hbd6 e1 e2 e3
                  go_wp2_with fail
                  go_meet
                  exact ⟨_, _, rfl, rfl, hc3, hX1, hX2, hX3, hB7⟩
              · rw [if_neg hcd] at hk2
                have HK2 := Lib.hid hk2
                clear hk2
                go_region_with (go_at_call 28; refine HK2.out.mono ?_; rintro e w7 ⟨b3, c3', rfl, hc3, hX3, hb⟩)
                all_goals
                  have hX1 := (hX1.below (below_drew w6)).below hb
                  have hX2 := (hX2.below (below_drew w6)).below hb
                  have hB7 : RowKit.Below w.heap.size w w7 := hbd6.trans (hb.mono hbd6.size)
                  clear c0 c1 hb hO6 hB6 hbd6 e1 e2 e3
                  go_wp2_with fail
                  go_meet
                  exact ⟨_, _, rfl, rfl, hc3, hX1, hX2, hX3, hB7⟩
            case rest =>
            clear hX1 hX2 c0 c1 hO6 hB6 hbd6 hk2 e1 e2 e3
            obtain ⟨b3, c3', rfl, rfl, hc3, hX1, hX2, hX3, hB7⟩ := hcut
            go_upto_region 8 with fail
            go_wp2_with fail
            refine (between_h (frm + n) (frm + lb) b3 D2.length c3' D2 _ hX3 (by omega)).mono ?_
            rintro e w8 ⟨v, rfl, ho, hb⟩
            obtain ⟨b4, c4', rfl, _, hX4⟩ := ho.hts (betwH_bd HD2B.out)
            have hB8 : RowKit.Below w.heap.size w w8 := hB7.trans (hb.mono hB7.size)
            have hX1 := hX1.below hb
            have hX2 := hX2.below hb
            clear hb ho hX3 hB7
            have hbl : (betwH (frm + n) (frm + lb) D2).length ≤ 301 * 80 := by have := List.length_filter_le (fun h : HitP => decide (frm + n < h.1) && decide (h.1 ≤ frm + lb)) D2; unfold betwH; omega
            go_wp2_with fail
            refine (join_h _ 2 2 [D1, betwH (frm + n) (frm + lb) D2] _ (hss2 _ hX2 hX4) (by decide) (by simp; omega)).mono ?_
            rintro e w9 ⟨v, rfl, ho, hb⟩
            have e1 : [D1, betwH (frm + n) (frm + lb) D2].flatten = D := by rw [← HPA2.out]; simp
            rw [e1] at ho
            obtain ⟨b5, c5', rfl, _, hX5⟩ := ho.hts HDB.out
            have hB9 : RowKit.Below w.heap.size w w9 := (hB8.alloc hB8.size _).trans (hb.mono (hB8.alloc hB8.size _).size)
            have hX1 := (hX1.below (below_alloc _ _)).below hb
            have hX2 := (hX2.below (below_alloc _ _)).below hb
            clear hb ho hX4 hB8 e1
            go_wp2_with fail
            refine (rsame6_any b1 b5 _ c1' _ c5' D D _ hX1 hX5 (by omega)).mono ?_
            rintro e w10 ⟨rfl, hb⟩
            rw [decide_eq_true (rfl : D = D)]
            have hB10 : RowKit.Below w.heap.size w w10 := hB9.trans (hb.mono hB9.size)
            have hX1 := hX1.below hb
            have hX2 := hX2.below hb
            clear hb hX5 hB9
            go_wp2_with fail
            refine (between_h (frm - 1) (frm + n) b1 D.length c1' D _ hX1 (by omega)).mono ?_
            rintro e w11 ⟨v, rfl, ho, hb⟩
            rw [HPB2.out] at ho
            obtain ⟨b6, c6', rfl, _, hX6⟩ := ho.hts HD1B.out
            have hB11 : RowKit.Below w.heap.size w w11 := hB10.trans (hb.mono hB10.size)
            have hX2 := hX2.below hb
            clear hb ho hX1 hB10
            go_wp2_with fail
            refine (rsame6_any b2 b6 _ c2' _ c6' D1 D1 _ hX2 hX6 (by omega)).mono ?_
            rintro e w12 ⟨rfl, hb⟩
            rw [decide_eq_true (rfl : D1 = D1)]
            have hB12 : RowKit.Below w.heap.size w w12 := hB11.trans (hb.mono hB11.size)
            clear hb hX2 hX6 hB11
            go_wp2_with fail
            refine (wakes6 _).mono ?_
            rintro e w13 ⟨rfl, hb⟩
            go_wp2
            go_ret
            exact ⟨rfl, hB12.trans (hb.mono hB12.size)⟩
          · have h300' : ¬ lb ≤ 300 := h300
            go_enter Try.func7, Try.ntmps7
            go_wp2_with fail
            rw [← hW1]
            refine HGC.out.mono ?_
            rintro e w2 ⟨rfl, hb⟩
            rw [HG.out]
            have hB2 : RowKit.Below w.heap.size w w2 := hB1.trans (hb.mono hB1.size)
            have hO2 := hO1.below hb
            clear c0 c1 hb
            have c0 : w2.cell? ⟨w.heap.size, 0, none⟩ = some (.bool fold) := hO2.cell (i := 0) rfl rfl
            have c1 : w2.cell? ⟨w.heap.size, 1, none⟩ = some (.slice a la ca) := hO2.cell (i := 0) rfl rfl
            go_wp2_with fail
            refine (rright_any fold a la ca wss w2 (hA.below hB2) (by omega) HM.out).mono ?_
            rintro e w3 ⟨rfl, hb⟩
            rw [HR.out]
            have hB3 : RowKit.Below w.heap.size w w3 := hB2.trans (hb.mono hB2.size)
            have hO3 := hO2.below hb
            clear c0 c1 hb hO2
            go_wp2_with fail
            refine (wakes6 w3).mono ?_
            rintro e w9 ⟨rfl, hb9⟩
            go_wp2
            go_ret
            exact ⟨rfl, hB3.trans (hb9.mono hB3.size)⟩
        · have hf1' : 4611686018427387604 < frm := by omega
          go_enter Try.func7, Try.ntmps7
          go_wp2_with fail
          rw [← hW1]
          refine HGC.out.mono ?_
          rintro e w2 ⟨rfl, hb⟩
          rw [HG.out]
          have hB2 : RowKit.Below w.heap.size w w2 := hB1.trans (hb.mono hB1.size)
          have hO2 := hO1.below hb
          clear c0 c1 hb
          have c0 : w2.cell? ⟨w.heap.size, 0, none⟩ = some (.bool fold) := hO2.cell (i := 0) rfl rfl
          have c1 : w2.cell? ⟨w.heap.size, 1, none⟩ = some (.slice a la ca) := hO2.cell (i := 0) rfl rfl
          go_wp2_with fail
          refine (rright_any fold a la ca wss w2 (hA.below hB2) (by omega) HM.out).mono ?_
          rintro e w3 ⟨rfl, hb⟩
          rw [HR.out]
          have hB3 : RowKit.Below w.heap.size w w3 := hB2.trans (hb.mono hB2.size)
          have hO3 := hO2.below hb
          clear c0 c1 hb hO2
          go_wp2_with fail
          refine (wakes6 w3).mono ?_
          rintro e w9 ⟨rfl, hb9⟩
          go_wp2
          go_ret
          exact ⟨rfl, hB3.trans (hb9.mono hB3.size)⟩
      · have hf0' : frm < 0 := by omega
        go_enter Try.func7, Try.ntmps7
        go_wp2_with fail
        rw [← hW1]
        refine HGC.out.mono ?_
        rintro e w2 ⟨rfl, hb⟩
        rw [HG.out]
        have hB2 : RowKit.Below w.heap.size w w2 := hB1.trans (hb.mono hB1.size)
        have hO2 := hO1.below hb
        clear c0 c1 hb
        have c0 : w2.cell? ⟨w.heap.size, 0, none⟩ = some (.bool fold) := hO2.cell (i := 0) rfl rfl
        have c1 : w2.cell? ⟨w.heap.size, 1, none⟩ = some (.slice a la ca) := hO2.cell (i := 0) rfl rfl
        go_wp2_with fail
        refine (rright_any fold a la ca wss w2 (hA.below hB2) (by omega) HM.out).mono ?_
        rintro e w3 ⟨rfl, hb⟩
        rw [HR.out]
        have hB3 : RowKit.Below w.heap.size w w3 := hB2.trans (hb.mono hB2.size)
        have hO3 := hO2.below hb
        clear c0 c1 hb hO2
        go_wp2_with fail
        refine (wakes6 w3).mono ?_
        rintro e w9 ⟨rfl, hb9⟩
        go_wp2
        go_ret
        exact ⟨rfl, hB3.trans (hb9.mono hB3.size)⟩

end Go.Proofs.Ytmpmjkbjnklgfaa

/- The law that all hits rise, stand, and are all (layer 6), walked. -/

namespace Go.Proofs.Ytmpmjkbjnklgfaa
open Go.RowKit Go.Sort
set_option linter.unusedVariables false
set_option linter.unusedSimpArgs false

def cntW (fold : Bool) (wss : List (List Int)) (text : List Int) (k p : Nat) : Nat := ((List.range p).filter fun q => stands fold wss text q k).length
def cntA (fold : Bool) (wss : List (List Int)) (text : List Int) (k : Nat) : Nat := ((List.range k).map fun j => cntW fold wss text j (text.length + 1)).sum
theorem cntW_succ (fold : Bool) (wss : List (List Int)) (text : List Int) (k p : Nat) : cntW fold wss text k (p + 1) = cntW fold wss text k p + if stands fold wss text p k then 1 else 0 := by
  unfold cntW
  rw [List.range_succ, List.filter_append, List.length_append]
  cases h : stands fold wss text p k <;> simp [h]
theorem cntA_succ (fold : Bool) (wss : List (List Int)) (text : List Int) (k : Nat) : cntA fold wss text (k + 1) = cntA fold wss text k + cntW fold wss text k (text.length + 1) := by
  unfold cntA
  rw [List.range_succ, List.map_append, List.sum_append]
  simp
theorem cntW_le (fold : Bool) (wss : List (List Int)) (text : List Int) (k p : Nat) : cntW fold wss text k p ≤ p := by
  unfold cntW
  have := List.length_filter_le (fun q => stands fold wss text q k) (List.range p)
  simpa using this
theorem cntA_le (fold : Bool) (wss : List (List Int)) (text : List Int) : ∀ k, cntA fold wss text k ≤ k * (text.length + 1)
  | 0 => by simp [cntA]
  | k + 1 => by
    have h1 := cntA_le fold wss text k
    have h2 := cntW_le fold wss text k (text.length + 1)
    rw [cntA_succ, Nat.add_mul, Nat.one_mul]
    omega
theorem cntA_all (fold : Bool) (wss : List (List Int)) (frm : Int) (text : List Int) : (occD fold wss frm text).length = cntA fold wss text wss.length := occ_count fold wss frm text
theorem standsH_at {fold : Bool} {wss : List (List Int)} {frm : Int} {text : List Int} {p k : Nat} (hp : p ≤ text.length) (hk : k < wss.length) : standsH fold wss frm text (frm + (p : Int), (k : Int)) = stands fold wss text p k := by
  unfold standsH
  dsimp only
  rw [decide_eq_true ⟨by omega, by omega, by omega, by omega⟩, Bool.true_and, show (frm + (p : Int) - frm).toNat = p by omega, Int.toNat_natCast]

set_option maxRecDepth 100000 in
set_option maxHeartbeats 8000000 in
theorem occAll_walk (fold : Bool) (a b : Option Addr) (la ca lb cb : Nat) (frm : Int) (text : List Int) (wss : List (List Int)) (w : World) (hA : Wds w a la wss) (hT : Bys w b lb text) (hcb : lb ≤ cb) :
    Calls Try.prog 6 #[.agg (setV fold a la ca), .int .i64 frm, .slice b lb cb] w fun e w' => e = .returned (.bool true) ∧ Below w.heap.size w w' := by
  obtain ⟨W1, hW1⟩ : ∃ W1, W1 = w.alloc (.cells (setV fold a la ca) 39) := ⟨_, rfl⟩
  have hB1 : Below w.heap.size w W1 := by rw [hW1]; exact below_alloc _ _
  have hO1 : Bx w.heap.size [.cells (setV fold a la ca) 39] W1 := by rw [hW1]; exact (Bx.nil _ w).snoc _ rfl
  have HGC := Lib.hid (great5_any fold a la ca wss W1 (hA.below hB1))
  have c0 : W1.cell? ⟨w.heap.size, 0, none⟩ = some (.bool fold) := hO1.cell (i := 0) rfl rfl
  have c1 : W1.cell? ⟨w.heap.size, 1, none⟩ = some (.slice a la ca) := hO1.cell (i := 0) rfl rfl
  have HTL := Lib.hid hT.len
  cases hg : greatP wss with
  | true =>
    have HG := Lib.hid hg
    clear hg
    go_enter Try.func6, Try.ntmps6
    go_wp2_with fail
    rw [← hW1]
    refine HGC.out.mono ?_
    rintro e w2 ⟨rfl, hb⟩
    rw [HG.out]
    have hB2 : RowKit.Below w.heap.size w w2 := hB1.trans (hb.mono hB1.size)
    have hO2 := hO1.below hb
    clear c0 c1 hb
    go_wp2_with fail
    refine (wakes6 w2).mono ?_
    rintro e w9 ⟨rfl, hb9⟩
    go_wp2
    go_ret
    exact ⟨rfl, hB2.trans (hb9.mono hB2.size)⟩
  | false =>
    obtain ⟨g1, g2, g3⟩ := great_bd hg fold
    have HG := Lib.hid hg
    have HWL := Lib.hid hA.len
    have hla : la ≤ 1000 := by rw [← hA.len]; omega
    have hla80 : la ≤ 80 := by rw [← hA.len]; omega
    have HM := Lib.hid (show ∀ x ∈ wss, x.length ≤ 1000000 from fun z hz => by have := g2 z hz; omega)
    have hBL : (begL fold wss).length ≤ 1000000 := by omega
    clear hg g2 g3
    cases hr : rightR fold wss with
    | false =>
      have HR := Lib.hid hr
      clear hr
      go_enter Try.func6, Try.ntmps6
      go_wp2_with fail
      rw [← hW1]
      refine HGC.out.mono ?_
      rintro e w2 ⟨rfl, hb⟩
      rw [HG.out]
      have hB2 : RowKit.Below w.heap.size w w2 := hB1.trans (hb.mono hB1.size)
      have hO2 := hO1.below hb
      clear c0 c1 hb
      have c0 : w2.cell? ⟨w.heap.size, 0, none⟩ = some (.bool fold) := hO2.cell (i := 0) rfl rfl
      have c1 : w2.cell? ⟨w.heap.size, 1, none⟩ = some (.slice a la ca) := hO2.cell (i := 0) rfl rfl
      go_wp2_with fail
      refine (rright_any fold a la ca wss w2 (hA.below hB2) (by omega) HM.out).mono ?_
      rintro e w3 ⟨rfl, hb⟩
      rw [HR.out]
      have hB3 : RowKit.Below w.heap.size w w3 := hB2.trans (hb.mono hB2.size)
      have hO3 := hO2.below hb
      clear c0 c1 hb hO2
      go_wp2_with fail
      refine (wakes6 w3).mono ?_
      rintro e w9 ⟨rfl, hb9⟩
      go_wp2
      go_ret
      exact ⟨rfl, hB3.trans (hb9.mono hB3.size)⟩
    | true =>
      have HR := Lib.hid hr
      clear hr
      by_cases hf0 : 0 ≤ frm
      · by_cases hf1 : frm ≤ 4611686018427387904
        · by_cases h120 : lb ≤ 120
          · have HMP := Lib.hid (mayP_of HR.out hf0 hf1)
            obtain ⟨D, hD⟩ : ∃ D, occD fold wss frm text = D := ⟨_, rfl⟩
            have hDl : D.length ≤ 301 * 80 := by rw [← hD]; exact occD_small (by rw [HTL.out]; omega) g1
            have HDR : Hid (riseH wss D = true) := by rw [Hid, ← hD]; exact riseH_pairwise.2 (occTo_rises _ _ _ _ _)
            have HDS : Hid (∀ h ∈ D, standsH fold wss frm text h = true) := fun h hm => (occD_mem (by rw [hD]; exact hm)).1
            have HDC : Hid (D.length = cntA fold wss text la) := by rw [Hid, ← hD, cntA_all, HWL.out]
            have HDB := Lib.hid (occD_bd (fold := fold) (wss := wss) (frm := frm) (text := text) hf0 hf1 (by rw [HTL.out]; omega) (by omega))
            have k0 := fun (W : World) (hB : Below w.heap.size w W) => occ_t fold a b la ca lb cb frm text wss W (hA.below hB) (hT.below hB) hla (by omega) hcb HM.out hBL HMP.out
            rw [hD] at k0 HDB
            obtain ⟨N, hN⟩ : ∃ N, D.length = N := ⟨_, rfl⟩
            rw [hN] at k0 HDC hDl
            have HN := Lib.hid hN
            have K0 := Lib.hid k0
            clear hD k0 hN
            go_enter Try.func6, Try.ntmps6
            go_wp2_with fail
            rw [← hW1]
            refine HGC.out.mono ?_
            rintro e w2 ⟨rfl, hb⟩
            rw [HG.out]
            have hB2 : RowKit.Below w.heap.size w w2 := hB1.trans (hb.mono hB1.size)
            have hO2 := hO1.below hb
            clear c0 c1 hb
            have c0 : w2.cell? ⟨w.heap.size, 0, none⟩ = some (.bool fold) := hO2.cell (i := 0) rfl rfl
            have c1 : w2.cell? ⟨w.heap.size, 1, none⟩ = some (.slice a la ca) := hO2.cell (i := 0) rfl rfl
            go_wp2_with fail
            refine (rright_any fold a la ca wss w2 (hA.below hB2) (by omega) HM.out).mono ?_
            rintro e w3 ⟨rfl, hb⟩
            rw [HR.out]
            have hB3 : RowKit.Below w.heap.size w w3 := hB2.trans (hb.mono hB2.size)
            have hO3 := hO2.below hb
            clear c0 c1 hb hO2
            have c0 : w3.cell? ⟨w.heap.size, 0, none⟩ = some (.bool fold) := hO3.cell (i := 0) rfl rfl
            have c1 : w3.cell? ⟨w.heap.size, 1, none⟩ = some (.slice a la ca) := hO3.cell (i := 0) rfl rfl
            go_wp2_with fail
            refine (K0.out _ hB3).mono ?_
            rintro e w4 ⟨b1, c1', rfl, hc1, hX1, hb⟩
            have hB4 : RowKit.Below w.heap.size w w4 := hB3.trans (hb.mono hB3.size)
            have hO4 := hO3.below hb
            clear c0 c1 hb hO3 hB3
            have c0 : w4.cell? ⟨w.heap.size, 0, none⟩ = some (.bool fold) := hO4.cell (i := 0) rfl rfl
            have c1 : w4.cell? ⟨w.heap.size, 1, none⟩ = some (.slice a la ca) := hO4.cell (i := 0) rfl rfl
            go_wp2_with fail
            refine (orise_any fold a b1 la ca N c1' D wss w4 (hA.below hB4) hX1 (by omega) (by omega)).mono ?_
            rintro e w5 ⟨rfl, hb⟩
            rw [HDR.out]
            have hB5 : RowKit.Below w.heap.size w w5 := hB4.trans (hb.mono hB4.size)
            have hO5 := hO4.below hb
            have hX1 := hX1.below hb
            clear c0 c1 hb hO4 hB4
            go_wp2
            go_loopw [9] (fun i wr => ∃ k : Nat, k ≤ N ∧ i = .int .i64 k ∧ RowKit.Below w.heap.size w wr ∧ Bx w.heap.size [.cells (setV fold a la ca) 39] wr ∧ Hts wr b1 N D) (fun i _ => N - (intOf i).toNat)
            case atStart => exact ⟨0, Nat.zero_le _, rfl, hB5, hO5, hX1⟩
            case round =>
              clear hB5 hO5 hX1
              obtain ⟨k, hk, rfl, hB5, hO5, hX1⟩ := hrel
              by_cases hlt : k < N
              · obtain ⟨bb, off, x, hbb, hbl, x0, x1, hx, hxb⟩ := hX1.at_ hlt
                have HSX : Hid (standsH fold wss frm text x = true) := HDS.out x (List.mem_of_getElem? hx)
                have f0 : ∀ d os, (grow (redrawn wr d) os).cell? ⟨w.heap.size, 0, none⟩ = some (.bool fold) := hO5.cellG (i := 0) rfl rfl
                have f1 : ∀ d os, (grow (redrawn wr d) os).cell? ⟨w.heap.size, 1, none⟩ = some (.slice a la ca) := hO5.cellG (i := 0) rfl rfl
                have f2 : ∀ d os, (grow (redrawn wr d) os).cell? ⟨bb, off + k * 2, none⟩ = some (.int .i64 x.1) := fun d os => ((below_regrown wr d os).cell (p := ⟨bb, off + k * 2, none⟩) hbl).trans x0
                have f3 : ∀ d os, (grow (redrawn wr d) os).cell? ⟨bb, off + k * 2 + 1, none⟩ = some (.int .i64 x.2) := fun d os => ((below_regrown wr d os).cell (p := ⟨bb, off + k * 2 + 1, none⟩) hbl).trans x1
                have kb : ∀ d os, RowKit.Below w.heap.size w (grow (redrawn wr d) os) := fun d os => hB5.trans ((below_regrown wr d os).mono hB5.size)
                have s31 := fun d os => stands_any fold a b la ca lb cb frm text x wss (grow (redrawn wr d) os) (hA.below (kb d os)) (hT.below (kb d os)) (by omega) (by omega) hcb HM.out hBL hxb
                rw [HSX.out, HMP.out, Bool.true_and] at s31
                have hdk : decide ((k : Int) < N) = true := by simp; omega
                subst hbb
                clear hx x0 x1 kb hxb
                go_wp2
                refine wp_region_quiet_below mixed (by kernel_rfl) ?_
                repeat (go_big_quiet_step ((go_at_call 31; exact grown_below (s31 _ _))))
                refine wpQuiet_nil ?_
                rintro _ ⟨⟨dq, osq⟩, rfl⟩
                have hBq := below_regrown wr dq osq
                have hB6 : RowKit.Below w.heap.size w (grow (redrawn wr dq) osq) := hB5.trans (hBq.mono hB5.size)
                have hO6 := hO5.below hBq
                have hX6 := hX1.below hBq
                clear f0 f1 f2 f3 s31 hB5 hO5 hX1 hBq
                go_wp2
                go_roundw
                case rel => exact ⟨k + 1, by omega, by go_num, hB6, hO6, hX6⟩
                case measure => simp [intOf]; omega
              · obtain rfl : k = N := by omega
                have hdk : decide ((k : Int) < k) = false := by simp
                go_wp2
                clear hX1
                go_loopw [10, 11, 12, 13] (fun sn sw _ _ wr => ∃ (j m : Nat), j ≤ la ∧ sw = .int .i64 j ∧ sn = .int .i64 m ∧ Hid (m = cntA fold wss text j) ∧ m ≤ 80 * 121 ∧ RowKit.Below w.heap.size w wr ∧ Bx w.heap.size [.cells (setV fold a la ca) 39] wr) (fun _ sw _ _ _ => la - (intOf sw).toNat)
                case atStart => exact ⟨0, 0, Nat.zero_le _, rfl, rfl, rfl, by omega, hB5, hO5⟩
                case round =>
                  clear hB5 hO5
                  obtain ⟨j, m, hj, rfl, rfl, HM2, hm2, hB5, hO5⟩ := hrel
                  have c1 : wr.cell? ⟨w.heap.size, 1, none⟩ = some (.slice a la ca) := hO5.cell (i := 0) rfl rfl
                  by_cases hjl : j < la
                  · have hdj : decide ((j : Int) < la) = true := by simp; omega
                    have hmj : m ≤ j * 121 := by rw [HM2.out]; have := cntA_le fold wss text j; rw [HTL.out] at this; have h2 := Nat.mul_le_mul (Nat.le_refl j) (show lb + 1 ≤ 121 by omega); omega
                    go_wp2
                    clear c1
                    go_loopw [10, 12, 13] (fun sn sp _ wr => ∃ (p q : Nat), p ≤ lb + 1 ∧ sp = .int .i64 p ∧ sn = .int .i64 q ∧ Hid (q = m + cntW fold wss text j p) ∧ q ≤ m + p ∧ RowKit.Below w.heap.size w wr ∧ Bx w.heap.size [.cells (setV fold a la ca) 39] wr) (fun _ sp _ _ => lb + 1 - (intOf sp).toNat)
                    case atStart => exact ⟨0, m, by omega, rfl, rfl, rfl, by omega, hB5, hO5⟩
                    case round =>
                      clear hB5 hO5
                      obtain ⟨p, q, hp, rfl, rfl, HQ, hqm, hB5, hO5⟩ := hrel
                      by_cases hpl : p ≤ lb
                      · have hdp : decide ((p : Int) ≤ lb) = true := by simp; omega
                        obtain ⟨bb, off, aw, lw, cw, x, hbb, hbl, hcell, hx, hX, hlc2⟩ := (hA.below hB5).at_ hjl
                        subst hbb
                        have hlw : lw ≤ 1000000 := by have := mem_bd HM.out hx; rw [hX.len] at this; exact this
                        have f0 : ∀ d os, (grow (redrawn wr d) os).cell? ⟨w.heap.size, 0, none⟩ = some (.bool fold) := hO5.cellG (i := 0) rfl rfl
                        have f1 : ∀ d os, (grow (redrawn wr d) os).cell? ⟨w.heap.size, 1, none⟩ = some (.slice (some ⟨bb, off, none⟩) la ca) := hO5.cellG (i := 0) rfl rfl
                        have f2 : ∀ d os, (grow (redrawn wr d) os).cell? ⟨bb, off + j, none⟩ = some (.slice aw lw cw) := fun d os => ((below_regrown wr d os).cell (p := ⟨bb, off + j, none⟩) hbl).trans hcell
                        have hX2 : ∀ d os, Bys (grow (redrawn wr d) os) aw lw x := fun d os => hX.below (below_regrown wr d os)
                        have hL2 : ∀ d os, Bys (grow (redrawn wr d) os) b lb text := fun d os => (hT.below hB5).below (below_regrown wr d os)
                        have HST : Hid (stands fold wss text p j = atL fold text (p : Int) x) := stands_is hx
                        have HSH : Hid (standsH fold wss frm text (frm + (p : Int), (j : Int)) = atL fold text (p : Int) x) := by rw [Hid, standsH_at (by rw [HTL.out]; exact hpl) (by rw [HWL.out]; exact hjl)]; exact HST.out
                        obtain ⟨B, hBd⟩ : ∃ B, atL fold text (p : Int) x = B := ⟨_, rfl⟩
                        have s42 := fun d os => rat_any fold b aw lb cb lw cw (p : Int) text x (grow (redrawn wr d) os) (hL2 d os) (hX2 d os) hcb (by omega) hlw (by omega)
                        rw [hBd] at s42 HST HSH
                        clear hx hcell hX hX2 hL2 hBd
                        go_wp2
                        refine wp_region_quiet_below mixed (by kernel_rfl) ?_
                        repeat (go_big_quiet_step ((go_at_call 42; exact grown_below (s42 _ _))))
                        refine wpQuiet_nil ?_
                        rintro _ ⟨⟨dq, osq⟩, rfl⟩
                        have hBq := below_regrown wr dq osq
                        have hB6 : RowKit.Below w.heap.size w (grow (redrawn wr dq) osq) := hB5.trans (hBq.mono hB5.size)
                        have hO6 := hO5.below hBq
                        clear f0 f1 f2 s42 hB5 hO5 hBq
                        obtain ⟨W6, hW6⟩ : ∃ W6, W6 = grow (redrawn wr dq) osq := ⟨_, rfl⟩
                        rw [← hW6] at hB6 hO6 ⊢
                        clear hW6
                        have c0 : W6.cell? ⟨w.heap.size, 0, none⟩ = some (.bool fold) := hO6.cell (i := 0) rfl rfl
                        have c1 : W6.cell? ⟨w.heap.size, 1, none⟩ = some (.slice (some ⟨bb, off, none⟩) la ca) := hO6.cell (i := 0) rfl rfl
                        have s31 := stands_any fold (some ⟨bb, off, none⟩) b la ca lb cb frm text (frm + (p : Int), (j : Int)) wss W6 (hA.below hB6) (hT.below hB6) (by omega) (by omega) hcb HM.out hBL (by unfold I64; dsimp only; omega)
                        rw [HSH.out, HMP.out, Bool.true_and] at s31
                        have S31 := Lib.hid s31
                        clear s31
                        cases B with
                        | true =>
                          have HQ2 : Hid (q + 1 = m + cntW fold wss text j (p + 1)) := by rw [Hid, cntW_succ, HST.out, HQ.out]; simp; omega
                          go_wp2_with fail
                          refine S31.out.mono ?_
                          rintro e w7 ⟨rfl, hb⟩
                          have hB7 : RowKit.Below w.heap.size w w7 := hB6.trans (hb.mono hB6.size)
                          have hO7 := hO6.below hb
                          clear c0 c1 hb hB6 hO6 S31
                          go_wp2
                          go_roundw
                          case rel => exact ⟨p + 1, q + 1, by omega, by go_num, by go_num, HQ2, by omega, hB7, hO7⟩
                          case measure => simp [intOf]; omega
                        | false =>
                          have HQ2 : Hid (q = m + cntW fold wss text j (p + 1)) := by rw [Hid, cntW_succ, HST.out, HQ.out]; simp
                          go_wp2_with fail
                          refine S31.out.mono ?_
                          rintro e w7 ⟨rfl, hb⟩
                          have hB7 : RowKit.Below w.heap.size w w7 := hB6.trans (hb.mono hB6.size)
                          have hO7 := hO6.below hb
                          clear c0 c1 hb hB6 hO6 S31
                          go_wp2
                          go_roundw
                          case rel => exact ⟨p + 1, q, by omega, by go_num, rfl, HQ2, by omega, hB7, hO7⟩
                          case measure => simp [intOf]; omega
                      · obtain rfl : p = lb + 1 := by omega
                        have hdp : decide (((lb + 1 : Nat) : Int) ≤ lb) = false := by simp; omega
                        have HQ2 : Hid (q = cntA fold wss text (j + 1)) := by rw [Hid, cntA_succ, HTL.out, ← HM2.out]; exact HQ.out
                        have hq2 : q ≤ 80 * 121 := by omega
                        go_wp2
                        go_roundw
                        case rel => exact ⟨j + 1, q, by omega, by go_num, rfl, HQ2, hq2, hB5, hO5⟩
                        case measure => simp [intOf]; omega
                  · obtain rfl : j = la := by omega
                    have hdj : decide ((j : Int) < j) = false := by simp
                    obtain rfl : k = m := by rw [HM2.out, HDC.out]
                    go_wp2_with fail
                    refine (wakes6 _).mono ?_
                    rintro e w9 ⟨rfl, hb⟩
                    go_wp2
                    go_ret
                    exact ⟨rfl, hB5.trans (hb.mono hB5.size)⟩
          · have h120' : ¬ lb ≤ 120 := h120
            go_enter Try.func6, Try.ntmps6
            go_wp2_with fail
            rw [← hW1]
            refine HGC.out.mono ?_
            rintro e w2 ⟨rfl, hb⟩
            rw [HG.out]
            have hB2 : RowKit.Below w.heap.size w w2 := hB1.trans (hb.mono hB1.size)
            have hO2 := hO1.below hb
            clear c0 c1 hb
            have c0 : w2.cell? ⟨w.heap.size, 0, none⟩ = some (.bool fold) := hO2.cell (i := 0) rfl rfl
            have c1 : w2.cell? ⟨w.heap.size, 1, none⟩ = some (.slice a la ca) := hO2.cell (i := 0) rfl rfl
            go_wp2_with fail
            refine (rright_any fold a la ca wss w2 (hA.below hB2) (by omega) HM.out).mono ?_
            rintro e w3 ⟨rfl, hb⟩
            rw [HR.out]
            have hB3 : RowKit.Below w.heap.size w w3 := hB2.trans (hb.mono hB2.size)
            have hO3 := hO2.below hb
            clear c0 c1 hb hO2
            go_wp2_with fail
            refine (wakes6 w3).mono ?_
            rintro e w9 ⟨rfl, hb9⟩
            go_wp2
            go_ret
            exact ⟨rfl, hB3.trans (hb9.mono hB3.size)⟩
        · have hf1' : 4611686018427387904 < frm := by omega
          go_enter Try.func6, Try.ntmps6
          go_wp2_with fail
          rw [← hW1]
          refine HGC.out.mono ?_
          rintro e w2 ⟨rfl, hb⟩
          rw [HG.out]
          have hB2 : RowKit.Below w.heap.size w w2 := hB1.trans (hb.mono hB1.size)
          have hO2 := hO1.below hb
          clear c0 c1 hb
          have c0 : w2.cell? ⟨w.heap.size, 0, none⟩ = some (.bool fold) := hO2.cell (i := 0) rfl rfl
          have c1 : w2.cell? ⟨w.heap.size, 1, none⟩ = some (.slice a la ca) := hO2.cell (i := 0) rfl rfl
          go_wp2_with fail
          refine (rright_any fold a la ca wss w2 (hA.below hB2) (by omega) HM.out).mono ?_
          rintro e w3 ⟨rfl, hb⟩
          rw [HR.out]
          have hB3 : RowKit.Below w.heap.size w w3 := hB2.trans (hb.mono hB2.size)
          have hO3 := hO2.below hb
          clear c0 c1 hb hO2
          go_wp2_with fail
          refine (wakes6 w3).mono ?_
          rintro e w9 ⟨rfl, hb9⟩
          go_wp2
          go_ret
          exact ⟨rfl, hB3.trans (hb9.mono hB3.size)⟩
      · have hf0' : frm < 0 := by omega
        go_enter Try.func6, Try.ntmps6
        go_wp2_with fail
        rw [← hW1]
        refine HGC.out.mono ?_
        rintro e w2 ⟨rfl, hb⟩
        rw [HG.out]
        have hB2 : RowKit.Below w.heap.size w w2 := hB1.trans (hb.mono hB1.size)
        have hO2 := hO1.below hb
        clear c0 c1 hb
        have c0 : w2.cell? ⟨w.heap.size, 0, none⟩ = some (.bool fold) := hO2.cell (i := 0) rfl rfl
        have c1 : w2.cell? ⟨w.heap.size, 1, none⟩ = some (.slice a la ca) := hO2.cell (i := 0) rfl rfl
        go_wp2_with fail
        refine (rright_any fold a la ca wss w2 (hA.below hB2) (by omega) HM.out).mono ?_
        rintro e w3 ⟨rfl, hb⟩
        rw [HR.out]
        have hB3 : RowKit.Below w.heap.size w w3 := hB2.trans (hb.mono hB2.size)
        have hO3 := hO2.below hb
        clear c0 c1 hb hO2
        go_wp2_with fail
        refine (wakes6 w3).mono ?_
        rintro e w9 ⟨rfl, hb9⟩
        go_wp2
        go_ret
        exact ⟨rfl, hB3.trans (hb9.mono hB3.size)⟩

end Go.Proofs.Ytmpmjkbjnklgfaa
