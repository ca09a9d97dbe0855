/- Parts of the proof, one behind the other: PE. No condition but what each theorem states. -/
import Derived.Test.YtifcoalhkcflnaaGreatR13

/- The law OutputEnds (layer 9): walked. -/



namespace Go.Proofs.YtifcoalhkcflnaaGreat
open Go.RowKit Go.Sort
set_option linter.unusedVariables false
set_option linter.unusedSimpArgs false

theorem atL_end {x y : List Int} {c : Int} {t : List Int} {j : Nat} (hj : x.drop (x.length - j) = c :: t) (hjl : j ≤ x.length) (hy : y.length = j) : atL false x (x.length : Int) y = decide (y = c :: t) := by
  have hl := congrArg List.length hj
  rw [List.length_drop] at hl
  unfold atL sameL
  rw [foldL_false, foldL_false, decide_eq_true (show (y.length : Int) ≤ (x.length : Int) ∧ (x.length : Int) ≤ (x.length : Int) by omega), Bool.true_and, Int.toNat_natCast, hy, hj, List.take_of_length_le (by omega)]
  by_cases e : y = c :: t
  · rw [decide_eq_true e, decide_eq_true e.symm]
  · rw [decide_eq_false e, decide_eq_false (fun h => e h.symm)]
theorem drop_cons {x : List Int} {j : Nat} (h0 : 0 < j) (hj : j ≤ x.length) : ∃ c, x.drop (x.length - j) = c :: x.drop (x.length - (j - 1)) := by
  refine ⟨x[x.length - j]'(by omega), ?_⟩
  rw [List.drop_eq_getElem_cons (by omega), show x.length - j + 1 = x.length - (j - 1) by omega]
theorem drop_here {l : List Int} {k : Nat} {v : Int} {r : List Int} (h : l.drop k = v :: r) : l[k]? = some v ∧ l.drop (k + 1) = r ∧ k < l.length := by
  have hk : k < l.length := by
    have := congrArg List.length h
    rw [List.length_drop, List.length_cons] at this
    omega
  rw [List.drop_eq_getElem_cons hk] at h
  injection h with h1 h2
  exact ⟨by rw [List.getElem?_eq_getElem hk, h1], h2, hk⟩

set_option maxRecDepth 100000 in
set_option maxHeartbeats 8000000 in
theorem outputEnds_walk (fold : Bool) (a : Option Addr) (la ca : Nat) (wss : List (List Int)) (w : World) (hA : Wds w a la wss) (hac : la ≤ ca) :
    Calls Tryz.prog 6 #[.agg (setV fold a la ca)] w fun e w' => e = .returned (.bool true) ∧ Below w.heap.size w w' := by
  obtain ⟨i0, hi, hz0, hz2, hz3⟩ := info_parts i64_info7
  have HL := Lib.hid hA.len
  obtain ⟨W, hW⟩ : ∃ W, W = w.alloc (.cells (setV fold a la ca) 24) := ⟨_, rfl⟩
  have hB : Below w.heap.size w W := by rw [hW]; exact below_alloc _ _
  have hO : Bx w.heap.size [.cells (setV fold a la ca) 24] W := by rw [hW]; exact (Bx.nil _ w).snoc _ rfl
  have s0 : W.cell? ⟨w.heap.size, 0, none⟩ = some (.bool fold) := hO.cell (i := 0) rfl rfl
  have s1 : W.cell? ⟨w.heap.size, 1, none⟩ = some (.slice a la ca) := hO.cell (i := 0) rfl rfl
  have hg := great5_any fold a la ca wss W (hA.below hB)
  obtain ⟨G, hG⟩ : ∃ G, greatP wss = G := ⟨_, rfl⟩
  rw [hG] at hg
  have HG := Lib.hid hg
  clear hg
  go_enter Tryz.func6, Tryz.ntmps6
  go_upto_region 1 with fail
  rw [← hW]
  clear hW
  go_wp2_with fail
  refine HG.out.mono ?_
  rintro e w1 ⟨rfl, hb1⟩
  have hB1 := hB.trans (hb1.mono hB.size)
  have hO1 := hO.below hb1
  clear s0 s1 hO hB hb1 HG
  cases G with
  | true =>
    go_wp2_with fail
    refine (wakes9 _).mono ?_
    rintro e w2 ⟨rfl, hb2⟩
    have hB2 := hB1.trans (hb2.mono hB1.size)
    go_wp2
    go_ret
    exact ⟨rfl, hB2⟩
  | false =>
    obtain ⟨g1, g2, g3⟩ := gr8_bd hG fold
    rw [HL.out] at g1
    have s0 : w1.cell? ⟨w.heap.size, 0, none⟩ = some (.bool fold) := hO1.cell (i := 0) rfl rfl
    have s1 : w1.cell? ⟨w.heap.size, 1, none⟩ = some (.slice a la ca) := hO1.cell (i := 0) rfl rfl
    have hR := rright_any fold a la ca wss w1 (hA.below hB1) (by omega) (fun x hx => by have := g2 x hx; omega)
    rw [← right_eq] at hR
    have HR := Lib.hid hR
    clear hR
    cases hr : rightP fold wss with
    | false =>
      rw [hr] at HR
      clear hr g1 g2 g3
      go_wp2_with fail
      refine HR.out.mono ?_
      rintro e w2 ⟨rfl, hb2⟩
      have hB2 := hB1.trans (hb2.mono hB1.size)
      clear s0 s1
      go_wp2_with fail
      refine (wakes9 _).mono ?_
      rintro e w3 ⟨rfl, hb3⟩
      have hB3 := hB2.trans (hb3.mono hB2.size)
      go_wp2
      go_ret
      exact ⟨rfl, hB3⟩
    | true =>
      rw [hr] at HR
      obtain ⟨_, _, hread, r1, r3⟩ := ok_right (fold := fold) (wss := wss) (by unfold okB; rw [hG, hr]; rfl)
      clear g1 g2 g3
      have HR3 := Lib.hid r3
      go_wp2_with fail
      refine HR.out.mono ?_
      rintro e w2 ⟨rfl, hb2⟩
      have hB2 := hB1.trans (hb2.mono hB1.size)
      have hO2 := hO1.below hb2
      clear s0 s1 hb2
      have s0 : w2.cell? ⟨w.heap.size, 0, none⟩ = some (.bool fold) := hO2.cell (i := 0) rfl rfl
      have s1 : w2.cell? ⟨w.heap.size, 1, none⟩ = some (.slice a la ca) := hO2.cell (i := 0) rfl rfl
      have HC := Lib.hid (rmake7_yes fold a la ca wss w2 (hA.below hB2) hr)
      have HRT := Lib.hid hr
      clear hr hG HR hO1
      go_wp2_with fail
      refine HC.out.mono ?_
      rintro e w3 ⟨t, rfl, hT, hb3⟩
      obtain ⟨ua, un, uc, da, dnn, dc, xa, xn, xc, ba, bn, bc⟩ := t
      have hun : (nodesL wss).length = un := by have := hT.up.1; rw [(wrd_len wss).2.2.1] at this; exact this
      have hdn : (nodesL wss).length = dnn := by have := hT.dep.1; rw [(wrd_len wss).2.1] at this; exact this
      have hxn : (nodesL wss).length = xn := by have := hT.wrd.1; rw [(wrd_len wss).1] at this; exact this
      have hB3 := hB2.trans (hb3.mono hB2.size)
      have hO3 := hO2.below hb3
      clear HC hb3 s0 s1 hO2
      obtain ⟨W4, hW4⟩ : ∃ W, W = w3.alloc (.cells #[.slice ua un uc, .slice da dnn dc, .slice xa xn xc, .slice ba bn bc] 28) := ⟨_, rfl⟩
      have hb4 : Below w3.heap.size w3 W4 := by rw [hW4]; exact below_alloc _ _
      have hQ : W4.heap[w3.heap.size]? = some (.cells #[.slice ua un uc, .slice da dnn dc, .slice xa xn xc, .slice ba bn bc] 28 (0, 0)) := by rw [hW4]; exact World.alloc_heap_new _ _
      go_upto_region 4 with fail
      rw [← hW4]
      clear hW4
      obtain ⟨Q, hQe⟩ : ∃ Q, w3.heap.size = Q := ⟨_, rfl⟩
      have hB4 := hB3.trans (hb4.mono hB3.size)
      have hO4 := hO3.below hb4
      rw [hQe] at hQ ⊢
      have hC4 : CO w ⟨ua, un, uc, da, dnn, dc, xa, xn, xc, ba, bn, bc⟩ Q wss W4 := ⟨hT.below hb4, hQ, hB4⟩
      have hA4 := hA.below hB4
      clear hT hb4 hB3 hB4 hQe hQ hA hO3
      have HN : Hid ((nodesL wss).length ≤ 400) := read_n hread
      have HND := Lib.hid (rnodes7_any a la ca wss W4 hA4 (by rw [HL.out] at r1; omega) (fun x hx => by have := (r3 x hx).2; omega))
      have HBD := Lib.hid (nodes_bd (M := 32) (wss := wss) (fun x hx => (r3 x hx).2))
      have hla : la ≤ 64 := by have := HL.out; omega
      have s1 : W4.cell? ⟨w.heap.size, 1, none⟩ = some (.slice a la ca) := hO4.cell (i := 0) rfl rfl
      obtain ⟨n, hn⟩ : ∃ n, (nodesL wss).length = n := ⟨_, rfl⟩
      rw [hn] at hun hdn hxn HN HND
      subst hun
      subst hdn
      subst hxn
      have HNN := Lib.hid hn
      have HRD := Lib.hid hread
      have hn4 : n ≤ 400 := HN.out
      clear hn hread r1 r3 HN
      go_wp2_with fail
      refine HND.out.mono ?_
      rintro e w5 ⟨na, nc, rfl, hnc, hN5, hb5⟩
      have HC5 := Lib.hid (hC4.below hb5)
      have HA5 := Lib.hid (hA4.below hb5)
      have HO5 := Lib.hid (hO4.below hb5)
      have HN5 := Lib.hid hN5
      clear s1 hC4 hA4 hO4 hN5 HND hb5
      go_wp2
      go_loopw [6, 7] (fun s6 s7 wr => ∃ i : Nat, i ≤ n ∧ s7 = .int .i64 i ∧ s6 = .int .i64 ((mostN wss i : Nat) : Int) ∧ RowKit.Below w5.heap.size w5 wr) (fun _ s _ => n - (intOf s).toNat)
      case atStart => exact ⟨0, Nat.zero_le _, rfl, rfl, Below.refl _ _⟩
      case round =>
        obtain ⟨i, hin, rfl, rfl, hBe⟩ := hrel
        have hC := HC5.out.below hBe
        by_cases hil : i < n
        · have hd : decide ((i : Int) < n) = true := by simp; omega
          obtain ⟨b, o, ai, li, ci, x, rfl, hbl, hcx, hx, hXi, hlci⟩ := HN5.out.at_ hil
          have HX := Lib.hid hx
          have HXI := Lib.hid hXi
          have HCX := Lib.hid hcx
          have hli : li ≤ 32 := by have := HBD.out x (List.mem_of_getElem? hx); rw [hXi.len] at this; exact this
          have HWS : Hid (words9 wss i = sufW wss x) := words9_suf (fun y hy => (HR3.out y hy).1) hx
          have i1 : (0 : Int) ≤ (i : Int) := by omega
          have i2 : (i : Int) < (n : Int) := by omega
          clear hx hXi hcx
          have hBE : Below wr.heap.size wr (wr.alloc (.cells #[.int .i64 (i : Int)] 3)) := below_alloc _ _
          have HM2 := Lib.hid (words9_yes _ (trieP wss) _ wss [(i : Int)] (some ⟨wr.heap.size, 0, none⟩) 1 1 (wr.alloc (.cells #[.int .i64 (i : Int)] 3)) (hC.tri.below hBE) (by show n ≤ 140737488351232; omega) HRD.out (Sl1.lay (Value.int .i64) wr [(i : Int)] _ _ rfl) (by decide))
          rw [wordsP9_one (by rw [HNN.out]; exact hil)] at HM2
          obtain ⟨d0, d1, d2, d3⟩ := hC.cells
          clear hC
          obtain ⟨m, hm⟩ : ∃ m, (ends9 wss i).length = m := ⟨_, rfl⟩
          have e1 : (words9 wss i).length = m := by rw [← hm]; unfold words9; rw [List.length_map]
          have hmz : m ≤ 400 := by have := words9_len wss i; omega
          have HMM := Lib.hid hm
          have E1 := Lib.hid e1
          clear hm e1
          go_upto_region 9 with fail
          go_wp2_with fail
          refine HM2.out.mono ?_
          rintro e w6 ⟨⟨u, rfl, hu⟩, hb6⟩
          have hu' : w6.ownsRow (wr.alloc (.cells #[.int .i64 (i : Int)] 3)).heap.size 3 1 u m ((words9 wss i).map (Value.int .i64)) := by
            have h := hu
            unfold OwnI at h
            rw [E1.out] at h
            exact h
          obtain ⟨au, cu, rfl, hcu, hus⟩ := own_sl1 (enc := Value.int .i64) hu'
          have hB6 : Below wr.heap.size wr w6 := hBE.trans (hb6.mono hBE.size)
          have HB56 := Lib.hid (hBe.trans (hB6.mono hBe.size))
          have HUS := Lib.hid hus
          clear d0 d1 d2 d3 hu hu' hus hb6
          have f6 : w6.cell? ⟨b, o + i, none⟩ = some (.slice ai li ci) := (HB56.out.cell (p := ⟨b, o + i, none⟩) hbl).trans HCX.out
          go_upto_region 14 with fail
          clear f6
          go_loopw [10, 11] (fun s10 s11 wj => ∃ k j : Nat, j ≤ li ∧ k ≤ m ∧ s10 = .int .i64 k ∧ s11 = .int .i64 j ∧ Hid ((words9 wss i).drop k = sufW wss (x.drop (x.length - j))) ∧ RowKit.Below w6.heap.size w6 wj) (fun _ s _ => (intOf s).toNat)
          case atStart => exact ⟨0, li, Nat.le_refl _, Nat.zero_le _, rfl, rfl, by rw [Hid, HXI.out.len, Nat.sub_self, List.drop_zero, List.drop_zero]; exact HWS.out, Below.refl _ _⟩
          case round =>
            obtain ⟨k, j, hjl, hkm, rfl, rfl, HK, hBj⟩ := hrel
            by_cases hj0 : 0 < j
            · have hdj : decide ((0 : Int) < (j : Int)) = true := by simp; omega
              obtain ⟨c, hct⟩ := drop_cons (x := x) hj0 (by rw [HXI.out.len]; exact hjl)
              obtain ⟨t, ht⟩ : ∃ t, x.drop (x.length - (j - 1)) = t := ⟨_, rfl⟩
              rw [ht] at hct
              have HT := Lib.hid ht
              have HCT := Lib.hid hct
              have HK2 : Hid ((words9 wss i).drop k = sufAt wss (c :: t) 0) := by rw [Hid, HK.out, hct, sufAt_start]
              clear ht hct HK
              go_wp2
              go_loopw [10, 12] (fun s10 s12 wi => ∃ k q : Nat, q ≤ la ∧ k ≤ m ∧ s10 = .int .i64 k ∧ s12 = .int .i64 q ∧ Hid ((words9 wss i).drop k = sufAt wss (c :: t) q) ∧ RowKit.Below w6.heap.size w6 wi) (fun _ s _ => la - (intOf s).toNat)
              case atStart => exact ⟨k, 0, Nat.zero_le _, hkm, rfl, rfl, HK2, hBj⟩
              case round =>
                clear HK2 hBj hkm
                obtain ⟨k, q, hql, hkm, rfl, rfl, HK, hBi⟩ := hrel
                have HS1 : Hid (∀ d os, (grow (redrawn wr d) os).cell? ⟨w.heap.size, 1, none⟩ = some (.slice a la ca)) := fun d os => (((HO5.out.below HB56.out).below hBi).below (below_regrown wr d os)).cell (i := 0) rfl rfl
                have s1 : wr.cell? ⟨w.heap.size, 1, none⟩ = some (.slice a la ca) := ((HO5.out.below HB56.out).below hBi).cell (i := 0) rfl rfl
                by_cases hq : q < la
                · have hdq : decide ((q : Int) < la) = true := by simp; omega
                  obtain ⟨by_, oy, ay, ly, cy, y, rfl, hbyl, hcy, hy, hY, hlcy⟩ := ((HA5.out.below HB56.out).below hBi).at_ hq
                  have hly : ly ≤ 32 := by have := (HR3.out y (List.mem_of_getElem? hy)).2; rw [hY.len] at this; exact this
                  have hst := Lib.hid (sufAt_step (right_nodup HRT.out).1 hy c t)
                  have hxl := HXI.out.len
                  have hyl := hY.len
                  have hB5r := HB56.out.trans (hBi.mono HB56.out.size)
                  obtain ⟨B, hBB⟩ : ∃ B, atL false x (li : Int) y = B := ⟨_, rfl⟩
                  have ee : ∀ (V : World), RowKit.Below wr.heap.size wr V → Calls Tryz.prog 51 #[.bool false, .slice ai li ci, .int .i64 (li : Int), .slice ay ly cy] V fun e w' => e = .returned (.bool B) ∧ RowKit.Below V.heap.size V w' := fun V hV => by
                    have := rat_any false ai ay li ci ly cy (li : Int) x y V (HXI.out.below (hB5r.trans (hV.mono hB5r.size))) (hY.below hV) hlci (by omega) (by omega) (by omega)
                    rwa [hBB] at this
                  have EE := Lib.hid ee
                  have f0 := HS1.out
                  have f1 : ∀ d os, (grow (redrawn wr d) os).cell? ⟨b, o + i, none⟩ = some (.slice ai li ci) := fun d os => ((hB5r.trans ((below_regrown wr d os).mono hB5r.size)).cell (p := ⟨b, o + i, none⟩) hbl).trans HCX.out
                  have f2 : ∀ d os, (grow (redrawn wr d) os).cell? ⟨by_, oy + q, none⟩ = some (.slice ay ly cy) := fun d os => ((below_regrown wr d os).cell (p := ⟨by_, oy + q, none⟩) hbyl).trans hcy
                  have j1 : (0 : Int) ≤ (q : Int) := by omega
                  have j2 : (q : Int) < (la : Int) := by omega
                  have HKK := Lib.hid HK
                  have HBB := Lib.hid hBB
                  have HXL := Lib.hid hxl
                  have HYL := Lib.hid hyl
                  have HBI := Lib.hid hBi
                  clear hcy hy hY ee hBB hxl hyl HK hB5r hBi
                  by_cases hlj : ly = j
                  · have q1 : ((ly : Int) == (j : Int)) = true := by simp; omega
                    have q1' : (ly == j) = true := by simp; omega
                    have hat : Hid (B = decide (y = c :: t)) := by
                      rw [Hid, ← HBB.out, ← HXL.out]
                      exact atL_end HCT.out (by rw [HXL.out]; exact hjl) (by rw [HYL.out]; exact hlj)
                    clear hlj
                    by_cases hyc : y = c :: t
                    · obtain rfl : B = true := by rw [hat.out, decide_eq_true hyc]
                      have hk2 := hst.out
                      rw [if_pos hyc, ← HKK.out] at hk2
                      obtain ⟨k1, k2, k3⟩ := drop_here hk2
                      have hkl : k < m := by rw [E1.out] at k3; exact k3
                      obtain ⟨bu, ou, vu, rfl, hul, hcu2, hvu⟩ := sl1_at (HUS.out.below HBI.out) hkl
                      rw [k1] at hvu
                      obtain rfl : (q : Int) = vu := Option.some.inj hvu
                      have f3 : ∀ d os, (grow (redrawn wr d) os).cell? ⟨bu, ou + k, none⟩ = some (.int .i64 (q : Int)) := fun d os => ((below_regrown wr d os).cell (p := ⟨bu, ou + k, none⟩) hul).trans hcu2
                      have HK4 := Lib.hid k2
                      have q2 : decide ((m : Int) ≤ (k : Int)) = false := by simp; omega
                      have q2' : decide (m ≤ k) = false := by simp; omega
                      have q3 : ((q : Int) != (q : Int)) = false := by simp
                      have q4 : (0 : Int) ≤ (k : Int) := by omega
                      have q5 : (k : Int) < (m : Int) := by omega
                      clear hk2 k1 k2 k3 hvu hcu2 hyc
                      go_upto_region 19 with fail
                      refine wp_region_quiet_below mixed (by kernel_rfl) ?_
                      repeat (go_big_quiet_step (exact grown_below (EE.out _ (below_regrown wr _ _))))
                      refine wpQuiet_nil ?_
                      rintro _ ⟨⟨dq, osq⟩, rfl⟩
                      go_wp2
                      go_roundw
                      case rel => exact ⟨k + 1, q + 1, by omega, by omega, by go_num, by go_num, HK4, HBI.out.trans ((below_regrown wr dq osq).mono HBI.out.size)⟩
                      case measure => simp [intOf]; omega
                    · obtain rfl : B = false := by rw [hat.out, decide_eq_false hyc]
                      have HK4 : Hid ((words9 wss i).drop k = sufAt wss (c :: t) (q + 1)) := by
                        have h := hst.out
                        rw [if_neg hyc, ← HKK.out] at h
                        exact h
                      clear hyc
                      go_upto_region 19 with fail
                      refine wp_region_quiet_below mixed (by kernel_rfl) ?_
                      repeat (go_big_quiet_step (exact grown_below (EE.out _ (below_regrown wr _ _))))
                      refine wpQuiet_nil ?_
                      rintro _ ⟨⟨dq, osq⟩, rfl⟩
                      go_wp2
                      go_roundw
                      case rel => exact ⟨k, q + 1, by omega, hkm, rfl, by go_num, HK4, HBI.out.trans ((below_regrown wr dq osq).mono HBI.out.size)⟩
                      case measure => simp [intOf]; omega
                  · have q1 : ((ly : Int) == (j : Int)) = false := by simp; omega
                    have q1' : (ly == j) = false := by simp; omega
                    have HK4 : Hid ((words9 wss i).drop k = sufAt wss (c :: t) (q + 1)) := by
                      have hyc : y ≠ c :: t := fun e => hlj (by
                        have h1 := congrArg List.length e
                        have h2 := congrArg List.length HCT.out
                        rw [List.length_drop] at h2
                        have h3 := HXL.out
                        have h4 := HYL.out
                        omega)
                      have h := hst.out
                      rw [if_neg hyc, ← HKK.out] at h
                      exact h
                    clear hlj
                    go_upto_region 19 with fail
                    refine wp_region_quiet_below mixed (by kernel_rfl) ?_
                    repeat (go_big_quiet_step (exact grown_below (EE.out _ (below_regrown wr _ _))))
                    refine wpQuiet_nil ?_
                    rintro _ ⟨⟨dq, osq⟩, rfl⟩
                    go_wp2
                    go_roundw
                    case rel => exact ⟨k, q + 1, by omega, hkm, rfl, by go_num, HK4, HBI.out.trans ((below_regrown wr dq osq).mono HBI.out.size)⟩
                    case measure => simp [intOf]; omega
                · obtain rfl : q = la := by omega
                  have hdq : decide ((q : Int) < q) = false := by simp
                  have HK3 : Hid ((words9 wss i).drop k = sufW wss (x.drop (x.length - (j - 1)))) := by rw [Hid, HK.out, sufAt_end (by rw [HL.out]; exact Nat.le_refl _), HT.out]
                  go_wp2
                  go_roundw
                  case rel => exact ⟨k, j - 1, by omega, hkm, rfl, by go_num, HK3, hBi⟩
                  case measure => simp [intOf]; omega
            · obtain rfl : j = 0 := by omega
              have hdj : decide ((0 : Int) < ((0 : Nat) : Int)) = false := by simp
              have hkm2 : k = m := by
                have h := congrArg List.length HK.out
                rw [Nat.sub_zero, List.drop_length, List.length_drop, E1.out] at h
                have h2 : (sufW wss []).length = 0 := rfl
                omega
              subst hkm2
              have hmx : max ((mostN wss i : Nat) : Int) (k : Int) = ((mostN wss (i + 1) : Nat) : Int) := by
                have : cnt9 wss i = k := HMM.out
                show _ = ((max (mostN wss i) (cnt9 wss i) : Nat) : Int)
                omega
              have HB5j := Lib.hid (HB56.out.trans (hBj.mono HB56.out.size))
              clear hBj
              go_wp2
              go_roundw
              case rel => exact ⟨i + 1, by omega, by go_num, by rw [← hmx], HB5j.out⟩
              case measure => simp [intOf]; omega
        · obtain rfl : i = n := by omega
          have hd : decide ((i : Int) < i) = false := by simp
          have HMo := Lib.hid (most9_yes _ (trieP wss) _ wss wr hC.tri (by show i ≤ 140737488351232; omega) HRD.out)
          rw [HNN.out] at HMo
          obtain ⟨d0, d1, d2, d3⟩ := hC.cells
          have HBC := Lib.hid hC.bel
          clear hC
          go_wp2_with fail
          refine HMo.out.mono ?_
          rintro e w6 ⟨rfl, hb6⟩
          have hB6 := HBC.out.trans (hb6.mono HBC.out.size)
          clear d0 d1 d2 d3
          go_wp2_with fail
          refine (wakes9 _).mono ?_
          rintro e w7 ⟨rfl, hb7⟩
          have hB7 := hB6.trans (hb7.mono hB6.size)
          go_wp2
          go_ret
          exact ⟨rfl, hB7⟩

end Go.Proofs.YtifcoalhkcflnaaGreat
