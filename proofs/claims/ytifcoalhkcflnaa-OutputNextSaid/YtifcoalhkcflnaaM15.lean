/- The law OutputNext (layer 9): walked. -/
import Derived.Test.YtifcoalhkcflnaaM14
import Derived.Test.YtifcoalhkcflnaaM12

namespace Go.Proofs.Ytifcoalhkcflnaa
open Go.RowKit Go.Sort
set_option linter.unusedVariables false
set_option linter.unusedSimpArgs false

/-- What lies there all the way. -/
structure CN (w : World) (t : TV) (Q q : Nat) (wss : List (List Int)) (W : World) : Prop where
  tri : Tri W t (trieP wss)
  box : W.heap[Q]? = some (.cells t.cells 49 (0, 0))
  nxt : IntRow q (nextsP wss) W
  bel : Below w.heap.size w W
theorem CN.below {w W V : World} {t : TV} {Q q : Nat} {wss : List (List Int)} (h : CN w t Q q wss W) (hb : Below W.heap.size W V) : CN w t Q q wss V :=
  ⟨h.tri.below hb, (hb.block Q (Array.getElem?_eq_some_iff.1 h.box).1).trans h.box, (hb.block q (Array.getElem?_eq_some_iff.1 (show W.heap[q]? = _ from h.nxt)).1).trans h.nxt, h.bel.trans (hb.mono h.bel.size)⟩
theorem CN.cells {w W : World} {ua da xa ba : Option Addr} {un uc dn dc xn xc bn bc Q q : Nat} {wss : List (List Int)} (h : CN w ⟨ua, un, uc, da, dn, dc, xa, xn, xc, ba, bn, bc⟩ Q q wss W) :
    W.cell? ⟨Q, 0, none⟩ = some (.slice ua un uc) ∧ W.cell? ⟨Q, 1, none⟩ = some (.slice da dn dc) ∧ W.cell? ⟨Q, 2, none⟩ = some (.slice xa xn xc) ∧ W.cell? ⟨Q, 3, none⟩ = some (.slice ba bn bc) := by
  have := h.box
  refine ⟨?_, ?_, ?_, ?_⟩ <;> simp [World.cell?, this]

set_option maxRecDepth 100000 in
set_option maxHeartbeats 8000000 in
theorem outputNext_walk (fold : Bool) (a : Option Addr) (la ca : Nat) (wss : List (List Int)) (w : World) (hA : Wds w a la wss) :
    Calls Try.prog 9 #[.agg (setV fold a la ca)] w fun e w' => e = .returned (.bool true) ∧ Below w.heap.size w w' := by
  obtain ⟨i0, hi, hz0, hz2, hz3⟩ := info_parts i64_info7
  have HL := Lib.hid hA.len
  obtain ⟨W, hW⟩ : ∃ W, W = w.alloc (.cells (setV fold a la ca) 24) := ⟨_, rfl⟩
  have hB : Below w.heap.size w W := by rw [hW]; exact below_alloc _ _
  have hO : Bx w.heap.size [.cells (setV fold a la ca) 24] W := by rw [hW]; exact (Bx.nil _ w).snoc _ rfl
  have s0 : W.cell? ⟨w.heap.size, 0, none⟩ = some (.bool fold) := hO.cell (i := 0) rfl rfl
  have s1 : W.cell? ⟨w.heap.size, 1, none⟩ = some (.slice a la ca) := hO.cell (i := 0) rfl rfl
  have hg := great5_any fold a la ca wss W (hA.below hB)
  obtain ⟨G, hG⟩ : ∃ G, greatP wss = G := ⟨_, rfl⟩
  rw [hG] at hg
  have HG := Lib.hid hg
  clear hg
  go_enter Try.func9, Try.ntmps9
  go_upto_region 1 with fail
  rw [← hW]
  clear hW
  go_wp2_with fail
  refine HG.out.mono ?_
  rintro e w1 ⟨rfl, hb1⟩
  have hB1 := hB.trans (hb1.mono hB.size)
  have hO1 := hO.below hb1
  clear s0 s1 hO hB hb1 HG
  cases G with
  | true =>
    go_wp2_with fail
    refine (wakes9 _).mono ?_
    rintro e w2 ⟨rfl, hb2⟩
    have hB2 := hB1.trans (hb2.mono hB1.size)
    go_wp2
    go_ret
    exact ⟨rfl, hB2⟩
  | false =>
    obtain ⟨g1, g2, g3⟩ := gr8_bd hG fold
    rw [HL.out] at g1
    have s0 : w1.cell? ⟨w.heap.size, 0, none⟩ = some (.bool fold) := hO1.cell (i := 0) rfl rfl
    have s1 : w1.cell? ⟨w.heap.size, 1, none⟩ = some (.slice a la ca) := hO1.cell (i := 0) rfl rfl
    have hR := rright_any fold a la ca wss w1 (hA.below hB1) (by omega) (fun x hx => by have := g2 x hx; omega)
    rw [← right_eq] at hR
    have HR := Lib.hid hR
    clear hR
    cases hr : rightP fold wss with
    | false =>
      rw [hr] at HR
      clear hr g1 g2 g3
      go_wp2_with fail
      refine HR.out.mono ?_
      rintro e w2 ⟨rfl, hb2⟩
      have hB2 := hB1.trans (hb2.mono hB1.size)
      clear s0 s1
      go_wp2_with fail
      refine (wakes9 _).mono ?_
      rintro e w3 ⟨rfl, hb3⟩
      have hB3 := hB2.trans (hb3.mono hB2.size)
      go_wp2
      go_ret
      exact ⟨rfl, hB3⟩
    | true =>
      rw [hr] at HR
      obtain ⟨_, _, hread, r1, r3⟩ := ok_right (fold := fold) (wss := wss) (by unfold okB; rw [hG, hr]; rfl)
      clear g1 g2 g3
      go_wp2_with fail
      refine HR.out.mono ?_
      rintro e w2 ⟨rfl, hb2⟩
      have hB2 := hB1.trans (hb2.mono hB1.size)
      have hO2 := hO1.below hb2
      clear s0 s1 hb2
      have s0 : w2.cell? ⟨w.heap.size, 0, none⟩ = some (.bool fold) := hO2.cell (i := 0) rfl rfl
      have s1 : w2.cell? ⟨w.heap.size, 1, none⟩ = some (.slice a la ca) := hO2.cell (i := 0) rfl rfl
      have HC := Lib.hid (rmake7_yes fold a la ca wss w2 (hA.below hB2) hr)
      clear hr hG HR hO1
      go_wp2_with fail
      refine HC.out.mono ?_
      rintro e w3 ⟨t, rfl, hT, hb3⟩
      obtain ⟨ua, un, uc, da, dn, dc, xa, xn, xc, ba, bn, bc⟩ := t
      have hun : (nodesL wss).length = un := by have := hT.up.1; rw [(wrd_len wss).2.2.1] at this; exact this
      have hdn : (nodesL wss).length = dn := by have := hT.dep.1; rw [(wrd_len wss).2.1] at this; exact this
      have hxn : (nodesL wss).length = xn := by have := hT.wrd.1; rw [(wrd_len wss).1] at this; exact this
      have hB3 := hB2.trans (hb3.mono hB2.size)
      clear HC hb3 s0 s1 hO2
      obtain ⟨W4, hW4⟩ : ∃ W, W = w3.alloc (.cells #[.slice ua un uc, .slice da dn dc, .slice xa xn xc, .slice ba bn bc] 49) := ⟨_, rfl⟩
      have hb4 : Below w3.heap.size w3 W4 := by rw [hW4]; exact below_alloc _ _
      have hQ : W4.heap[w3.heap.size]? = some (.cells #[.slice ua un uc, .slice da dn dc, .slice xa xn xc, .slice ba bn bc] 49 (0, 0)) := by rw [hW4]; exact World.alloc_heap_new _ _
      go_upto_region 4 with fail
      rw [← hW4]
      clear hW4
      have hT4 := hT.below hb4
      have hB4 := hB3.trans (hb4.mono hB3.size)
      obtain ⟨Q, hQe⟩ : ∃ Q, w3.heap.size = Q := ⟨_, rfl⟩
      rw [hQe] at hQ ⊢
      clear hT hb4 hB3 hQe
      have HN : Hid ((nodesL wss).length ≤ 400) := read_n hread
      have H5 := Lib.hid (next9_yes _ (trieP wss) _ wss W4 hT4 (by show un ≤ 140737488351232; rw [← hun]; have := HN.out; omega) hread)
      have c0 : W4.cell? ⟨Q, 0, none⟩ = some (.slice ua un uc) := by simp [World.cell?, hQ]
      have c1 : W4.cell? ⟨Q, 1, none⟩ = some (.slice da dn dc) := by simp [World.cell?, hQ]
      have c2 : W4.cell? ⟨Q, 2, none⟩ = some (.slice xa xn xc) := by simp [World.cell?, hQ]
      have c3 : W4.cell? ⟨Q, 3, none⟩ = some (.slice ba bn bc) := by simp [World.cell?, hQ]
      obtain ⟨n, hn⟩ : ∃ n, (nodesL wss).length = n := ⟨_, rfl⟩
      rw [hn] at hun hdn hxn H5 HN
      subst hun
      subst hdn
      subst hxn
      have HNN := Lib.hid hn
      have HRD := Lib.hid hread
      have hn4 : n ≤ 400 := HN.out
      have R3 := Lib.hid r3
      clear hn hread r1 r3
      go_wp2_with fail
      refine H5.out.mono ?_
      rintro e w5 ⟨q, rfl, hq, hql, hb5⟩
      have hC5 : CN w ⟨ua, n, uc, da, n, dc, xa, n, xc, ba, bn, bc⟩ Q q wss w5 := ⟨hT4.below hb5, (hb5.block Q (Array.getElem?_eq_some_iff.1 hQ).1).trans hQ, hq, hB4.trans (hb5.mono hB4.size)⟩
      obtain ⟨d0, d1, d2, d3⟩ := hC5.cells
      clear c0 c1 c2 c3 hQ hT4 hB4 H5 hq hb5
      have dn0 : decide ((n : Int) = (n : Int)) = true := by simp
      go_upto_region 7 with fail
      clear d0 d1 d2 d3
      go_wp2_with fail
      go_loopw [7] (fun s7 wr => ∃ z : Nat, z ≤ n ∧ s7 = .int .i64 z ∧ CN w ⟨ua, n, uc, da, n, dc, xa, n, xc, ba, bn, bc⟩ Q q wss wr) (fun s _ => n - (intOf s).toNat)
      case atStart => exact ⟨0, Nat.zero_le _, rfl, hC5⟩
      case round =>
        clear hC5
        obtain ⟨z, hzn, rfl, hC⟩ := hrel
        by_cases hzl : z < n
        · have hd : decide ((z : Int) < n) = true := by simp; omega
          have hz1 : z < (nodesL wss).length := by rw [HNN.out]; exact hzl
          obtain ⟨x, hx⟩ : ∃ x, (nodesL wss)[z]? = some x := ⟨(nodesL wss)[z], by simp⟩
          obtain ⟨y, hy, hy1, hy2⟩ := nx_law hx
          have hPj := nextsP_at hz1
          obtain ⟨p, hp⟩ : ∃ p, nx wss z = p := ⟨_, rfl⟩
          rw [hp] at hy hy1 hy2 hPj
          have hpn : p < n := by have := (List.getElem?_eq_some_iff.1 hy).1; rw [HNN.out] at this; exact this
          obtain ⟨d0, d1, d2, d3⟩ := hC.cells
          have qz : wr.cell? ⟨q, z, none⟩ = some (.int .i64 (p : Int)) := by
            rw [cell_of_row wr q z _ _ _ hC.nxt]
            simp [hPj]
          obtain ⟨bd, od, lx, ed, hdl, cdz, hdz⟩ := sl1_at hC.tri.dep hzl
          obtain ⟨bd2, od2, ly, ed2, _, cdp, hdp⟩ := sl1_at hC.tri.dep hpn
          obtain ⟨bx, ox, v, ex, hxl, cxz, hxz⟩ := sl1_at hC.tri.wrd hzl
          obtain ⟨bx2, ox2, v2, ex2, _, cxp, hxp⟩ := sl1_at hC.tri.wrd hpn
          have hlx : lx = (x.length : Int) := by simp [trieP, hx] at hdz; omega
          have hly : ly = (y.length : Int) := by simp [trieP, hy] at hdp; omega
          have CX := Lib.hid hC
          have HX := Lib.hid hx
          have HP := Lib.hid hp
          have HY := Lib.hid hy2
          have HXZ := Lib.hid hxz
          have HPJ := Lib.hid hPj
          have HXP := Lib.hid hxp
          subst ed ex
          obtain ⟨rfl, rfl⟩ : bd = bd2 ∧ od = od2 := by injection ed2 with h; injection h with h1 h2; exact ⟨h1, h2⟩
          obtain ⟨rfl, rfl⟩ : bx = bx2 ∧ ox = ox2 := by injection ex2 with h; injection h with h1 h2; exact ⟨h1, h2⟩
          have i1 : (0 : Int) ≤ (z : Int) := by omega
          have i2 : (z : Int) < (n : Int) := by omega
          have i3 : (0 : Int) ≤ (p : Int) := by omega
          have i4 : (p : Int) < (n : Int) := by omega
          have e1 : decide ((p : Int) < 0) = false := by simp
          have e2 : decide ((n : Int) ≤ (p : Int)) = false := by simp; omega
          have e2' : decide (n ≤ p) = false := by simp; omega
          have k3 : ∃ B, decide ((0 : Int) < (z : Int)) = B ∧ decide (0 < z) = B ∧ (B = true → decide (ly < lx) = true ∧ decide (lx ≤ ly) = false ∧ decide ((z : Int) = 0) = false ∧ decide (z = 0) = false) ∧ (B = false → z = 0 ∧ p = 0) := by
            by_cases h0 : 0 < z
            · refine ⟨true, by simp; omega, by simp; omega, fun _ => ?_, fun h => by cases h⟩
              have := hy1 h0
              refine ⟨by simp; omega, by simp; omega, by simp; omega, by simp; omega⟩
            · refine ⟨false, by simp; omega, by simp; omega, fun h => by (cases h), fun _ => ⟨by omega, ?_⟩⟩
              rw [← hp, show z = 0 by omega, nx_zero]
          obtain ⟨B, e3, e3', e4, e5⟩ := k3
          clear hC hx hp hy hy1 hy2 hxz hxp hdz hdp hPj hz1 hlx hly ed2 ex2
          go_upto_region 10 with fail
          go_cut [91] from 41 to 154 (fun s wx => s = .bool false ∧ CN w ⟨ua, n, uc, some ⟨bd, od, none⟩, n, dc, some ⟨bx, ox, none⟩, n, xc, ba, bn, bc⟩ Q q wss wx)
          case first =>
            cases B with
            | false =>
              obtain ⟨z0, p0⟩ := e5 rfl
              have e6 : decide ((z : Int) = 0) = true := by simp; omega
              have e7 : decide (z = 0) = true := by simp; omega
              have e8 : decide ((p : Int) = 0) = true := by simp; omega
              have e9 : decide (p = 0) = true := by simp; omega
              have e10 : ((z : Int) == 0) = true := by simp; omega
              have e11 : ((p : Int) == 0) = true := by simp; omega
              have e12 : ((p : Int) != 0) = false := by simp; omega
              have ZP := Lib.hid (show z = 0 ∧ p = 0 from ⟨z0, p0⟩)
              clear e4 e5 z0 p0
              refine region_drawn_tail 44 mixed (by kernel_rfl) ?_
              dsimp only [List.take_succ_cons, List.take_zero, List.drop_succ_cons, List.drop_zero]
              repeat (go_big_quiet_step (fail))
              refine wpQuiet_nil ?_
              rintro _ ⟨nd, rfl⟩
              go_wp2
              go_meet
              exact ⟨rfl, CX.out.below (bel_drewN _ _)⟩
            | true =>
              obtain ⟨e5, e6, e7, e8⟩ := e4 rfl
              clear e4
              have e10 : ((z : Int) == 0) = false := by have := of_decide_eq_false e8; simp; omega
              refine region_drawn_tail 44 mixed (by kernel_rfl) ?_
              dsimp only [List.take_succ_cons, List.take_zero, List.drop_succ_cons, List.drop_zero]
              repeat (go_big_quiet_step (fail))
              refine wpQuiet_nil ?_
              rintro _ ⟨nd, rfl⟩
              go_wp2
              go_meet
              exact ⟨rfl, CX.out.below (bel_drewN _ _)⟩
          case rest =>
            obtain ⟨V0, rfl⟩ : ∃ V, V = wc := ⟨_, rfl⟩
            obtain ⟨rfl, hC1⟩ := hcut
            clear d0 d1 d2 d3 qz cdz cdp cxz cxp e1 e2 e2' e3 e3' e4 e5
            obtain ⟨d0, d1, d2, d3⟩ := hC1.cells
            have qz : V0.cell? ⟨q, z, none⟩ = some (.int .i64 (p : Int)) := by
              rw [cell_of_row V0 q z _ _ _ hC1.nxt]
              simp [HPJ.out]
            obtain ⟨bx2, ox2, v3, ex2, _, cxz, hxz⟩ := sl1_at hC1.tri.wrd hzl
            obtain ⟨rfl, rfl⟩ : bx = bx2 ∧ ox = ox2 := by injection ex2 with h; injection h with h1 h2; exact ⟨h1, h2⟩
            obtain rfl : v = v3 := Option.some.inj (HXZ.out.symm.trans hxz)
            have HCC := Lib.hid hC1
            clear ex2 hxz hC1
            go_upto_if 97 with fail
            go_cut [8] from 41 to 154 (fun s8 wx => ∃ (L : List Int) (a8 : Option Addr) (c8 : Nat), s8 = .slice a8 L.length c8 ∧ OwnI wx V0.heap.size (.slice a8 L.length c8) L ∧ Hid (L = if 0 ≤ v then [v] else []) ∧ CN w ⟨ua, n, uc, some ⟨bd, od, none⟩, n, dc, some ⟨bx, ox, none⟩, n, xc, ba, bn, bc⟩ Q q wss wx ∧ Below V0.heap.size V0 wx)
            case first =>
              by_cases hv : 0 ≤ v
              · have dv : decide ((0 : Int) ≤ v) = true := by simpa using hv
                have HL8 : Hid ([v] = if 0 ≤ v then [v] else []) := by rw [Hid, if_pos hv]
                go_wp2_with (at_builtin; refine wpList_append_slK rfl _ _ 37 rfl V0.heap.size 3 i0 (.int .i64 0) 1 8 Try.underlying37 hi hz0 hz2 hz3 rfl (by decide) _ _ _ rfl (World.ownsRow_nil _ _ _ _) (some ⟨V0.heap.size, 0, none⟩) 1 1 [.int .i64 v] rfl (slk_new V0 v) (by simp [Value.oneCell']) (by unfold maxLen; omega) (by omega) (by simp) ?_; intro v' w6 hown' hgrow hat)
                have hB6 : Below V0.heap.size V0 w6 := (below_alloc V0 _).grown hgrow (below_alloc V0 _).size (fun j hj => by cases hj)
                obtain ⟨g8, c8, rfl⟩ := ownsRow_succ hown'
                go_meet
                exact ⟨[v], _, _, rfl, hown', HL8.out, HCC.out.below hB6, hB6⟩
              · have dv : decide ((0 : Int) ≤ v) = false := by simpa using hv
                have HL8 : Hid ([] = if 0 ≤ v then [v] else []) := by rw [Hid, if_neg hv]
                go_wp2
                go_meet
                exact ⟨[], _, _, rfl, World.ownsRow_nil _ _ _ _, HL8.out, HCC.out, Below.refl _ _⟩
            case rest =>
              obtain ⟨V1, rfl⟩ : ∃ V, V = wc := ⟨_, rfl⟩
              obtain ⟨L, a8, c8, rfl, hW8, HL8, hC6, hB68⟩ := hcut
              obtain ⟨d0, d1, d2, d3⟩ := hC6.cells
              have qz : V1.cell? ⟨q, z, none⟩ = some (.int .i64 (p : Int)) := by
                rw [cell_of_row V1 q z _ _ _ hC6.nxt]
                simp [HPJ.out]
              have hBD : Below V1.heap.size V1 (V1.drew.alloc (.cells #[.int .i64 (p : Int)] 3)) := (bel_drewN V1 1).alloc (Nat.le_refl _) _
              have HM := Lib.hid (words9_yes _ (trieP wss) _ wss [(p : Int)] (some ⟨V1.heap.size, 0, none⟩) 1 1 (V1.drew.alloc (.cells #[.int .i64 (p : Int)] 3)) (hC6.tri.below hBD) (by show n ≤ 140737488351232; omega) HRD.out (Sl1.lay (Value.int .i64) V1.drew [(p : Int)] _ _ rfl) (by decide))
              rw [wordsP9_one (by rw [HNN.out]; exact hpn)] at HM
              have HC6 := Lib.hid hC6
              have HOW := Lib.hid hW8
              clear hC6 hW8 d0 d1 d2 d3 qz
              go_upto_region 15 with fail
              go_cut [9, 10] from 41 to 154 (fun s9 s10 wx => ∃ (am : Option Addr) (cm : Nat) , s9 = .slice am (words9 wss p).length cm ∧ s10 = .int .i64 0 ∧ OwnI wx V0.heap.size (.slice a8 L.length c8) L ∧ Sl1 (Value.int .i64) wx am (words9 wss p).length (words9 wss p) ∧ CN w ⟨ua, n, uc, some ⟨bd, od, none⟩, n, dc, some ⟨bx, ox, none⟩, n, xc, ba, bn, bc⟩ Q q wss wx ∧ Below V1.heap.size V1 wx)
              case first =>
                refine wp_region_noPanic ?_
                refine wp_region_held_drew (S := CN w ⟨ua, n, uc, some ⟨bd, od, none⟩, n, dc, some ⟨bx, ox, none⟩, n, xc, ba, bn, bc⟩ Q q wss) (by kernel_rfl) ?_ (fun hHeld => ?_)
                · exact HC6.out.below (bel_drewN V1 1)
                refine wpAnyH_take (i := 0) (v := ?_) (by simp only [List.getElem?_toArray, List.getElem?_cons_zero, List.getElem?_cons_succ]; rfl) (by kernel_rfl) (by kernel_rfl) (by kernel_rfl) (fun _ _ _ h => h) (Or.inl ⟨by rfl, ?_⟩) (by assumption) ?_
                rotate_left
                · intro V hV
                  obtain ⟨r0, r1, r2, r3⟩ := hV.cells
                  have rz : V.cell? ⟨q, z, none⟩ = some (.int .i64 (p : Int)) := by
                    rw [cell_of_row V q z _ _ _ hV.nxt]
                    simp [HPJ.out]
                  first | (go_simp; done) | (go_simp; with_reducible rfl)
                try simp only [Act.put, List.setIfInBounds_toArray, List.set_cons_zero, List.set_cons_succ]
                refine wpAnyH_take (i := 1) (v := ?_) (by simp only [List.getElem?_toArray, List.getElem?_cons_zero, List.getElem?_cons_succ]; rfl) (by kernel_rfl) (by kernel_rfl) (by kernel_rfl) (fun _ _ _ h => h) (Or.inl ⟨by rfl, ?_⟩) (by assumption) ?_
                rotate_left
                · intro V hV
                  obtain ⟨r0, r1, r2, r3⟩ := hV.cells
                  have rz : V.cell? ⟨q, z, none⟩ = some (.int .i64 (p : Int)) := by
                    rw [cell_of_row V q z _ _ _ hV.nxt]
                    simp [HPJ.out]
                  first | (go_simp; done) | (go_simp; with_reducible rfl)
                try simp only [Act.put, List.setIfInBounds_toArray, List.set_cons_zero, List.set_cons_succ]
                refine wpAnyH_take (i := 2) (v := ?_) (by simp only [List.getElem?_toArray, List.getElem?_cons_zero, List.getElem?_cons_succ]; rfl) (by kernel_rfl) (by kernel_rfl) (by kernel_rfl) (fun _ _ _ h => h) (Or.inl ⟨by rfl, ?_⟩) (by assumption) ?_
                rotate_left
                · intro V hV
                  obtain ⟨r0, r1, r2, r3⟩ := hV.cells
                  have rz : V.cell? ⟨q, z, none⟩ = some (.int .i64 (p : Int)) := by
                    rw [cell_of_row V q z _ _ _ hV.nxt]
                    simp [HPJ.out]
                  first | (go_simp; done) | (go_simp; with_reducible rfl)
                try simp only [Act.put, List.setIfInBounds_toArray, List.set_cons_zero, List.set_cons_succ]
                refine wpAnyH_take (i := 3) (v := ?_) (by simp only [List.getElem?_toArray, List.getElem?_cons_zero, List.getElem?_cons_succ]; rfl) (by kernel_rfl) (by kernel_rfl) (by kernel_rfl) (fun _ _ _ h => h) (Or.inl ⟨by rfl, ?_⟩) (by assumption) ?_
                rotate_left
                · intro V hV
                  obtain ⟨r0, r1, r2, r3⟩ := hV.cells
                  have rz : V.cell? ⟨q, z, none⟩ = some (.int .i64 (p : Int)) := by
                    rw [cell_of_row V q z _ _ _ hV.nxt]
                    simp [HPJ.out]
                  first | (go_simp; done) | (go_simp; with_reducible rfl)
                try simp only [Act.put, List.setIfInBounds_toArray, List.set_cons_zero, List.set_cons_succ]
                refine wpAnyH_take (i := 4) (v := ?_) (by simp only [List.getElem?_toArray, List.getElem?_cons_zero, List.getElem?_cons_succ]; rfl) (by kernel_rfl) (by kernel_rfl) (by kernel_rfl) (fun _ _ _ h => h) (Or.inl ⟨by rfl, ?_⟩) (by assumption) ?_
                rotate_left
                · intro V hV
                  obtain ⟨r0, r1, r2, r3⟩ := hV.cells
                  have rz : V.cell? ⟨q, z, none⟩ = some (.int .i64 (p : Int)) := by
                    rw [cell_of_row V q z _ _ _ hV.nxt]
                    simp [HPJ.out]
                  first | (go_simp; done) | (go_simp; with_reducible rfl)
                try simp only [Act.put, List.setIfInBounds_toArray, List.set_cons_zero, List.set_cons_succ]
                refine wpAnyH_ready (rs := [5]) (by kernel_rfl) (by simp) ?_
                refine AllReadyH.cons (by simp only [List.getElem?_toArray, List.getElem?_cons_zero, List.getElem?_cons_succ]; rfl) (fun K hK => ?_) AllReadyH.nil
                have hOld := hHeld
                go_simp
                refine hK.out _ _ ?_ (fun hNew => ?_)
                · exact hOld.below (below_alloc _ _)
                clear hK K hHeld hOld
                have hHeld := hNew
                clear hNew
                try simp only [Act.put, List.setIfInBounds_toArray, List.set_cons_zero, List.set_cons_succ]
                refine wpAnyH_ready (rs := [6]) (by kernel_rfl) (by simp) ?_
                refine AllReadyH.cons (by simp only [List.getElem?_toArray, List.getElem?_cons_zero, List.getElem?_cons_succ]; rfl) (fun K hK => ?_) AllReadyH.nil
                have hOld := hHeld
                go_simp
                go_at_call 37; refine HM.out.mono ?_; rintro e w7 ⟨⟨u, rfl, hu⟩, hb7⟩; obtain ⟨au, cu, rfl, _, hus⟩ := own_sl1 (enc := Value.int .i64) hu
                refine hK.out _ _ ?_ (fun hNew => ?_)
                · exact hOld.below hb7
                clear hK K hHeld hOld
                have hHeld := hNew
                clear hNew
                try simp only [Act.put, List.setIfInBounds_toArray, List.set_cons_zero, List.set_cons_succ]
                refine wpAnyH_take (i := 7) (v := ?_) (by simp only [List.getElem?_toArray, List.getElem?_cons_zero, List.getElem?_cons_succ]; rfl) (by kernel_rfl) (by kernel_rfl) (by kernel_rfl) (fun _ _ _ h => h) (Or.inl ⟨by rfl, ?_⟩) (by assumption) ?_
                rotate_left
                · intro V hV
                  obtain ⟨r0, r1, r2, r3⟩ := hV.cells
                  have rz : V.cell? ⟨q, z, none⟩ = some (.int .i64 (p : Int)) := by
                    rw [cell_of_row V q z _ _ _ hV.nxt]
                    simp [HPJ.out]
                  first | (go_simp; done) | (go_simp; with_reducible rfl)
                try simp only [Act.put, List.setIfInBounds_toArray, List.set_cons_zero, List.set_cons_succ]
                refine wpAnyH_take (i := 8) (v := ?_) (by simp only [List.getElem?_toArray, List.getElem?_cons_zero, List.getElem?_cons_succ]; rfl) (by kernel_rfl) (by kernel_rfl) (by kernel_rfl) (fun _ _ _ h => h) (Or.inl ⟨by rfl, ?_⟩) (by assumption) ?_
                rotate_left
                · intro V hV
                  obtain ⟨r0, r1, r2, r3⟩ := hV.cells
                  have rz : V.cell? ⟨q, z, none⟩ = some (.int .i64 (p : Int)) := by
                    rw [cell_of_row V q z _ _ _ hV.nxt]
                    simp [HPJ.out]
                  first | (go_simp; done) | (go_simp; with_reducible rfl)
                try simp only [Act.put, List.setIfInBounds_toArray, List.set_cons_zero, List.set_cons_succ]
                refine wpAnyH_take (i := 9) (v := ?_) (by simp only [List.getElem?_toArray, List.getElem?_cons_zero, List.getElem?_cons_succ]; rfl) (by kernel_rfl) (by kernel_rfl) (by kernel_rfl) (fun _ _ _ h => h) (Or.inl ⟨by rfl, ?_⟩) (by assumption) ?_
                rotate_left
                · intro V hV
                  obtain ⟨r0, r1, r2, r3⟩ := hV.cells
                  have rz : V.cell? ⟨q, z, none⟩ = some (.int .i64 (p : Int)) := by
                    rw [cell_of_row V q z _ _ _ hV.nxt]
                    simp [HPJ.out]
                  first | (go_simp; done) | (go_simp; with_reducible rfl)
                try simp only [Act.put, List.setIfInBounds_toArray, List.set_cons_zero, List.set_cons_succ]
                refine wpAnyH_take (i := 10) (v := ?_) (by simp only [List.getElem?_toArray, List.getElem?_cons_zero, List.getElem?_cons_succ]; rfl) (by kernel_rfl) (by kernel_rfl) (by kernel_rfl) (fun _ _ _ h => h) (Or.inl ⟨by rfl, ?_⟩) (by assumption) ?_
                rotate_left
                · intro V hV
                  obtain ⟨r0, r1, r2, r3⟩ := hV.cells
                  have rz : V.cell? ⟨q, z, none⟩ = some (.int .i64 (p : Int)) := by
                    rw [cell_of_row V q z _ _ _ hV.nxt]
                    simp [HPJ.out]
                  first | (go_simp; done) | (go_simp; with_reducible rfl)
                try simp only [Act.put, List.setIfInBounds_toArray, List.set_cons_zero, List.set_cons_succ]
                refine wpAnyH_take (i := 11) (v := ?_) (by simp only [List.getElem?_toArray, List.getElem?_cons_zero, List.getElem?_cons_succ]; rfl) (by kernel_rfl) (by kernel_rfl) (by kernel_rfl) (fun _ _ _ h => h) (Or.inl ⟨by rfl, ?_⟩) (by assumption) ?_
                rotate_left
                · intro V hV
                  obtain ⟨r0, r1, r2, r3⟩ := hV.cells
                  have rz : V.cell? ⟨q, z, none⟩ = some (.int .i64 (p : Int)) := by
                    rw [cell_of_row V q z _ _ _ hV.nxt]
                    simp [HPJ.out]
                  first | (go_simp; done) | (go_simp; with_reducible rfl)
                try simp only [Act.put, List.setIfInBounds_toArray, List.set_cons_zero, List.set_cons_succ]
                refine wpAnyH_done (by kernel_rfl) ?_ _
                refine NoPanic.normal ?_
                have hB7 : Below V1.heap.size V1 w7 := hBD.trans (hb7.mono hBD.size)
                go_wp2
                go_meet
                exact ⟨_, _, rfl, rfl, row_below HOW.out hB7, hus, hHeld, hB7⟩
              case rest =>
                obtain ⟨V2, rfl⟩ : ∃ V, V = wc := ⟨_, rfl⟩
                obtain ⟨am, cm, rfl, rfl, hW8, hM8, hC7, hB12⟩ := hcut
                obtain ⟨d0, d1, d2, d3⟩ := hC7.cells
                have hBE : Below V2.heap.size V2 (V2.alloc (.cells #[.int .i64 (z : Int)] 3)) := below_alloc _ _
                have HM2 := Lib.hid (words9_yes _ (trieP wss) _ wss [(z : Int)] (some ⟨V2.heap.size, 0, none⟩) 1 1 (V2.alloc (.cells #[.int .i64 (z : Int)] 3)) (hC7.tri.below hBE) (by show n ≤ 140737488351232; omega) HRD.out (Sl1.lay (Value.int .i64) V2 [(z : Int)] _ _ rfl) (by decide))
                rw [wordsP9_one (by rw [HNN.out]; exact hzl)] at HM2
                have HC7 := Lib.hid hC7
                have HOW2 := Lib.hid hW8
                have HM8 := Lib.hid hM8
                clear hC7 hW8 hM8
                go_upto_region 16 with fail
                go_wp2_with fail
                refine HM2.out.mono ?_
                rintro e w8 ⟨⟨u, rfl, hu⟩, hb8⟩
                have HU := Lib.hid hu
                obtain ⟨au, cu, rfl, _, hus⟩ := own_sl1 (enc := Value.int .i64) hu
                have hB8 : Below V2.heap.size V2 w8 := hBE.trans (hb8.mono hBE.size)
                have HC8 := Lib.hid (HC7.out.below hB8)
                have HW8 : Hid (OwnI w8 V0.heap.size (.slice a8 L.length c8) L) := row_below HOW2.out hB8
                clear hu d0 d1 d2 d3
                have hB07 : Below V0.heap.size V0 V2 := hB68.trans (hB12.mono hB68.size)
                have HBD : Hid (RowKit.Below V0.heap.size V0 w8.drew) := (hB07.trans (hB8.mono hB07.size)).trans ((bel_drewN w8 1).mono (hB07.trans (hB8.mono hB07.size)).size)
                have HWD8 : Hid (w8.drew.ownsRow V0.heap.size 3 1 (.slice a8 L.length c8) L.length (L.map (Value.int .i64))) := HW8.out
                have HMD8 : Hid (Sl1 (Value.int .i64) w8.drew am (words9 wss p).length (words9 wss p)) := (HM8.out.keep hB8).keep (bel_drewN w8 1)
                have SEE : Hid (∀ V, RowKit.Below V0.heap.size V0 V → (V.cell? ⟨Q, 0, none⟩ = some (.slice ua n uc) ∧ V.cell? ⟨Q, 1, none⟩ = some (.slice (some ⟨bd, od, none⟩) n dc) ∧ V.cell? ⟨Q, 2, none⟩ = some (.slice (some ⟨bx, ox, none⟩) n xc) ∧ V.cell? ⟨Q, 3, none⟩ = some (.slice ba bn bc)) ∧ V.cell? ⟨q, z, none⟩ = some (.int .i64 (p : Int)) ∧ V.cell? ⟨bx, ox + p, none⟩ = some (.int .i64 v2)) := fun V hV => by
                  have h := HCC.out.below hV
                  obtain ⟨bx3, ox3, v3, ex3, _, cx3, hx3⟩ := sl1_at h.tri.wrd hpn
                  obtain ⟨rfl, rfl⟩ : bx = bx3 ∧ ox = ox3 := by injection ex3 with h; injection h with h1 h2; exact ⟨h1, h2⟩
                  obtain rfl : v2 = v3 := Option.some.inj (HXP.out.symm.trans hx3)
                  refine ⟨h.cells, ?_, cx3⟩
                  rw [cell_of_row V q z _ _ _ h.nxt]
                  simp [HPJ.out]
                have hLn : L.length ≤ 1 := by rw [HL8.out]; split <;> simp
                have hpw := words9_len wss p
                by_cases h0p : 0 < p
                · have t1 : decide ((0 : Int) < (p : Int)) = true := by simp; omega
                  have t2 : decide (0 < p) = true := by simp; omega
                  have t3 : decide (v2 < 0) = false := by
                    obtain ⟨v3, h3, h4⟩ := HY.out h0p
                    obtain rfl : v2 = v3 := Option.some.inj (HXP.out.symm.trans h3)
                    simp; omega
                  go_upto_region 17 with fail
                  refine wp_region_noPanic ?_
                  refine wp_region_held_drew (S := RowKit.Below V0.heap.size V0) (by kernel_rfl) ?_ (fun hHeld => ?_)
                  · exact HBD.out
                  refine wpAnyH_take (i := 0) (v := ?_) (by simp only [List.getElem?_toArray, List.getElem?_cons_zero, List.getElem?_cons_succ]; rfl) (by kernel_rfl) (by kernel_rfl) (by kernel_rfl) (fun _ _ _ h => h) (Or.inl ⟨by rfl, ?_⟩) (by assumption) ?_
                  rotate_left
                  · intro V hV
                    obtain ⟨⟨r0, r1, r2, r3⟩, rz, rp⟩ := SEE.out V hV
                    first | (go_simp; done) | (go_simp; with_reducible rfl)
                  try simp only [Act.put, List.setIfInBounds_toArray, List.set_cons_zero, List.set_cons_succ]
                  refine wpAnyH_take (i := 1) (v := ?_) (by simp only [List.getElem?_toArray, List.getElem?_cons_zero, List.getElem?_cons_succ]; rfl) (by kernel_rfl) (by kernel_rfl) (by kernel_rfl) (fun _ _ _ h => h) (Or.inl ⟨by rfl, ?_⟩) (by assumption) ?_
                  rotate_left
                  · intro V hV
                    obtain ⟨⟨r0, r1, r2, r3⟩, rz, rp⟩ := SEE.out V hV
                    first | (go_simp; done) | (go_simp; with_reducible rfl)
                  try simp only [Act.put, List.setIfInBounds_toArray, List.set_cons_zero, List.set_cons_succ]
                  refine wpAnyH_take (i := 2) (v := ?_) (by simp only [List.getElem?_toArray, List.getElem?_cons_zero, List.getElem?_cons_succ]; rfl) (by kernel_rfl) (by kernel_rfl) (by kernel_rfl) (fun _ _ _ h => h) (Or.inl ⟨by rfl, ?_⟩) (by assumption) ?_
                  rotate_left
                  · intro V hV
                    obtain ⟨⟨r0, r1, r2, r3⟩, rz, rp⟩ := SEE.out V hV
                    first | (go_simp; done) | (go_simp; with_reducible rfl)
                  try simp only [Act.put, List.setIfInBounds_toArray, List.set_cons_zero, List.set_cons_succ]
                  refine wpAnyH_take (i := 3) (v := ?_) (by simp only [List.getElem?_toArray, List.getElem?_cons_zero, List.getElem?_cons_succ]; rfl) (by kernel_rfl) (by kernel_rfl) (by kernel_rfl) (fun _ _ _ h => h) (Or.inl ⟨by rfl, ?_⟩) (by assumption) ?_
                  rotate_left
                  · intro V hV
                    obtain ⟨⟨r0, r1, r2, r3⟩, rz, rp⟩ := SEE.out V hV
                    first | (go_simp; done) | (go_simp; with_reducible rfl)
                  try simp only [Act.put, List.setIfInBounds_toArray, List.set_cons_zero, List.set_cons_succ]
                  refine wpAnyH_take (i := 4) (v := ?_) (by simp only [List.getElem?_toArray, List.getElem?_cons_zero, List.getElem?_cons_succ]; rfl) (by kernel_rfl) (by kernel_rfl) (by kernel_rfl) (fun _ _ _ h => h) (Or.inl ⟨by rfl, ?_⟩) (by assumption) ?_
                  rotate_left
                  · intro V hV
                    obtain ⟨⟨r0, r1, r2, r3⟩, rz, rp⟩ := SEE.out V hV
                    first | (go_simp; done) | (go_simp; with_reducible rfl)
                  try simp only [Act.put, List.setIfInBounds_toArray, List.set_cons_zero, List.set_cons_succ]
                  refine wpAnyH_take (i := 5) (v := ?_) (by simp only [List.getElem?_toArray, List.getElem?_cons_zero, List.getElem?_cons_succ]; rfl) (by kernel_rfl) (by kernel_rfl) (by kernel_rfl) (fun _ _ _ h => h) (Or.inl ⟨by rfl, ?_⟩) (by assumption) ?_
                  rotate_left
                  · intro V hV
                    obtain ⟨⟨r0, r1, r2, r3⟩, rz, rp⟩ := SEE.out V hV
                    first | (go_simp; done) | (go_simp; with_reducible rfl)
                  try simp only [Act.put, List.setIfInBounds_toArray, List.set_cons_zero, List.set_cons_succ]
                  refine wpAnyH_take (i := 6) (v := ?_) (by simp only [List.getElem?_toArray, List.getElem?_cons_zero, List.getElem?_cons_succ]; rfl) (by kernel_rfl) (by kernel_rfl) (by kernel_rfl) (fun _ _ _ h => h) (Or.inl ⟨by rfl, ?_⟩) (by assumption) ?_
                  rotate_left
                  · intro V hV
                    obtain ⟨⟨r0, r1, r2, r3⟩, rz, rp⟩ := SEE.out V hV
                    first | (go_simp; done) | (go_simp; with_reducible rfl)
                  try simp only [Act.put, List.setIfInBounds_toArray, List.set_cons_zero, List.set_cons_succ]
                  refine wpAnyH_take (i := 7) (v := ?_) (by simp only [List.getElem?_toArray, List.getElem?_cons_zero, List.getElem?_cons_succ]; rfl) (by kernel_rfl) (by kernel_rfl) (by kernel_rfl) (fun _ _ _ h => h) (Or.inl ⟨by rfl, ?_⟩) (by assumption) ?_
                  rotate_left
                  · intro V hV
                    obtain ⟨⟨r0, r1, r2, r3⟩, rz, rp⟩ := SEE.out V hV
                    first | (go_simp; done) | (go_simp; with_reducible rfl)
                  try simp only [Act.put, List.setIfInBounds_toArray, List.set_cons_zero, List.set_cons_succ]
                  refine wpAnyH_take (i := 8) (v := ?_) (by simp only [List.getElem?_toArray, List.getElem?_cons_zero, List.getElem?_cons_succ]; rfl) (by kernel_rfl) (by kernel_rfl) (by kernel_rfl) (fun _ _ _ h => h) (Or.inl ⟨by rfl, ?_⟩) (by assumption) ?_
                  rotate_left
                  · intro V hV
                    obtain ⟨⟨r0, r1, r2, r3⟩, rz, rp⟩ := SEE.out V hV
                    first | (go_simp; done) | (go_simp; with_reducible rfl)
                  try simp only [Act.put, List.setIfInBounds_toArray, List.set_cons_zero, List.set_cons_succ]
                  refine wpAnyH_take (i := 9) (v := ?_) (by simp only [List.getElem?_toArray, List.getElem?_cons_zero, List.getElem?_cons_succ]; rfl) (by kernel_rfl) (by kernel_rfl) (by kernel_rfl) (fun _ _ _ h => h) (Or.inl ⟨by rfl, ?_⟩) (by assumption) ?_
                  rotate_left
                  · intro V hV
                    obtain ⟨⟨r0, r1, r2, r3⟩, rz, rp⟩ := SEE.out V hV
                    first | (go_simp; done) | (go_simp; with_reducible rfl)
                  try simp only [Act.put, List.setIfInBounds_toArray, List.set_cons_zero, List.set_cons_succ]
                  refine wpAnyH_ready (rs := [10]) (by kernel_rfl) (by simp) ?_
                  refine AllReadyH.cons (by simp only [List.getElem?_toArray, List.getElem?_cons_zero, List.getElem?_cons_succ]; rfl) (fun K hK => ?_) AllReadyH.nil
                  refine wanted_step (by kernel_rfl) ?_
                  refine oper_append_slK _ _ _ 37 rfl V0.heap.size 3 i0 (.int .i64 0) 1 8 Try.underlying37 hi hz0 hz2 hz3 rfl (by decide) _ _ _ rfl HWD8.out am (words9 wss p).length cm _ rfl (slK_of_sl1 HMD8.out) (fun y hy => by obtain ⟨x, _, rfl⟩ := List.mem_map.1 hy; rfl) (by unfold maxLen; omega) (by omega) HBD.out.size ?_
                  intro v' w9 hown' hgrow hat
                  have hB9 : RowKit.Below V0.heap.size V0 w9 := HBD.out.grown hgrow HBD.out.size (fun j hj => (row_lt HWD8.out j hj).1)
                  rw [← List.map_append] at hown'
                  obtain ⟨a9, c9, rfl, _, h9⟩ := own_sl1 (enc := Value.int .i64) hown'
                  have HU9 := World.ownsRow.kept (w := w8.drew) HU.out hgrow (by
                    cases hb : (Value.slice au (words9 wss z).length cu).ownBlock with
                    | none => exact .inl rfl
                    | some k =>
                      refine .inr fun e => ?_
                      have k1 := (row_lt HU.out k hb).1
                      have k2 := (row_lt HOW2.out k e.symm).2
                      simp only [World.size_alloc] at k1
                      omega)
                  obtain ⟨au', cu', e', _, hus9⟩ := own_sl1 (enc := Value.int .i64) HU9
                  injection e' with e1 e2 e3
                  subst e1 e3
                  have hzw := words9_len wss z
                  have HI := Lib.hid (rints_any au a9 (words9 wss z).length cu (L.length + (words9 wss p).length) c9 _ _ w9 hus9 h9 (by omega))
                  have hdec := decide_eq_true (want_law (ws := wss) (fun x hx => (R3.out x hx).1) (by rw [HNN.out]; exact hzl) HXZ.out HP.out HL8.out)
                  rw [hdec] at HI
                  clear hdec
                  refine hK.out _ _ hB9 (fun hNew => ?_)
                  clear hK K hHeld
                  have hHeld := hNew
                  clear hNew e2 hown' hgrow hat
                  try simp only [Act.put, List.setIfInBounds_toArray, List.set_cons_zero, List.set_cons_succ]
                  refine wpAnyH_ready (rs := [11]) (by kernel_rfl) (by simp) ?_
                  refine AllReadyH.cons (by simp only [List.getElem?_toArray, List.getElem?_cons_zero, List.getElem?_cons_succ]; rfl) (fun K hK => ?_) AllReadyH.nil
                  have hOld := hHeld
                  go_simp
                  go_at_call 38; refine HI.out.mono ?_; rintro e w10 ⟨rfl, hb10⟩
                  have hB10 := hB9.trans (hb10.mono hB9.size)
                  refine hK.out _ _ hB10 (fun hNew => ?_)
                  clear hK K hHeld hOld
                  have hHeld := hNew
                  clear hNew
                  try simp only [Act.put, List.setIfInBounds_toArray, List.set_cons_zero, List.set_cons_succ]
                  refine wpAnyH_take (i := 12) (v := ?_) (by simp only [List.getElem?_toArray, List.getElem?_cons_zero, List.getElem?_cons_succ]; rfl) (by kernel_rfl) (by kernel_rfl) (by kernel_rfl) (fun _ _ _ h => h) (Or.inl ⟨by rfl, ?_⟩) (by assumption) ?_
                  rotate_left
                  · intro V hV
                    obtain ⟨⟨r0, r1, r2, r3⟩, rz, rp⟩ := SEE.out V hV
                    first | (go_simp; done) | (go_simp; with_reducible rfl)
                  try simp only [Act.put, List.setIfInBounds_toArray, List.set_cons_zero, List.set_cons_succ]
                  refine wpAnyH_take (i := 13) (v := ?_) (by simp only [List.getElem?_toArray, List.getElem?_cons_zero, List.getElem?_cons_succ]; rfl) (by kernel_rfl) (by kernel_rfl) (by kernel_rfl) (fun _ _ _ h => h) (Or.inl ⟨by rfl, ?_⟩) (by assumption) ?_
                  rotate_left
                  · intro V hV
                    obtain ⟨⟨r0, r1, r2, r3⟩, rz, rp⟩ := SEE.out V hV
                    first | (go_simp; done) | (go_simp; with_reducible rfl)
                  try simp only [Act.put, List.setIfInBounds_toArray, List.set_cons_zero, List.set_cons_succ]
                  refine wpAnyH_take (i := 14) (v := ?_) (by simp only [List.getElem?_toArray, List.getElem?_cons_zero, List.getElem?_cons_succ]; rfl) (by kernel_rfl) (by kernel_rfl) (by kernel_rfl) (fun _ _ _ h => h) (Or.inl ⟨by rfl, ?_⟩) (by assumption) ?_
                  rotate_left
                  · intro V hV
                    obtain ⟨⟨r0, r1, r2, r3⟩, rz, rp⟩ := SEE.out V hV
                    first | (go_simp; done) | (go_simp; with_reducible rfl)
                  try simp only [Act.put, List.setIfInBounds_toArray, List.set_cons_zero, List.set_cons_succ]
                  refine wpAnyH_take (i := 15) (v := ?_) (by simp only [List.getElem?_toArray, List.getElem?_cons_zero, List.getElem?_cons_succ]; rfl) (by kernel_rfl) (by kernel_rfl) (by kernel_rfl) (fun _ _ _ h => h) (Or.inl ⟨by rfl, ?_⟩) (by assumption) ?_
                  rotate_left
                  · intro V hV
                    obtain ⟨⟨r0, r1, r2, r3⟩, rz, rp⟩ := SEE.out V hV
                    first | (go_simp; done) | (go_simp; with_reducible rfl)
                  try simp only [Act.put, List.setIfInBounds_toArray, List.set_cons_zero, List.set_cons_succ]
                  refine wpAnyH_take (i := 16) (v := ?_) (by simp only [List.getElem?_toArray, List.getElem?_cons_zero, List.getElem?_cons_succ]; rfl) (by kernel_rfl) (by kernel_rfl) (by kernel_rfl) (fun _ _ _ h => h) (Or.inl ⟨by rfl, ?_⟩) (by assumption) ?_
                  rotate_left
                  · intro V hV
                    obtain ⟨⟨r0, r1, r2, r3⟩, rz, rp⟩ := SEE.out V hV
                    first | (go_simp; done) | (go_simp; with_reducible rfl)
                  try simp only [Act.put, List.setIfInBounds_toArray, List.set_cons_zero, List.set_cons_succ]
                  refine wpAnyH_take (i := 17) (v := ?_) (by simp only [List.getElem?_toArray, List.getElem?_cons_zero, List.getElem?_cons_succ]; rfl) (by kernel_rfl) (by kernel_rfl) (by kernel_rfl) (fun _ _ _ h => h) (Or.inl ⟨by rfl, ?_⟩) (by assumption) ?_
                  rotate_left
                  · intro V hV
                    obtain ⟨⟨r0, r1, r2, r3⟩, rz, rp⟩ := SEE.out V hV
                    first | (go_simp; done) | (go_simp; with_reducible rfl)
                  try simp only [Act.put, List.setIfInBounds_toArray, List.set_cons_zero, List.set_cons_succ]
                  refine wpAnyH_take (i := 18) (v := ?_) (by simp only [List.getElem?_toArray, List.getElem?_cons_zero, List.getElem?_cons_succ]; rfl) (by kernel_rfl) (by kernel_rfl) (by kernel_rfl) (fun _ _ _ h => h) (Or.inl ⟨by rfl, ?_⟩) (by assumption) ?_
                  rotate_left
                  · intro V hV
                    obtain ⟨⟨r0, r1, r2, r3⟩, rz, rp⟩ := SEE.out V hV
                    first | (go_simp; done) | (go_simp; with_reducible rfl)
                  try simp only [Act.put, List.setIfInBounds_toArray, List.set_cons_zero, List.set_cons_succ]
                  refine wpAnyH_take (i := 19) (v := ?_) (by simp only [List.getElem?_toArray, List.getElem?_cons_zero, List.getElem?_cons_succ]; rfl) (by kernel_rfl) (by kernel_rfl) (by kernel_rfl) (fun _ _ _ h => h) (Or.inl ⟨by rfl, ?_⟩) (by assumption) ?_
                  rotate_left
                  · intro V hV
                    obtain ⟨⟨r0, r1, r2, r3⟩, rz, rp⟩ := SEE.out V hV
                    first | (go_simp; done) | (go_simp; with_reducible rfl)
                  try simp only [Act.put, List.setIfInBounds_toArray, List.set_cons_zero, List.set_cons_succ]
                  refine wpAnyH_take (i := 20) (v := ?_) (by simp only [List.getElem?_toArray, List.getElem?_cons_zero, List.getElem?_cons_succ]; rfl) (by kernel_rfl) (by kernel_rfl) (by kernel_rfl) (fun _ _ _ h => h) (Or.inl ⟨by rfl, ?_⟩) (by assumption) ?_
                  rotate_left
                  · intro V hV
                    obtain ⟨⟨r0, r1, r2, r3⟩, rz, rp⟩ := SEE.out V hV
                    first | (go_simp; done) | (go_simp; with_reducible rfl)
                  try simp only [Act.put, List.setIfInBounds_toArray, List.set_cons_zero, List.set_cons_succ]
                  refine wpAnyH_take (i := 21) (v := ?_) (by simp only [List.getElem?_toArray, List.getElem?_cons_zero, List.getElem?_cons_succ]; rfl) (by kernel_rfl) (by kernel_rfl) (by kernel_rfl) (fun _ _ _ h => h) (Or.inl ⟨by rfl, ?_⟩) (by assumption) ?_
                  rotate_left
                  · intro V hV
                    obtain ⟨⟨r0, r1, r2, r3⟩, rz, rp⟩ := SEE.out V hV
                    first | (go_simp; done) | (go_simp; with_reducible rfl)
                  try simp only [Act.put, List.setIfInBounds_toArray, List.set_cons_zero, List.set_cons_succ]
                  refine wpAnyH_take (i := 22) (v := ?_) (by simp only [List.getElem?_toArray, List.getElem?_cons_zero, List.getElem?_cons_succ]; rfl) (by kernel_rfl) (by kernel_rfl) (by kernel_rfl) (fun _ _ _ h => h) (Or.inl ⟨by rfl, ?_⟩) (by assumption) ?_
                  rotate_left
                  · intro V hV
                    obtain ⟨⟨r0, r1, r2, r3⟩, rz, rp⟩ := SEE.out V hV
                    first | (go_simp; done) | (go_simp; with_reducible rfl)
                  try simp only [Act.put, List.setIfInBounds_toArray, List.set_cons_zero, List.set_cons_succ]
                  refine wpAnyH_take (i := 23) (v := ?_) (by simp only [List.getElem?_toArray, List.getElem?_cons_zero, List.getElem?_cons_succ]; rfl) (by kernel_rfl) (by kernel_rfl) (by kernel_rfl) (fun _ _ _ h => h) (Or.inl ⟨by rfl, ?_⟩) (by assumption) ?_
                  rotate_left
                  · intro V hV
                    obtain ⟨⟨r0, r1, r2, r3⟩, rz, rp⟩ := SEE.out V hV
                    first | (go_simp; done) | (go_simp; with_reducible rfl)
                  try simp only [Act.put, List.setIfInBounds_toArray, List.set_cons_zero, List.set_cons_succ]
                  refine wpAnyH_take (i := 24) (v := ?_) (by simp only [List.getElem?_toArray, List.getElem?_cons_zero, List.getElem?_cons_succ]; rfl) (by kernel_rfl) (by kernel_rfl) (by kernel_rfl) (fun _ _ _ h => h) (Or.inl ⟨by rfl, ?_⟩) (by assumption) ?_
                  rotate_left
                  · intro V hV
                    obtain ⟨⟨r0, r1, r2, r3⟩, rz, rp⟩ := SEE.out V hV
                    first | (go_simp; done) | (go_simp; with_reducible rfl)
                  try simp only [Act.put, List.setIfInBounds_toArray, List.set_cons_zero, List.set_cons_succ]
                  refine wpAnyH_take (i := 25) (v := ?_) (by simp only [List.getElem?_toArray, List.getElem?_cons_zero, List.getElem?_cons_succ]; rfl) (by kernel_rfl) (by kernel_rfl) (by kernel_rfl) (fun _ _ _ h => h) (Or.inl ⟨by rfl, ?_⟩) (by assumption) ?_
                  rotate_left
                  · intro V hV
                    obtain ⟨⟨r0, r1, r2, r3⟩, rz, rp⟩ := SEE.out V hV
                    first | (go_simp; done) | (go_simp; with_reducible rfl)
                  try simp only [Act.put, List.setIfInBounds_toArray, List.set_cons_zero, List.set_cons_succ]
                  refine wpAnyH_take (i := 26) (v := ?_) (by simp only [List.getElem?_toArray, List.getElem?_cons_zero, List.getElem?_cons_succ]; rfl) (by kernel_rfl) (by kernel_rfl) (by kernel_rfl) (fun _ _ _ h => h) (Or.inl ⟨by rfl, ?_⟩) (by assumption) ?_
                  rotate_left
                  · intro V hV
                    obtain ⟨⟨r0, r1, r2, r3⟩, rz, rp⟩ := SEE.out V hV
                    first | (go_simp; done) | (go_simp; with_reducible rfl)
                  try simp only [Act.put, List.setIfInBounds_toArray, List.set_cons_zero, List.set_cons_succ]
                  refine wpAnyH_take (i := 27) (v := ?_) (by simp only [List.getElem?_toArray, List.getElem?_cons_zero, List.getElem?_cons_succ]; rfl) (by kernel_rfl) (by kernel_rfl) (by kernel_rfl) (fun _ _ _ h => h) (Or.inl ⟨by rfl, ?_⟩) (by assumption) ?_
                  rotate_left
                  · intro V hV
                    obtain ⟨⟨r0, r1, r2, r3⟩, rz, rp⟩ := SEE.out V hV
                    first | (go_simp; done) | (go_simp; with_reducible rfl)
                  try simp only [Act.put, List.setIfInBounds_toArray, List.set_cons_zero, List.set_cons_succ]
                  refine wpAnyH_take (i := 28) (v := ?_) (by simp only [List.getElem?_toArray, List.getElem?_cons_zero, List.getElem?_cons_succ]; rfl) (by kernel_rfl) (by kernel_rfl) (by kernel_rfl) (fun _ _ _ h => h) (Or.inl ⟨by rfl, ?_⟩) (by assumption) ?_
                  rotate_left
                  · intro V hV
                    obtain ⟨⟨r0, r1, r2, r3⟩, rz, rp⟩ := SEE.out V hV
                    first | (go_simp; done) | (go_simp; with_reducible rfl)
                  try simp only [Act.put, List.setIfInBounds_toArray, List.set_cons_zero, List.set_cons_succ]
                  refine wpAnyH_take (i := 29) (v := ?_) (by simp only [List.getElem?_toArray, List.getElem?_cons_zero, List.getElem?_cons_succ]; rfl) (by kernel_rfl) (by kernel_rfl) (by kernel_rfl) (fun _ _ _ h => h) (Or.inl ⟨by rfl, ?_⟩) (by assumption) ?_
                  rotate_left
                  · intro V hV
                    obtain ⟨⟨r0, r1, r2, r3⟩, rz, rp⟩ := SEE.out V hV
                    first | (go_simp; done) | (go_simp; with_reducible rfl)
                  try simp only [Act.put, List.setIfInBounds_toArray, List.set_cons_zero, List.set_cons_succ]
                  refine wpAnyH_take (i := 30) (v := ?_) (by simp only [List.getElem?_toArray, List.getElem?_cons_zero, List.getElem?_cons_succ]; rfl) (by kernel_rfl) (by kernel_rfl) (by kernel_rfl) (fun _ _ _ h => h) (Or.inl ⟨by rfl, ?_⟩) (by assumption) ?_
                  rotate_left
                  · intro V hV
                    obtain ⟨⟨r0, r1, r2, r3⟩, rz, rp⟩ := SEE.out V hV
                    first | (go_simp; done) | (go_simp; with_reducible rfl)
                  try simp only [Act.put, List.setIfInBounds_toArray, List.set_cons_zero, List.set_cons_succ]
                  refine wpAnyH_take (i := 31) (v := ?_) (by simp only [List.getElem?_toArray, List.getElem?_cons_zero, List.getElem?_cons_succ]; rfl) (by kernel_rfl) (by kernel_rfl) (by kernel_rfl) (fun _ _ _ h => h) (Or.inl ⟨by rfl, ?_⟩) (by assumption) ?_
                  rotate_left
                  · intro V hV
                    obtain ⟨⟨r0, r1, r2, r3⟩, rz, rp⟩ := SEE.out V hV
                    first | (go_simp; done) | (go_simp; with_reducible rfl)
                  try simp only [Act.put, List.setIfInBounds_toArray, List.set_cons_zero, List.set_cons_succ]
                  refine wpAnyH_done (by kernel_rfl) ?_ _
                  refine NoPanic.normal ?_
                  go_wp2
                  go_roundw
                  case rel => exact ⟨z + 1, by omega, by go_num, HCC.out.below hB10⟩
                  case measure => simp [intOf]; omega
                · have t1 : decide ((0 : Int) < (p : Int)) = false := by simp; omega
                  have t2 : decide (0 < p) = false := by simp; omega
                  go_upto_region 17 with fail
                  refine wp_region_noPanic ?_
                  refine wp_region_held_drew (S := RowKit.Below V0.heap.size V0) (by kernel_rfl) ?_ (fun hHeld => ?_)
                  · exact HBD.out
                  refine wpAnyH_take (i := 0) (v := ?_) (by simp only [List.getElem?_toArray, List.getElem?_cons_zero, List.getElem?_cons_succ]; rfl) (by kernel_rfl) (by kernel_rfl) (by kernel_rfl) (fun _ _ _ h => h) (Or.inl ⟨by rfl, ?_⟩) (by assumption) ?_
                  rotate_left
                  · intro V hV
                    obtain ⟨⟨r0, r1, r2, r3⟩, rz, rp⟩ := SEE.out V hV
                    first | (go_simp; done) | (go_simp; with_reducible rfl)
                  try simp only [Act.put, List.setIfInBounds_toArray, List.set_cons_zero, List.set_cons_succ]
                  refine wpAnyH_take (i := 1) (v := ?_) (by simp only [List.getElem?_toArray, List.getElem?_cons_zero, List.getElem?_cons_succ]; rfl) (by kernel_rfl) (by kernel_rfl) (by kernel_rfl) (fun _ _ _ h => h) (Or.inl ⟨by rfl, ?_⟩) (by assumption) ?_
                  rotate_left
                  · intro V hV
                    obtain ⟨⟨r0, r1, r2, r3⟩, rz, rp⟩ := SEE.out V hV
                    first | (go_simp; done) | (go_simp; with_reducible rfl)
                  try simp only [Act.put, List.setIfInBounds_toArray, List.set_cons_zero, List.set_cons_succ]
                  refine wpAnyH_take (i := 2) (v := ?_) (by simp only [List.getElem?_toArray, List.getElem?_cons_zero, List.getElem?_cons_succ]; rfl) (by kernel_rfl) (by kernel_rfl) (by kernel_rfl) (fun _ _ _ h => h) (Or.inl ⟨by rfl, ?_⟩) (by assumption) ?_
                  rotate_left
                  · intro V hV
                    obtain ⟨⟨r0, r1, r2, r3⟩, rz, rp⟩ := SEE.out V hV
                    first | (go_simp; done) | (go_simp; with_reducible rfl)
                  try simp only [Act.put, List.setIfInBounds_toArray, List.set_cons_zero, List.set_cons_succ]
                  refine wpAnyH_take (i := 3) (v := ?_) (by simp only [List.getElem?_toArray, List.getElem?_cons_zero, List.getElem?_cons_succ]; rfl) (by kernel_rfl) (by kernel_rfl) (by kernel_rfl) (fun _ _ _ h => h) (Or.inl ⟨by rfl, ?_⟩) (by assumption) ?_
                  rotate_left
                  · intro V hV
                    obtain ⟨⟨r0, r1, r2, r3⟩, rz, rp⟩ := SEE.out V hV
                    first | (go_simp; done) | (go_simp; with_reducible rfl)
                  try simp only [Act.put, List.setIfInBounds_toArray, List.set_cons_zero, List.set_cons_succ]
                  refine wpAnyH_take (i := 4) (v := ?_) (by simp only [List.getElem?_toArray, List.getElem?_cons_zero, List.getElem?_cons_succ]; rfl) (by kernel_rfl) (by kernel_rfl) (by kernel_rfl) (fun _ _ _ h => h) (Or.inl ⟨by rfl, ?_⟩) (by assumption) ?_
                  rotate_left
                  · intro V hV
                    obtain ⟨⟨r0, r1, r2, r3⟩, rz, rp⟩ := SEE.out V hV
                    first | (go_simp; done) | (go_simp; with_reducible rfl)
                  try simp only [Act.put, List.setIfInBounds_toArray, List.set_cons_zero, List.set_cons_succ]
                  refine wpAnyH_take (i := 5) (v := ?_) (by simp only [List.getElem?_toArray, List.getElem?_cons_zero, List.getElem?_cons_succ]; rfl) (by kernel_rfl) (by kernel_rfl) (by kernel_rfl) (fun _ _ _ h => h) (Or.inl ⟨by rfl, ?_⟩) (by assumption) ?_
                  rotate_left
                  · intro V hV
                    obtain ⟨⟨r0, r1, r2, r3⟩, rz, rp⟩ := SEE.out V hV
                    first | (go_simp; done) | (go_simp; with_reducible rfl)
                  try simp only [Act.put, List.setIfInBounds_toArray, List.set_cons_zero, List.set_cons_succ]
                  refine wpAnyH_take (i := 6) (v := ?_) (by simp only [List.getElem?_toArray, List.getElem?_cons_zero, List.getElem?_cons_succ]; rfl) (by kernel_rfl) (by kernel_rfl) (by kernel_rfl) (fun _ _ _ h => h) (Or.inl ⟨by rfl, ?_⟩) (by assumption) ?_
                  rotate_left
                  · intro V hV
                    obtain ⟨⟨r0, r1, r2, r3⟩, rz, rp⟩ := SEE.out V hV
                    first | (go_simp; done) | (go_simp; with_reducible rfl)
                  try simp only [Act.put, List.setIfInBounds_toArray, List.set_cons_zero, List.set_cons_succ]
                  refine wpAnyH_take (i := 7) (v := ?_) (by simp only [List.getElem?_toArray, List.getElem?_cons_zero, List.getElem?_cons_succ]; rfl) (by kernel_rfl) (by kernel_rfl) (by kernel_rfl) (fun _ _ _ h => h) (Or.inl ⟨by rfl, ?_⟩) (by assumption) ?_
                  rotate_left
                  · intro V hV
                    obtain ⟨⟨r0, r1, r2, r3⟩, rz, rp⟩ := SEE.out V hV
                    first | (go_simp; done) | (go_simp; with_reducible rfl)
                  try simp only [Act.put, List.setIfInBounds_toArray, List.set_cons_zero, List.set_cons_succ]
                  refine wpAnyH_take (i := 8) (v := ?_) (by simp only [List.getElem?_toArray, List.getElem?_cons_zero, List.getElem?_cons_succ]; rfl) (by kernel_rfl) (by kernel_rfl) (by kernel_rfl) (fun _ _ _ h => h) (Or.inl ⟨by rfl, ?_⟩) (by assumption) ?_
                  rotate_left
                  · intro V hV
                    obtain ⟨⟨r0, r1, r2, r3⟩, rz, rp⟩ := SEE.out V hV
                    first | (go_simp; done) | (go_simp; with_reducible rfl)
                  try simp only [Act.put, List.setIfInBounds_toArray, List.set_cons_zero, List.set_cons_succ]
                  refine wpAnyH_take (i := 9) (v := ?_) (by simp only [List.getElem?_toArray, List.getElem?_cons_zero, List.getElem?_cons_succ]; rfl) (by kernel_rfl) (by kernel_rfl) (by kernel_rfl) (fun _ _ _ h => h) (Or.inl ⟨by rfl, ?_⟩) (by assumption) ?_
                  rotate_left
                  · intro V hV
                    obtain ⟨⟨r0, r1, r2, r3⟩, rz, rp⟩ := SEE.out V hV
                    first | (go_simp; done) | (go_simp; with_reducible rfl)
                  try simp only [Act.put, List.setIfInBounds_toArray, List.set_cons_zero, List.set_cons_succ]
                  refine wpAnyH_ready (rs := [10]) (by kernel_rfl) (by simp) ?_
                  refine AllReadyH.cons (by simp only [List.getElem?_toArray, List.getElem?_cons_zero, List.getElem?_cons_succ]; rfl) (fun K hK => ?_) AllReadyH.nil
                  refine wanted_step (by kernel_rfl) ?_
                  refine oper_append_slK _ _ _ 37 rfl V0.heap.size 3 i0 (.int .i64 0) 1 8 Try.underlying37 hi hz0 hz2 hz3 rfl (by decide) _ _ _ rfl HWD8.out am (words9 wss p).length cm _ rfl (slK_of_sl1 HMD8.out) (fun y hy => by obtain ⟨x, _, rfl⟩ := List.mem_map.1 hy; rfl) (by unfold maxLen; omega) (by omega) HBD.out.size ?_
                  intro v' w9 hown' hgrow hat
                  have hB9 : RowKit.Below V0.heap.size V0 w9 := HBD.out.grown hgrow HBD.out.size (fun j hj => (row_lt HWD8.out j hj).1)
                  rw [← List.map_append] at hown'
                  obtain ⟨a9, c9, rfl, _, h9⟩ := own_sl1 (enc := Value.int .i64) hown'
                  have HU9 := World.ownsRow.kept (w := w8.drew) HU.out hgrow (by
                    cases hb : (Value.slice au (words9 wss z).length cu).ownBlock with
                    | none => exact .inl rfl
                    | some k =>
                      refine .inr fun e => ?_
                      have k1 := (row_lt HU.out k hb).1
                      have k2 := (row_lt HOW2.out k e.symm).2
                      simp only [World.size_alloc] at k1
                      omega)
                  obtain ⟨au', cu', e', _, hus9⟩ := own_sl1 (enc := Value.int .i64) HU9
                  injection e' with e1 e2 e3
                  subst e1 e3
                  have hzw := words9_len wss z
                  have HI := Lib.hid (rints_any au a9 (words9 wss z).length cu (L.length + (words9 wss p).length) c9 _ _ w9 hus9 h9 (by omega))
                  have hdec := decide_eq_true (want_law (ws := wss) (fun x hx => (R3.out x hx).1) (by rw [HNN.out]; exact hzl) HXZ.out HP.out HL8.out)
                  rw [hdec] at HI
                  clear hdec
                  refine hK.out _ _ hB9 (fun hNew => ?_)
                  clear hK K hHeld
                  have hHeld := hNew
                  clear hNew e2 hown' hgrow hat
                  try simp only [Act.put, List.setIfInBounds_toArray, List.set_cons_zero, List.set_cons_succ]
                  refine wpAnyH_ready (rs := [11]) (by kernel_rfl) (by simp) ?_
                  refine AllReadyH.cons (by simp only [List.getElem?_toArray, List.getElem?_cons_zero, List.getElem?_cons_succ]; rfl) (fun K hK => ?_) AllReadyH.nil
                  have hOld := hHeld
                  go_simp
                  go_at_call 38; refine HI.out.mono ?_; rintro e w10 ⟨rfl, hb10⟩
                  have hB10 := hB9.trans (hb10.mono hB9.size)
                  refine hK.out _ _ hB10 (fun hNew => ?_)
                  clear hK K hHeld hOld
                  have hHeld := hNew
                  clear hNew
                  try simp only [Act.put, List.setIfInBounds_toArray, List.set_cons_zero, List.set_cons_succ]
                  refine wpAnyH_take (i := 12) (v := ?_) (by simp only [List.getElem?_toArray, List.getElem?_cons_zero, List.getElem?_cons_succ]; rfl) (by kernel_rfl) (by kernel_rfl) (by kernel_rfl) (fun _ _ _ h => h) (Or.inl ⟨by rfl, ?_⟩) (by assumption) ?_
                  rotate_left
                  · intro V hV
                    obtain ⟨⟨r0, r1, r2, r3⟩, rz, rp⟩ := SEE.out V hV
                    first | (go_simp; done) | (go_simp; with_reducible rfl)
                  try simp only [Act.put, List.setIfInBounds_toArray, List.set_cons_zero, List.set_cons_succ]
                  refine wpAnyH_take (i := 13) (v := ?_) (by simp only [List.getElem?_toArray, List.getElem?_cons_zero, List.getElem?_cons_succ]; rfl) (by kernel_rfl) (by kernel_rfl) (by kernel_rfl) (fun _ _ _ h => h) (Or.inl ⟨by rfl, ?_⟩) (by assumption) ?_
                  rotate_left
                  · intro V hV
                    obtain ⟨⟨r0, r1, r2, r3⟩, rz, rp⟩ := SEE.out V hV
                    first | (go_simp; done) | (go_simp; with_reducible rfl)
                  try simp only [Act.put, List.setIfInBounds_toArray, List.set_cons_zero, List.set_cons_succ]
                  refine wpAnyH_take (i := 14) (v := ?_) (by simp only [List.getElem?_toArray, List.getElem?_cons_zero, List.getElem?_cons_succ]; rfl) (by kernel_rfl) (by kernel_rfl) (by kernel_rfl) (fun _ _ _ h => h) (Or.inl ⟨by rfl, ?_⟩) (by assumption) ?_
                  rotate_left
                  · intro V hV
                    obtain ⟨⟨r0, r1, r2, r3⟩, rz, rp⟩ := SEE.out V hV
                    first | (go_simp; done) | (go_simp; with_reducible rfl)
                  try simp only [Act.put, List.setIfInBounds_toArray, List.set_cons_zero, List.set_cons_succ]
                  refine wpAnyH_take (i := 15) (v := ?_) (by simp only [List.getElem?_toArray, List.getElem?_cons_zero, List.getElem?_cons_succ]; rfl) (by kernel_rfl) (by kernel_rfl) (by kernel_rfl) (fun _ _ _ h => h) (Or.inl ⟨by rfl, ?_⟩) (by assumption) ?_
                  rotate_left
                  · intro V hV
                    obtain ⟨⟨r0, r1, r2, r3⟩, rz, rp⟩ := SEE.out V hV
                    first | (go_simp; done) | (go_simp; with_reducible rfl)
                  try simp only [Act.put, List.setIfInBounds_toArray, List.set_cons_zero, List.set_cons_succ]
                  refine wpAnyH_take (i := 16) (v := ?_) (by simp only [List.getElem?_toArray, List.getElem?_cons_zero, List.getElem?_cons_succ]; rfl) (by kernel_rfl) (by kernel_rfl) (by kernel_rfl) (fun _ _ _ h => h) (Or.inl ⟨by rfl, ?_⟩) (by assumption) ?_
                  rotate_left
                  · intro V hV
                    obtain ⟨⟨r0, r1, r2, r3⟩, rz, rp⟩ := SEE.out V hV
                    first | (go_simp; done) | (go_simp; with_reducible rfl)
                  try simp only [Act.put, List.setIfInBounds_toArray, List.set_cons_zero, List.set_cons_succ]
                  refine wpAnyH_take (i := 17) (v := ?_) (by simp only [List.getElem?_toArray, List.getElem?_cons_zero, List.getElem?_cons_succ]; rfl) (by kernel_rfl) (by kernel_rfl) (by kernel_rfl) (fun _ _ _ h => h) (Or.inl ⟨by rfl, ?_⟩) (by assumption) ?_
                  rotate_left
                  · intro V hV
                    obtain ⟨⟨r0, r1, r2, r3⟩, rz, rp⟩ := SEE.out V hV
                    first | (go_simp; done) | (go_simp; with_reducible rfl)
                  try simp only [Act.put, List.setIfInBounds_toArray, List.set_cons_zero, List.set_cons_succ]
                  refine wpAnyH_take (i := 18) (v := ?_) (by simp only [List.getElem?_toArray, List.getElem?_cons_zero, List.getElem?_cons_succ]; rfl) (by kernel_rfl) (by kernel_rfl) (by kernel_rfl) (fun _ _ _ h => h) (Or.inl ⟨by rfl, ?_⟩) (by assumption) ?_
                  rotate_left
                  · intro V hV
                    obtain ⟨⟨r0, r1, r2, r3⟩, rz, rp⟩ := SEE.out V hV
                    first | (go_simp; done) | (go_simp; with_reducible rfl)
                  try simp only [Act.put, List.setIfInBounds_toArray, List.set_cons_zero, List.set_cons_succ]
                  refine wpAnyH_take (i := 19) (v := ?_) (by simp only [List.getElem?_toArray, List.getElem?_cons_zero, List.getElem?_cons_succ]; rfl) (by kernel_rfl) (by kernel_rfl) (by kernel_rfl) (fun _ _ _ h => h) (Or.inl ⟨by rfl, ?_⟩) (by assumption) ?_
                  rotate_left
                  · intro V hV
                    obtain ⟨⟨r0, r1, r2, r3⟩, rz, rp⟩ := SEE.out V hV
                    first | (go_simp; done) | (go_simp; with_reducible rfl)
                  try simp only [Act.put, List.setIfInBounds_toArray, List.set_cons_zero, List.set_cons_succ]
                  refine wpAnyH_take (i := 20) (v := ?_) (by simp only [List.getElem?_toArray, List.getElem?_cons_zero, List.getElem?_cons_succ]; rfl) (by kernel_rfl) (by kernel_rfl) (by kernel_rfl) (fun _ _ _ h => h) (Or.inl ⟨by rfl, ?_⟩) (by assumption) ?_
                  rotate_left
                  · intro V hV
                    obtain ⟨⟨r0, r1, r2, r3⟩, rz, rp⟩ := SEE.out V hV
                    first | (go_simp; done) | (go_simp; with_reducible rfl)
                  try simp only [Act.put, List.setIfInBounds_toArray, List.set_cons_zero, List.set_cons_succ]
                  refine wpAnyH_take (i := 21) (v := undef) (by simp only [List.getElem?_toArray, List.getElem?_cons_zero, List.getElem?_cons_succ]; rfl) (by kernel_rfl) (by kernel_rfl) (by kernel_rfl) (fun _ _ _ h => h) (Or.inr ⟨by rfl, rfl⟩) (by assumption) ?_
                  try simp only [Act.put, List.setIfInBounds_toArray, List.set_cons_zero, List.set_cons_succ]
                  refine wpAnyH_take (i := 22) (v := undef) (by simp only [List.getElem?_toArray, List.getElem?_cons_zero, List.getElem?_cons_succ]; rfl) (by kernel_rfl) (by kernel_rfl) (by kernel_rfl) (fun _ _ _ h => h) (Or.inr ⟨by rfl, rfl⟩) (by assumption) ?_
                  try simp only [Act.put, List.setIfInBounds_toArray, List.set_cons_zero, List.set_cons_succ]
                  refine wpAnyH_take (i := 23) (v := undef) (by simp only [List.getElem?_toArray, List.getElem?_cons_zero, List.getElem?_cons_succ]; rfl) (by kernel_rfl) (by kernel_rfl) (by kernel_rfl) (fun _ _ _ h => h) (Or.inr ⟨by rfl, rfl⟩) (by assumption) ?_
                  try simp only [Act.put, List.setIfInBounds_toArray, List.set_cons_zero, List.set_cons_succ]
                  refine wpAnyH_take (i := 24) (v := undef) (by simp only [List.getElem?_toArray, List.getElem?_cons_zero, List.getElem?_cons_succ]; rfl) (by kernel_rfl) (by kernel_rfl) (by kernel_rfl) (fun _ _ _ h => h) (Or.inr ⟨by rfl, rfl⟩) (by assumption) ?_
                  try simp only [Act.put, List.setIfInBounds_toArray, List.set_cons_zero, List.set_cons_succ]
                  refine wpAnyH_take (i := 25) (v := undef) (by simp only [List.getElem?_toArray, List.getElem?_cons_zero, List.getElem?_cons_succ]; rfl) (by kernel_rfl) (by kernel_rfl) (by kernel_rfl) (fun _ _ _ h => h) (Or.inr ⟨by rfl, rfl⟩) (by assumption) ?_
                  try simp only [Act.put, List.setIfInBounds_toArray, List.set_cons_zero, List.set_cons_succ]
                  refine wpAnyH_take (i := 26) (v := undef) (by simp only [List.getElem?_toArray, List.getElem?_cons_zero, List.getElem?_cons_succ]; rfl) (by kernel_rfl) (by kernel_rfl) (by kernel_rfl) (fun _ _ _ h => h) (Or.inr ⟨by rfl, rfl⟩) (by assumption) ?_
                  try simp only [Act.put, List.setIfInBounds_toArray, List.set_cons_zero, List.set_cons_succ]
                  refine wpAnyH_take (i := 27) (v := undef) (by simp only [List.getElem?_toArray, List.getElem?_cons_zero, List.getElem?_cons_succ]; rfl) (by kernel_rfl) (by kernel_rfl) (by kernel_rfl) (fun _ _ _ h => h) (Or.inr ⟨by rfl, rfl⟩) (by assumption) ?_
                  try simp only [Act.put, List.setIfInBounds_toArray, List.set_cons_zero, List.set_cons_succ]
                  refine wpAnyH_take (i := 28) (v := undef) (by simp only [List.getElem?_toArray, List.getElem?_cons_zero, List.getElem?_cons_succ]; rfl) (by kernel_rfl) (by kernel_rfl) (by kernel_rfl) (fun _ _ _ h => h) (Or.inr ⟨by rfl, rfl⟩) (by assumption) ?_
                  try simp only [Act.put, List.setIfInBounds_toArray, List.set_cons_zero, List.set_cons_succ]
                  refine wpAnyH_take (i := 29) (v := undef) (by simp only [List.getElem?_toArray, List.getElem?_cons_zero, List.getElem?_cons_succ]; rfl) (by kernel_rfl) (by kernel_rfl) (by kernel_rfl) (fun _ _ _ h => h) (Or.inr ⟨by rfl, rfl⟩) (by assumption) ?_
                  try simp only [Act.put, List.setIfInBounds_toArray, List.set_cons_zero, List.set_cons_succ]
                  refine wpAnyH_take (i := 30) (v := ?_) (by simp only [List.getElem?_toArray, List.getElem?_cons_zero, List.getElem?_cons_succ]; rfl) (by kernel_rfl) (by kernel_rfl) (by kernel_rfl) (fun _ _ _ h => h) (Or.inl ⟨by rfl, ?_⟩) (by assumption) ?_
                  rotate_left
                  · intro V hV
                    obtain ⟨⟨r0, r1, r2, r3⟩, rz, rp⟩ := SEE.out V hV
                    first | (go_simp; done) | (go_simp; with_reducible rfl)
                  try simp only [Act.put, List.setIfInBounds_toArray, List.set_cons_zero, List.set_cons_succ]
                  refine wpAnyH_take (i := 31) (v := ?_) (by simp only [List.getElem?_toArray, List.getElem?_cons_zero, List.getElem?_cons_succ]; rfl) (by kernel_rfl) (by kernel_rfl) (by kernel_rfl) (fun _ _ _ h => h) (Or.inl ⟨by rfl, ?_⟩) (by assumption) ?_
                  rotate_left
                  · intro V hV
                    obtain ⟨⟨r0, r1, r2, r3⟩, rz, rp⟩ := SEE.out V hV
                    first | (go_simp; done) | (go_simp; with_reducible rfl)
                  try simp only [Act.put, List.setIfInBounds_toArray, List.set_cons_zero, List.set_cons_succ]
                  refine wpAnyH_done (by kernel_rfl) ?_ _
                  refine NoPanic.normal ?_
                  go_wp2
                  go_roundw
                  case rel => exact ⟨z + 1, by omega, by go_num, HCC.out.below hB10⟩
                  case measure => simp [intOf]; omega
        · obtain rfl : z = n := by omega
          have hd : decide ((z : Int) < z) = false := by simp
          go_wp2_with fail
          refine (wakes9 _).mono ?_
          rintro e w6 ⟨rfl, hb6⟩
          have hB6 := hC.bel.trans (hb6.mono hC.bel.size)
          go_wp2
          go_ret
          exact ⟨rfl, hB6⟩

end Go.Proofs.Ytifcoalhkcflnaa
