/- Parts of the proof, one behind the other: KA. No condition but what each theorem states. -/
import Derived.Test.YtifcoalhkcflnaaM11

/- The law on links (layer 8): walked. -/

namespace Go.Proofs.Ytifcoalhkcflnaa
open Go.RowKit Go.Sort
set_option linter.unusedVariables false
set_option linter.unusedSimpArgs false

theorem small_right {fold : Bool} {wss : List (List Int)} (hs : smallB fold wss = true) : readP (trieP wss) = some (nodesL wss, wss) ∧ (nodesL wss).length ≤ 120 ∧ rightP fold wss = true := by
  unfold smallB at hs
  rw [Bool.and_eq_true, Bool.and_eq_true, decide_eq_true_iff] at hs
  exact ⟨readP_iff.2 ⟨right_false hs.1.2, rfl, rfl⟩, hs.2, hs.1.2⟩

set_option maxRecDepth 100000 in
set_option maxHeartbeats 8000000 in
theorem failLinks_walk (fold : Bool) (a : Option Addr) (la ca : Nat) (wss : List (List Int)) (w : World) (hA : Wds w a la wss) :
    Calls Try.prog 5 #[.agg (setV fold a la ca)] w fun e w' => e = .returned (.bool true) ∧ Below w.heap.size w w' := by
  obtain ⟨W, hW⟩ : ∃ W, W = w.alloc (.cells (setV fold a la ca) 24) := ⟨_, rfl⟩
  have hB : Below w.heap.size w W := by rw [hW]; exact below_alloc _ _
  have hO : Bx w.heap.size [.cells (setV fold a la ca) 24] W := by rw [hW]; exact (Bx.nil _ w).snoc _ rfl
  have s0 : W.cell? ⟨w.heap.size, 0, none⟩ = some (.bool fold) := hO.cell (i := 0) rfl rfl
  have s1 : W.cell? ⟨w.heap.size, 1, none⟩ = some (.slice a la ca) := hO.cell (i := 0) rfl rfl
  cases hs : smallB fold wss with
  | false =>
    have HC := Lib.hid (small8_no fold a la ca wss W (hA.below hB) hs)
    clear hO hA
    go_enter Try.func5, Try.ntmps5
    go_upto_region 1 with fail
    rw [← hW]
    clear hW
    go_wp2_with fail
    refine HC.out.mono ?_
    rintro e w1 ⟨rfl, hb1⟩
    have hB1 := (hB.trans (hb1.mono hB.size)).alloc (hB.trans (hb1.mono hB.size)).size (.cells nil4 49)
    clear s0 s1
    go_wp2_with fail
    refine (wakes8 _).mono ?_
    rintro e w2 ⟨rfl, hb2⟩
    have hB2 := hB1.trans (hb2.mono hB1.size)
    go_wp2
    go_ret
    exact ⟨rfl, hB2⟩
  | true =>
    have HC := Lib.hid (small8_yes fold a la ca wss W (hA.below hB) hs)
    obtain ⟨hr, hn120, hright⟩ := small_right hs
    clear hO hA
    go_enter Try.func5, Try.ntmps5
    go_upto_region 1 with fail
    rw [← hW]
    clear hW
    go_wp2_with fail
    refine HC.out.mono ?_
    rintro e w1 ⟨t, b, c, rfl, hbc, hN, hT, hb1⟩
    obtain ⟨ua, un, uc, da, dn, dc, xa, xn, xc, ba, bn, bc⟩ := t
    have hB1 := hB.trans (hb1.mono hB.size)
    have hun : un ≤ 140737488351232 := by have := hT.up.1; simp [trieP] at this; omega
    obtain ⟨W2, hW2⟩ : ∃ W, W = w1.alloc (.cells #[.slice ua un uc, .slice da dn dc, .slice xa xn xc, .slice ba bn bc] 49) := ⟨_, rfl⟩
    have hb2 : Below w1.heap.size w1 W2 := by rw [hW2]; exact below_alloc _ _
    have hQ : W2.heap[w1.heap.size]? = some (.cells #[.slice ua un uc, .slice da dn dc, .slice xa xn xc, .slice ba bn bc] 49 (0, 0)) := by rw [hW2]; exact World.alloc_heap_new _ _
    clear s0 s1 hb1 HC
    go_upto_region 4 with fail
    rw [← hW2]
    clear hW2
    have hT2 := hT.below hb2
    have hN2 := hN.below hb2
    have hB2 := hB1.trans (hb2.mono hB1.size)
    have c0 : W2.cell? ⟨w1.heap.size, 0, none⟩ = some (.slice ua un uc) := by simp [World.cell?, hQ]
    have c1 : W2.cell? ⟨w1.heap.size, 1, none⟩ = some (.slice da dn dc) := by simp [World.cell?, hQ]
    have c2 : W2.cell? ⟨w1.heap.size, 2, none⟩ = some (.slice xa xn xc) := by simp [World.cell?, hQ]
    have c3 : W2.cell? ⟨w1.heap.size, 3, none⟩ = some (.slice ba bn bc) := by simp [World.cell?, hQ]
    have HL := Lib.hid (links8_yes _ (trieP wss) _ wss W2 hT2 hun hr)
    clear hb2 hB1 hT hN hT2
    go_wp2_with fail
    refine HL.out.mono ?_
    rintro e w3 ⟨q, rfl, hq, hql, hb3⟩
    have hB3 := hB2.trans (hb3.mono hB2.size)
    have hN3 := hN2.below hb3
    clear hb3 hB2 hN2 c0 c1 c2 c3 hQ HL hql hr
    have HN := Lib.hid hN3
    obtain ⟨n, hnn⟩ : ∃ n, (nodesL wss).length = n := ⟨_, rfl⟩
    have HNN := Lib.hid hnn
    rw [hnn] at HN hn120 hbc ⊢
    have hql3 : q < w3.heap.size := (Array.getElem?_eq_some_iff.1 (show w3.heap[q]? = _ from hq)).1
    have HBD := Lib.hid (nodes_bd (M := 32) (wss := wss) (fun x hx => ((right_spec hright).2.2.1 x hx).2))
    clear hN3 hnn
    go_wp2
    go_loopw [8] (fun s8 wr => ∃ i : Nat, i ≤ n ∧ s8 = .int .i64 i ∧ Below w3.heap.size w3 wr) (fun s _ => n - (intOf s).toNat)
    case atStart => exact ⟨0, Nat.zero_le _, rfl, Below.refl _ _⟩
    case round =>
      obtain ⟨i, hin, rfl, hBe⟩ := hrel
      by_cases hil : i < n
      · have hd : decide ((i : Int) < n) = true := by simp; omega
        obtain ⟨x, hx⟩ : ∃ x, (nodesL wss)[i]? = some x := ⟨(nodesL wss)[i]'(by have := HNN.out; omega), by simp⟩
        obtain ⟨k, y, e1, e2, e3, e4, e5, e6⟩ := link_law hx
        have hkn : k < n := by have := (List.getElem?_eq_some_iff.1 e2).1; have := HNN.out; omega
        have hlp := linksP_at hx
        rw [e1] at hlp
        obtain ⟨bi, oi, ai, li, ci, x', hbi, hbil, hci, hxi, hXi, hlci⟩ := HN.out.at_ hil
        rw [hx] at hxi
        obtain rfl : x = x' := Option.some.inj hxi
        obtain ⟨bk, ok, ak, lk, ck, y', hbk, hbkl, hck, hyk, hYk, hlck⟩ := HN.out.at_ hkn
        rw [e2] at hyk
        obtain rfl : y = y' := Option.some.inj hyk
        subst hbi
        obtain ⟨rfl, rfl⟩ : bi = bk ∧ oi = ok := by injection hbk with h; injection h with h1 h2; exact ⟨h1, h2⟩
        have hbl : ∀ {z : List Int} {lz : Nat}, z ∈ nodesL wss → z.length = lz → lz ≤ 4611686018427387904 := fun {z lz} hz h => by
          have := HBD.out z hz
          omega
        have hli := hbl (List.mem_of_getElem? hx) hXi.len
        have hlk := hbl (List.mem_of_getElem? e2) hYk.len
        have hq3 : wr.cell? ⟨q, i, none⟩ = some (.int .i64 (k : Int)) := by
          have hqr : IntRow q (linksP wss) wr := (hBe.block q hql3).trans hq
          rw [cell_of_row wr q i _ _ _ hqr]
          simp [hlp]
        have ee : ∀ (V : World), Below wr.heap.size wr V → Calls Try.prog 27 #[.slice ai li ci, .slice ak lk ck] V fun e w' => e = .returned (.bool true) ∧ Below V.heap.size V w' := fun V hV => by
          have hb := hBe.trans (hV.mono hBe.size)
          have := ends8_any ai ak li ci lk ck x y V (hXi.below hb) (hYk.below hb) hli hlci
          rwa [e5] at this
        have EE := Lib.hid ee
        have hcir : ∀ (V : World), Below wr.heap.size wr V → V.cell? ⟨bi, oi + i, none⟩ = some (.slice ai li ci) := fun V hV => ((hBe.trans (hV.mono hBe.size)).cell (p := ⟨bi, oi + i, none⟩) hbil).trans hci
        have hckr : ∀ (V : World), Below wr.heap.size wr V → V.cell? ⟨bi, oi + k, none⟩ = some (.slice ak lk ck) := fun V hV => ((hBe.trans (hV.mono hBe.size)).cell (p := ⟨bi, oi + k, none⟩) hbil).trans hck
        have f1 := fun d os => hcir _ (below_regrown wr d os)
        have f2 := fun d os => hckr _ (below_regrown wr d os)
        have HC1 := Lib.hid hci
        have HC2 := Lib.hid hck
        have E4 := Lib.hid e4
        have E3 := Lib.hid e3
        have E6 := Lib.hid e6
        have HXI := Lib.hid hXi
        have HYK := Lib.hid hYk
        have HXX := Lib.hid hx
        have i1 : (0 : Int) ≤ (i : Int) := by omega
        have i2 : (i : Int) < (n : Int) := by omega
        have i3 : (0 : Int) ≤ (k : Int) := by omega
        have i4 : (k : Int) < (n : Int) := by omega
        have d1 : decide ((k : Int) < 0) = false := by simp
        have d2 : decide ((n : Int) ≤ (k : Int)) = false := by simp; omega
        have d2' : decide (n ≤ k) = false := by simp; omega
        clear hx e1 e2 e3 e4 e5 e6 hlp hxi hyk hXi hYk hci hck ee hcir hckr hbk hbl
        go_upto_region 11 with fail
        clear hq3
        go_cut [80] (fun s80 wx => s80 = .bool false ∧ Below wr.heap.size wr wx)
        case first =>
          by_cases hi0 : i = 0
          · have hk0 : k = 0 := E3.out hi0
            have d3 : decide ((0 : Int) < (i : Int)) = false := by simp; omega
            have d3' : decide (0 < i) = false := by simp; omega
            have d5 : ((i : Int) == 0) = true := by simp; omega
            have d5' : (i == 0) = true := by simp; omega
            have d6 : ((k : Int) != 0) = false := by simp; omega
            have d6' : (k != 0) = false := by simp; omega
            clear hk0 hi0
            refine wp_region_quiet_below mixed (by kernel_rfl) ?_
            repeat (go_big_quiet_step (exact grown_below (EE.out _ (below_regrown wr _ _))))
            refine wpQuiet_nil ?_
            rintro _ ⟨⟨dq, osq⟩, rfl⟩
            go_wp2_with fail
            go_meet
            exact ⟨rfl, below_regrown wr dq osq⟩
          · have hki := E4.out (by omega)
            have d3 : decide ((0 : Int) < (i : Int)) = true := by simp; omega
            have d4 : decide ((i : Int) ≤ (k : Int)) = false := by simp; omega
            have d5 : ((i : Int) == 0) = false := by simp; omega
            have d3' : decide (0 < i) = true := by simp; omega
            have d4' : decide (i ≤ k) = false := by simp; omega
            have d5' : (i == 0) = false := by simp; omega
            refine wp_region_quiet_below mixed (by kernel_rfl) ?_
            repeat (go_big_quiet_step (exact grown_below (EE.out _ (below_regrown wr _ _))))
            refine wpQuiet_nil ?_
            rintro _ ⟨⟨dq, osq⟩, rfl⟩
            go_wp2_with fail
            go_meet
            exact ⟨rfl, below_regrown wr dq osq⟩
        case rest =>
          obtain ⟨rfl, hBc⟩ := hcut
          clear f1 f2
          go_wp2
          go_loopw [10] (fun s10 wi => ∃ j : Nat, j ≤ n ∧ s10 = .int .i64 j ∧ Below w3.heap.size w3 wi) (fun s _ => n - (intOf s).toNat)
          case atStart => exact ⟨0, Nat.zero_le _, rfl, hBe.trans (hBc.mono hBe.size)⟩
          case round =>
            clear hBc
            obtain ⟨j, hjn, rfl, hBj⟩ := hrel
            by_cases hjl : j < n
            · have hdj : decide ((j : Int) < n) = true := by simp; omega
              obtain ⟨z, hz⟩ : ∃ z, (nodesL wss)[j]? = some z := ⟨(nodesL wss)[j]'(by have := HNN.out; omega), by simp⟩
              obtain ⟨bj, oj, aj, lj, cj, z', hbj, hbjl, hcj, hzj, hZj, hlcj⟩ := HN.out.at_ hjl
              rw [hz] at hzj
              obtain rfl : z = z' := Option.some.inj hzj
              obtain ⟨rfl, rfl⟩ : bi = bj ∧ oi = oj := by injection hbj with h; injection h with h1 h2; exact ⟨h1, h2⟩
              have hlj : lj ≤ 4611686018427387904 := by
                have := HBD.out z (List.mem_of_getElem? hz)
                rw [hZj.len] at this
                omega
              obtain ⟨B, hBB⟩ : ∃ B, endsB x z = B := ⟨_, rfl⟩
              have ee : ∀ (V : World), Below wr.heap.size wr V → Calls Try.prog 27 #[.slice ai li ci, .slice aj lj cj] V fun e w' => e = .returned (.bool B) ∧ Below V.heap.size V w' := fun V hV => by
                have hb := hBj.trans (hV.mono hBj.size)
                have := ends8_any ai aj li ci lj cj x z V (HXI.out.below hb) (hZj.below hb) hli hlci
                rwa [hBB] at this
              have EE2 := Lib.hid ee
              have f1 : ∀ d os, (grow (redrawn wr d) os).cell? ⟨bi, oi + i, none⟩ = some (.slice ai li ci) := fun d os => ((hBj.trans ((below_regrown wr d os).mono hBj.size)).cell (p := ⟨bi, oi + i, none⟩) hbil).trans HC1.out
              have f2 : ∀ d os, (grow (redrawn wr d) os).cell? ⟨bi, oi + k, none⟩ = some (.slice ak lk ck) := fun d os => ((hBj.trans ((below_regrown wr d os).mono hBj.size)).cell (p := ⟨bi, oi + k, none⟩) hbil).trans HC2.out
              have f3 : ∀ d os, (grow (redrawn wr d) os).cell? ⟨bi, oi + j, none⟩ = some (.slice aj lj cj) := fun d os => ((hBj.trans ((below_regrown wr d os).mono hBj.size)).cell (p := ⟨bi, oi + j, none⟩) hbil).trans hcj
              have HBB := Lib.hid hBB
              have HZL := Lib.hid hZj.len
              have HZZ := Lib.hid hz
              have j1 : (0 : Int) ≤ (j : Int) := by omega
              have j2 : (j : Int) < (n : Int) := by omega
              clear hz hzj hZj hcj ee hbj hBB
              go_upto_region 16 with fail
              go_cut [113] (fun s113 wx => s113 = .bool false ∧ Below wr.heap.size wr wx)
              case first =>
                by_cases hji : j = i
                · have e1 : ((j : Int) != (i : Int)) = false := by simp; omega
                  have e1' : (j != i) = false := by simp; omega
                  clear hji
                  refine wp_region_quiet_below mixed (by kernel_rfl) ?_
                  repeat (go_big_quiet_step (exact grown_below (EE2.out _ (below_regrown wr _ _))))
                  refine wpQuiet_nil ?_
                  rintro _ ⟨⟨dq, osq⟩, rfl⟩
                  go_wp2_with fail
                  go_meet
                  exact ⟨rfl, below_regrown wr dq osq⟩
                · have e1 : ((j : Int) != (i : Int)) = true := by simp; omega
                  have e1' : (j != i) = true := by simp; omega
                  cases B with
                  | false =>
                    clear hji
                    refine wp_region_quiet_below mixed (by kernel_rfl) ?_
                    repeat (go_big_quiet_step (exact grown_below (EE2.out _ (below_regrown wr _ _))))
                    refine wpQuiet_nil ?_
                    rintro _ ⟨⟨dq, osq⟩, rfl⟩
                    go_wp2_with fail
                    go_meet
                    exact ⟨rfl, below_regrown wr dq osq⟩
                  | true =>
                    have hle := E6.out j z hji HZZ.out HBB.out
                    rw [HZL.out, HYK.out.len] at hle
                    have e2 : decide ((lk : Int) < (lj : Int)) = false := by simp; omega
                    have e2' : decide (lk < lj) = false := by simp; omega
                    clear hji hle
                    refine wp_region_quiet_below mixed (by kernel_rfl) ?_
                    repeat (go_big_quiet_step (exact grown_below (EE2.out _ (below_regrown wr _ _))))
                    refine wpQuiet_nil ?_
                    rintro _ ⟨⟨dq, osq⟩, rfl⟩
                    go_wp2_with fail
                    go_meet
                    exact ⟨rfl, below_regrown wr dq osq⟩
              case rest =>
                obtain ⟨rfl, hBd⟩ := hcut
                have hBn := hBj.trans (hBd.mono hBj.size)
                clear f1 f2 f3
                go_wp2
                go_roundw
                case rel => exact ⟨j + 1, by omega, by go_num, hBn⟩
                case measure => simp [intOf]; omega
            · obtain rfl : j = n := by omega
              have hdj : decide ((j : Int) < j) = false := by simp
              go_wp2
              go_roundw
              case rel => exact ⟨i + 1, by omega, by go_num, hBj⟩
              case measure => simp [intOf]; omega
      · obtain rfl : i = n := by omega
        have hd : decide ((i : Int) < i) = false := by simp
        have hBf := hB3.trans (hBe.mono hB3.size)
        go_wp2_with fail
        refine (wakes8 _).mono ?_
        rintro e w4 ⟨rfl, hb4⟩
        go_wp2
        go_ret
        exact ⟨rfl, hBf.trans (hb4.mono hBf.size)⟩

end Go.Proofs.Ytifcoalhkcflnaa
