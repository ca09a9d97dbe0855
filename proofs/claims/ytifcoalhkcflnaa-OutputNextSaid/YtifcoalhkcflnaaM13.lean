/- Parts of the proof, one behind the other: KB, KC, V6, V7, KD. No condition but what each theorem states. -/
import Derived.Laws.OwnMore
import Derived.Test.YtifcoalhkcflnaaM12
import Derived.Test.YtifcoalhkcflnaaM8

/- The law on chains (layer 8): walked. -/

namespace Go.Proofs.Ytifcoalhkcflnaa
open Go.RowKit Go.Sort
set_option linter.unusedVariables false
set_option linter.unusedSimpArgs false

section
variable {ws : List (List Int)} {z : Nat} {x : List Int}
theorem chain_at (hx : (nodesL ws)[z]? = some x) {i p : Nat} (h : (chN (linksP ws) z z)[i]? = some p) : ∃ y, (nodesL ws)[p]? = some y ∧ (chainL (nodesL ws) x.length x)[i]? = some y := by
  have hc := ch_chain (linksOK ws (z + 1)) (Nat.lt_succ_self z) (Nat.le_refl z) hx (Nat.le_refl _)
  have h1 := congrArg (fun l => l[i]?) hc
  simp only [List.getElem?_map, h, Option.map_some] at h1
  cases e : (chainL (nodesL ws) x.length x)[i]? with
  | none => rw [e] at h1; simp at h1
  | some y => rw [e] at h1; simp at h1; exact ⟨y, h1, rfl⟩
theorem chain_ends (hx : (nodesL ws)[z]? = some x) {p : Nat} {y : List Int} (h : p ∈ chN (linksP ws) z z) (hy : (nodesL ws)[p]? = some y) : endsB x y = true := by
  obtain ⟨i, hi⟩ := List.getElem?_of_mem h
  obtain ⟨y', h1, h2⟩ := chain_at hx hi
  rw [hy] at h1
  obtain rfl := Option.some.inj h1
  have := (mem_chainL (nodes_pre ws).1 (List.mem_of_getElem? hx) (Nat.le_refl _)).1 (List.mem_of_getElem? h2)
  exact endsB_iff.2 this.1
theorem chain_less (hx : (nodesL ws)[z]? = some x) {i p p' : Nat} {y y' : List Int} (h : (chN (linksP ws) z z)[i]? = some p) (h' : (chN (linksP ws) z z)[i + 1]? = some p') (hy : (nodesL ws)[p]? = some y) (hy' : (nodesL ws)[p']? = some y') : y'.length < y.length := by
  obtain ⟨u, h1, h2⟩ := chain_at hx h
  obtain ⟨u', h3, h4⟩ := chain_at hx h'
  rw [hy] at h1
  rw [hy'] at h3
  obtain rfl := Option.some.inj h1
  obtain rfl := Option.some.inj h3
  have hp := (chainL_len (nodesL ws) x.length x (Nat.le_refl _)).1
  rw [List.pairwise_iff_getElem] at hp
  obtain ⟨e1, e2⟩ := List.getElem?_eq_some_iff.1 h2
  obtain ⟨e3, e4⟩ := List.getElem?_eq_some_iff.1 h4
  have := hp i (i + 1) e1 e3 (Nat.lt_succ_self i)
  rwa [e2, e4] at this
theorem chain_cnt (hx : (nodesL ws)[z]? = some x) : (chN (linksP ws) z z).length = (nodesL ws).countP (fun y => endsB x y) := by
  have hc := congrArg List.length (ch_chain (linksOK ws (z + 1)) (Nat.lt_succ_self z) (Nat.le_refl z) hx (Nat.le_refl _))
  rw [List.length_map, List.length_map] at hc
  rw [hc, ← chain_count (List.mem_of_getElem? hx) (Nat.le_refl _), List.countP_eq_length_filter]
theorem chain_first (hx : (nodesL ws)[z]? = some x) : (chN (linksP ws) z z)[0]? = some z := by
  obtain ⟨r, hr⟩ := chN_head (linksP ws) z z
  rw [hr]; rfl
theorem chain_last (hx : (nodesL ws)[z]? = some x) {m : Nat} (hm : (chN (linksP ws) z z).length = m + 1) : (chN (linksP ws) z z)[m]? = some 0 := by
  obtain ⟨p, hp⟩ : ∃ p, (chN (linksP ws) z z)[m]? = some p := ⟨(chN (linksP ws) z z)[m]'(by omega), by simp⟩
  obtain ⟨y, h1, h2⟩ := chain_at hx hp
  have hl := (chainL_len (nodesL ws) x.length x (Nat.le_refl _)).2.2.2
  have hc := congrArg List.length (ch_chain (linksOK ws (z + 1)) (Nat.lt_succ_self z) (Nat.le_refl z) hx (Nat.le_refl _))
  rw [List.length_map, List.length_map, hm] at hc
  rw [List.getLast?_eq_getElem?, ← hc, Nat.add_sub_cancel, h2] at hl
  have hy := Option.some.inj hl
  rw [hy] at h1
  rw [hp, (node_zero h1).2 rfl]
end

set_option maxRecDepth 100000 in
set_option maxHeartbeats 8000000 in
theorem failChain_walk (fold : Bool) (a : Option Addr) (la ca : Nat) (node : Int) (wss : List (List Int)) (w : World) (hA : Wds w a la wss) :
    Calls Try.prog 6 #[.agg (setV fold a la ca), .int .i64 node] w fun e w' => e = .returned (.bool true) ∧ Below w.heap.size w w' := by
  obtain ⟨W, hW⟩ : ∃ W, W = w.alloc (.cells (setV fold a la ca) 24) := ⟨_, rfl⟩
  have hB : Below w.heap.size w W := by rw [hW]; exact below_alloc _ _
  have hO : Bx w.heap.size [.cells (setV fold a la ca) 24] W := by rw [hW]; exact (Bx.nil _ w).snoc _ rfl
  have s0 : W.cell? ⟨w.heap.size, 0, none⟩ = some (.bool fold) := hO.cell (i := 0) rfl rfl
  have s1 : W.cell? ⟨w.heap.size, 1, none⟩ = some (.slice a la ca) := hO.cell (i := 0) rfl rfl
  cases hs : smallB fold wss with
  | false =>
    have HC := Lib.hid (small8_no fold a la ca wss W (hA.below hB) hs)
    clear hO hA
    go_enter Try.func6, Try.ntmps6
    go_upto_region 1 with fail
    rw [← hW]
    clear hW
    go_wp2_with fail
    refine HC.out.mono ?_
    rintro e w1 ⟨rfl, hb1⟩
    have hB1 := (hB.trans (hb1.mono hB.size)).alloc (hB.trans (hb1.mono hB.size)).size (.cells nil4 49)
    clear s0 s1
    go_wp2_with fail
    refine (wakes8 _).mono ?_
    rintro e w2 ⟨rfl, hb2⟩
    have hB2 := hB1.trans (hb2.mono hB1.size)
    go_wp2
    go_ret
    exact ⟨rfl, hB2⟩
  | true =>
    have HC := Lib.hid (small8_yes fold a la ca wss W (hA.below hB) hs)
    obtain ⟨hr, hn120, hright⟩ := small_right hs
    clear hO hA
    go_enter Try.func6, Try.ntmps6
    go_upto_region 1 with fail
    rw [← hW]
    clear hW
    go_wp2_with fail
    refine HC.out.mono ?_
    rintro e w1 ⟨t, b, c, rfl, hbc, hN, hT, hb1⟩
    obtain ⟨ua, un, uc, da, dn, dc, xa, xn, xc, ba, bn, bc⟩ := t
    have hB1 := hB.trans (hb1.mono hB.size)
    have hun : un ≤ 140737488351232 := by have := hT.up.1; simp [trieP] at this; omega
    obtain ⟨W2, hW2⟩ : ∃ W, W = w1.alloc (.cells #[.slice ua un uc, .slice da dn dc, .slice xa xn xc, .slice ba bn bc] 49) := ⟨_, rfl⟩
    have hb2 : Below w1.heap.size w1 W2 := by rw [hW2]; exact below_alloc _ _
    have hQ : W2.heap[w1.heap.size]? = some (.cells #[.slice ua un uc, .slice da dn dc, .slice xa xn xc, .slice ba bn bc] 49 (0, 0)) := by rw [hW2]; exact World.alloc_heap_new _ _
    clear s0 s1 hb1 HC
    go_upto_region 4 with fail
    rw [← hW2]
    clear hW2
    have hT2 := hT.below hb2
    have hN2 := hN.below hb2
    have hB2 := hB1.trans (hb2.mono hB1.size)
    have c0 : W2.cell? ⟨w1.heap.size, 0, none⟩ = some (.slice ua un uc) := by simp [World.cell?, hQ]
    have c1 : W2.cell? ⟨w1.heap.size, 1, none⟩ = some (.slice da dn dc) := by simp [World.cell?, hQ]
    have c2 : W2.cell? ⟨w1.heap.size, 2, none⟩ = some (.slice xa xn xc) := by simp [World.cell?, hQ]
    have c3 : W2.cell? ⟨w1.heap.size, 3, none⟩ = some (.slice ba bn bc) := by simp [World.cell?, hQ]
    have HL := Lib.hid (fchain8_any _ (trieP wss) node W2 hT2 hun)
    have hct : chainT8 (trieP wss) node = chainI wss node := by unfold chainT8; rw [hr]
    rw [hct] at HL
    clear hb2 hB1 hT hN hT2 hct
    go_wp2_with fail
    refine HL.out.mono ?_
    rintro e w3 ⟨v, rfl, hv, hb3⟩
    have hB3 := hB2.trans (hb3.mono hB2.size)
    have hN3 := hN2.below hb3
    clear hb3 hB2 hN2 c0 c1 c2 c3 hQ HL hr
    have HN := Lib.hid hN3
    obtain ⟨n, hnn⟩ : ∃ n, (nodesL wss).length = n := ⟨_, rfl⟩
    have HNN := Lib.hid hnn
    rw [hnn] at HN hn120 hbc ⊢
    have HBD := Lib.hid (nodes_bd (M := 32) (wss := wss) (fun x hx => ((right_spec hright).2.2.1 x hx).2))
    clear hN3
    by_cases hnode : 0 ≤ node ∧ node < n
    · obtain ⟨hn0, hn1⟩ := hnode
      obtain ⟨z, rfl⟩ : ∃ z : Nat, node = z := ⟨node.toNat, by omega⟩
      have hzn : z < n := by omega
      have hct : chainI wss (z : Int) = (chN (linksP wss) z z).map fun z : Nat => (z : Int) := by
        unfold chainI
        rw [if_pos ⟨hn0, by rw [hnn]; exact hn1⟩, Int.toNat_natCast]
      rw [hct] at hv
      clear hct hn0 hn1
      obtain ⟨x, hx⟩ : ∃ x, (nodesL wss)[z]? = some x := ⟨(nodesL wss)[z]'(by omega), by simp⟩
      obtain ⟨C, hC⟩ : ∃ C, chN (linksP wss) z z = C := ⟨_, rfl⟩
      obtain ⟨m, hm⟩ : ∃ m, C.length = m + 1 := ⟨C.length - 1, by rw [← hC]; have := (chN_len (linksP wss) z z).2; omega⟩
      have hmz : m ≤ z := by have := (chN_len (linksP wss) z z).1; rw [hC] at this; omega
      have E1 : Hid (∀ (i p : Nat), C[i]? = some p → ∃ y, (nodesL wss)[p]? = some y ∧ endsB x y = true) := fun i p h => by
        rw [← hC] at h
        obtain ⟨y, h1, _⟩ := chain_at hx h
        exact ⟨y, h1, chain_ends hx (List.mem_of_getElem? h) h1⟩
      have E2 : Hid (∀ (i p p' : Nat) (y y' : List Int), C[i]? = some p → C[i + 1]? = some p' → (nodesL wss)[p]? = some y → (nodesL wss)[p']? = some y' → y'.length < y.length) := fun i p p' y y' h h' hy hy' => by
        rw [← hC] at h h'
        exact chain_less hx h h' hy hy'
      have E3 : Hid ((nodesL wss).countP (fun y => endsB x y) = m + 1) := by rw [Hid, ← chain_cnt hx, hC, hm]
      have E4 : Hid (C[0]? = some z) := by rw [Hid, ← hC]; exact chain_first hx
      have E5 : Hid (C[m]? = some 0) := by rw [Hid, ← hC]; exact chain_last hx (by rw [hC]; exact hm)
      rw [hC] at hv
      clear hC
      have hvl : (C.map fun z : Nat => (z : Int)).length = m + 1 := by rw [List.length_map, hm]
      unfold OwnI at hv
      rw [hvl] at hv
      obtain ⟨av, cv, rfl, hcv, hvs⟩ := own_sl1 (enc := Value.int .i64) hv
      obtain ⟨bC, oC, hav, hbCl, hcC⟩ := hvs.2.resolve_left (by omega)
      subst hav
      have HCC : Hid (∀ (i p : Nat), C[i]? = some p → w3.cell? ⟨bC, oC + i, none⟩ = some (.int .i64 (p : Int))) := fun i p h => hcC i (p : Int) (by rw [List.getElem?_map, h]; rfl)
      obtain ⟨bi, oi, ax, lx, cx, x', hbi, hbil, hci, hxi, hXi, hlcx⟩ := HN.out.at_ hzn
      rw [hx] at hxi
      obtain rfl : x = x' := Option.some.inj hxi
      subst hbi
      have hlx : lx ≤ 4611686018427387904 := by
        have := HBD.out x (List.mem_of_getElem? hx)
        rw [hXi.len] at this
        omega
      have HXI := Lib.hid hXi
      have HCI := Lib.hid hci
      have HM := Lib.hid hm
      have d0 : decide ((z : Int) < 0) = false := by simp
      have d1 : decide ((n : Int) ≤ (z : Int)) = false := by simp; omega
      have d1' : decide (n ≤ z) = false := by simp; omega
      have z1 : (0 : Int) ≤ (z : Int) := by omega
      have z2 : (z : Int) < (n : Int) := by omega
      clear hv hvl hcC hxi hXi hci hx hvs hm hnn
      go_wp2
      go_loopw [9, 10] (fun s9 s10 wr => ∃ j : Nat, j ≤ n ∧ s10 = .int .i64 j ∧ s9 = .int .i64 (((nodesL wss).take j).countP (fun y => endsB x y) : Nat) ∧ Below w3.heap.size w3 wr) (fun _ s _ => n - (intOf s).toNat)
      case atStart => exact ⟨0, Nat.zero_le _, rfl, by simp, Below.refl _ _⟩
      case round =>
        obtain ⟨j, hjn, rfl, rfl, hBj⟩ := hrel
        by_cases hjl : j < n
        · have hdj : decide ((j : Int) < n) = true := by simp; omega
          obtain ⟨y, hy⟩ : ∃ y, (nodesL wss)[j]? = some y := ⟨(nodesL wss)[j]'(by have := HNN.out; omega), by simp⟩
          obtain ⟨bj, oj, aj, lj, cj, y', hbj, hbjl, hcj, hyj, hYj, hlcj⟩ := HN.out.at_ hjl
          rw [hy] at hyj
          obtain rfl : y = y' := Option.some.inj hyj
          obtain ⟨rfl, rfl⟩ : bi = bj ∧ oi = oj := by injection hbj with h; injection h with h1 h2; exact ⟨h1, h2⟩
          obtain ⟨B, hBB⟩ : ∃ B, endsB x y = B := ⟨_, rfl⟩
          have ee : ∀ (V : World), Below wr.heap.size wr V → Calls Try.prog 27 #[.slice ax lx cx, .slice aj lj cj] V fun e w' => e = .returned (.bool B) ∧ Below V.heap.size V w' := fun V hV => by
            have hb := hBj.trans (hV.mono hBj.size)
            have := ends8_any ax aj lx cx lj cj x y V (HXI.out.below hb) (hYj.below hb) hlx hlcx
            rwa [hBB] at this
          have EE := Lib.hid ee
          have f1 : ∀ d os, (grow (redrawn wr d) os).cell? ⟨bi, oi + z, none⟩ = some (.slice ax lx cx) := fun d os => ((hBj.trans ((below_regrown wr d os).mono hBj.size)).cell (p := ⟨bi, oi + z, none⟩) hbil).trans HCI.out
          have f2 : ∀ d os, (grow (redrawn wr d) os).cell? ⟨bi, oi + j, none⟩ = some (.slice aj lj cj) := fun d os => ((hBj.trans ((below_regrown wr d os).mono hBj.size)).cell (p := ⟨bi, oi + j, none⟩) hbil).trans hcj
          have HS : Hid (((nodesL wss).take (j + 1)).countP (fun y => endsB x y) = ((nodesL wss).take j).countP (fun y => endsB x y) + (if B then 1 else 0)) := by
            rw [Hid, take_step hy, List.countP_append, List.countP_singleton, hBB]
          have hcl : ((nodesL wss).take j).countP (fun y => endsB x y) ≤ n := by
            have h1 := List.countP_le_length (p := fun y => endsB x y) (l := (nodesL wss).take j)
            rw [List.length_take] at h1
            omega
          obtain ⟨q, hq⟩ : ∃ q, ((nodesL wss).take j).countP (fun y => endsB x y) = q := ⟨_, rfl⟩
          rw [hq] at HS hcl ⊢
          have j1 : (0 : Int) ≤ (j : Int) := by omega
          have j2 : (j : Int) < (n : Int) := by omega
          clear hy hyj hYj hcj ee hbj hBB hq
          go_upto_region 11 with fail
          refine wp_region_quiet_below mixed (by kernel_rfl) ?_
          repeat (go_big_quiet_step (exact grown_below (EE.out _ (below_regrown wr _ _))))
          refine wpQuiet_nil ?_
          rintro _ ⟨⟨dq, osq⟩, rfl⟩
          have hBn := hBj.trans ((below_regrown wr dq osq).mono hBj.size)
          clear f1 f2
          cases B with
          | true =>
            go_wp2
            go_roundw
            case rel => exact ⟨j + 1, by omega, by go_num, by rw [HS.out]; go_num, hBn⟩
            case measure => simp [intOf]; omega
          | false =>
            go_wp2
            go_roundw
            case rel => exact ⟨j + 1, by omega, by go_num, by rw [HS.out]; rfl, hBn⟩
            case measure => simp [intOf]; omega
        · obtain rfl : j = n := by omega
          have hdj : decide ((j : Int) < j) = false := by simp
          have HS : Hid (((nodesL wss).take j).countP (fun y => endsB x y) = m + 1) := by
            rw [Hid, List.take_of_length_le (by rw [HNN.out]; exact Nat.le_refl _)]
            exact E3.out
          rw [HS.out]
          go_wp2
          go_loopw [11] (fun s11 wi => ∃ i : Nat, i ≤ m + 1 ∧ s11 = .int .i64 i ∧ Below w3.heap.size w3 wi) (fun s _ => m + 1 - (intOf s).toNat)
          case atStart => exact ⟨0, Nat.zero_le _, rfl, hBj⟩
          case round =>
            clear hBj
            obtain ⟨i, him, rfl, hBi⟩ := hrel
            by_cases hil : i < m + 1
            · have hdi : decide ((i : Int) < ((m + 1 : Nat) : Int)) = true := by simp; omega
              have hdi' : decide ((i : Int) < (m : Int) + 1) = true := by simp; omega
              have hdi2 : decide (i < m + 1) = true := by simp; omega
              obtain ⟨p, hp⟩ : ∃ p, C[i]? = some p := ⟨C[i]'(by rw [HM.out]; exact hil), by simp⟩
              obtain ⟨y, hy, hye⟩ := E1.out i p hp
              have hpn : p < j := by have := (List.getElem?_eq_some_iff.1 hy).1; have := HNN.out; omega
              obtain ⟨bj, oj, aj, lj, cj, y', hbj, hbjl, hcj, hyj, hYj, hlcj⟩ := HN.out.at_ hpn
              rw [hy] at hyj
              obtain rfl : y = y' := Option.some.inj hyj
              obtain ⟨rfl, rfl⟩ : bi = bj ∧ oi = oj := by injection hbj with h; injection h with h1 h2; exact ⟨h1, h2⟩
              have ee : ∀ (V : World), Below wr.heap.size wr V → Calls Try.prog 27 #[.slice ax lx cx, .slice aj lj cj] V fun e w' => e = .returned (.bool true) ∧ Below V.heap.size V w' := fun V hV => by
                have hb := hBi.trans (hV.mono hBi.size)
                have := ends8_any ax aj lx cx lj cj x y V (HXI.out.below hb) (hYj.below hb) hlx hlcx
                rwa [hye] at this
              have EE := Lib.hid ee
              have f1 : ∀ d os, (grow (redrawn wr d) os).cell? ⟨bi, oi + z, none⟩ = some (.slice ax lx cx) := fun d os => ((hBi.trans ((below_regrown wr d os).mono hBi.size)).cell (p := ⟨bi, oi + z, none⟩) hbil).trans HCI.out
              have f2 : ∀ d os, (grow (redrawn wr d) os).cell? ⟨bi, oi + p, none⟩ = some (.slice aj lj cj) := fun d os => ((hBi.trans ((below_regrown wr d os).mono hBi.size)).cell (p := ⟨bi, oi + p, none⟩) hbil).trans hcj
              have f3 : ∀ d os, (grow (redrawn wr d) os).cell? ⟨bC, oC + i, none⟩ = some (.int .i64 (p : Int)) := fun d os => ((hBi.trans ((below_regrown wr d os).mono hBi.size)).cell (p := ⟨bC, oC + i, none⟩) hbCl).trans (HCC.out i p hp)
              have g1 : decide ((p : Int) < 0) = false := by simp
              have g2 : decide ((j : Int) ≤ (p : Int)) = false := by simp; omega
              have g2' : decide (j ≤ p) = false := by simp; omega
              have i1 : (0 : Int) ≤ (i : Int) := by omega
              have i2 : (i : Int) < ((m + 1 : Nat) : Int) := by omega
              have i2' : (i : Int) < (m : Int) + 1 := by omega
              have p1 : (0 : Int) ≤ (p : Int) := by omega
              have p2 : (p : Int) < (j : Int) := by omega
              have HYL := Lib.hid hYj.len
              have HYY := Lib.hid hy
              have HPP := Lib.hid hp
              clear hp hy hye hyj hYj hcj ee hbj
              go_upto_region 16 with fail
              go_cut [113] (fun s113 wx => s113 = .bool false ∧ Below wr.heap.size wr wx)
              case first =>
                by_cases hi0 : i = 0
                · have e1 : decide ((0 : Int) < (i : Int)) = false := by simp; omega
                  have e1' : decide (0 < i) = false := by simp; omega
                  clear hi0
                  refine wp_region_quiet_below mixed (by kernel_rfl) ?_
                  repeat (go_big_quiet_step (exact grown_below (EE.out _ (below_regrown wr _ _))))
                  refine wpQuiet_nil ?_
                  rintro _ ⟨⟨dq, osq⟩, rfl⟩
                  go_wp2_with fail
                  go_meet
                  exact ⟨rfl, below_regrown wr dq osq⟩
                · obtain ⟨i', hi'⟩ : ∃ i', i = i' + 1 := ⟨i - 1, by omega⟩
                  obtain ⟨p0, hp0⟩ : ∃ p0, C[i']? = some p0 := ⟨C[i']'(by rw [HM.out]; omega), by simp⟩
                  obtain ⟨y0, hy0, _⟩ := E1.out i' p0 hp0
                  have hpn0 : p0 < j := by have := (List.getElem?_eq_some_iff.1 hy0).1; have := HNN.out; omega
                  obtain ⟨bk, ok, ak, lk, ck, y0', hbk, hbkl, hck, hyk, hYk, hlck⟩ := HN.out.at_ hpn0
                  rw [hy0] at hyk
                  obtain rfl : y0 = y0' := Option.some.inj hyk
                  obtain ⟨rfl, rfl⟩ : bi = bk ∧ oi = ok := by injection hbk with h; injection h with h1 h2; exact ⟨h1, h2⟩
                  have hlt := E2.out i' p0 p y0 y hp0 (by rw [← hi']; exact HPP.out) hy0 HYY.out
                  rw [HYL.out, hYk.len] at hlt
                  have e2 : decide ((lk : Int) ≤ (lj : Int)) = false := by simp; omega
                  have e2' : decide (lk ≤ lj) = false := by simp; omega
                  have f4 : ∀ d os, (grow (redrawn wr d) os).cell? ⟨bC, oC + i', none⟩ = some (.int .i64 (p0 : Int)) := fun d os => ((hBi.trans ((below_regrown wr d os).mono hBi.size)).cell (p := ⟨bC, oC + i', none⟩) hbCl).trans (HCC.out i' p0 hp0)
                  have f5 : ∀ d os, (grow (redrawn wr d) os).cell? ⟨bi, oi + p0, none⟩ = some (.slice ak lk ck) := fun d os => ((hBi.trans ((below_regrown wr d os).mono hBi.size)).cell (p := ⟨bi, oi + p0, none⟩) hbil).trans hck
                  have e1 : decide ((0 : Int) < (i : Int)) = true := by simp; omega
                  have e1' : decide (0 < i) = true := by simp; omega
                  have e3 : (i : Int) - 1 = (i' : Int) := by omega
                  have q1 : (0 : Int) ≤ (i' : Int) := by omega
                  have q2 : (i' : Int) < ((m + 1 : Nat) : Int) := by omega
                  have q2' : (i' : Int) < (m : Int) + 1 := by omega
                  have q3 : (0 : Int) ≤ (p0 : Int) := by omega
                  have q4 : (p0 : Int) < (j : Int) := by omega
                  clear hi' hp0 hy0 hyk hYk hck hbk hlt hi0
                  refine wp_region_quiet_below mixed (by kernel_rfl) ?_
                  repeat (go_big_quiet_step (exact grown_below (EE.out _ (below_regrown wr _ _))))
                  refine wpQuiet_nil ?_
                  rintro _ ⟨⟨dq, osq⟩, rfl⟩
                  go_wp2_with fail
                  go_meet
                  exact ⟨rfl, below_regrown wr dq osq⟩
              case rest =>
                obtain ⟨rfl, hBd⟩ := hcut
                have hBn := hBi.trans (hBd.mono hBi.size)
                clear f1 f2 f3
                go_wp2
                go_roundw
                case rel => exact ⟨i + 1, by omega, by go_num, hBn⟩
                case measure => simp [intOf]; omega
            · obtain rfl : i = m + 1 := by omega
              have hdi : decide (((m + 1 : Nat) : Int) < ((m + 1 : Nat) : Int)) = false := by simp
              have x0 : wr.cell? ⟨bC, oC, none⟩ = some (.int .i64 (z : Int)) := (hBi.cell (p := ⟨bC, oC, none⟩) hbCl).trans (HCC.out 0 z E4.out)
              have x1 : wr.cell? ⟨bC, oC + m, none⟩ = some (.int .i64 ((0 : Nat) : Int)) := (hBi.cell (p := ⟨bC, oC + m, none⟩) hbCl).trans (HCC.out m 0 E5.out)
              have m1 : (0 : Int) ≤ (m : Int) := by omega
              have hBf := hB3.trans (hBi.mono hB3.size)
              have wk := wakes8
              go_wp2_with fail
              refine (wk _).mono ?_
              rintro e w4 ⟨rfl, hb4⟩
              go_wp2
              go_ret
              exact ⟨rfl, hBf.trans (hb4.mono hBf.size)⟩
    · have HE : Hid (chainI wss node = []) := by unfold Hid chainI; rw [if_neg (by rw [hnn]; exact hnode)]
      rw [HE.out] at hv
      obtain ⟨av, cv, rfl, _, _⟩ := own_sl1 (enc := Value.int .i64) hv
      clear hv hnn
      have wk := wakes8
      by_cases h0 : node < 0
      · have d0 : decide (node < 0) = true := by simpa using h0
        clear h0 hnode
        go_wp2_with fail
        refine (wk _).mono ?_
        rintro e w4 ⟨rfl, hb4⟩
        go_wp2
        go_ret
        exact ⟨rfl, hB3.trans (hb4.mono hB3.size)⟩
      · have d0 : decide (node < 0) = false := by simpa using h0
        have d1 : decide ((n : Int) ≤ node) = true := by simp; omega
        clear h0 hnode
        go_wp2_with fail
        refine (wk _).mono ?_
        rintro e w4 ⟨rfl, hb4⟩
        go_wp2
        go_ret
        exact ⟨rfl, hB3.trans (hb4.mono hB3.size)⟩

end Go.Proofs.Ytifcoalhkcflnaa

/- The law on steps (layer 8): walked. -/

namespace Go.Proofs.Ytifcoalhkcflnaa
open Go.RowKit Go.Sort
set_option linter.unusedVariables false
set_option linter.unusedSimpArgs false

theorem deep_read {ws : List (List Int)} {T : TrieT} (hr : readP T = some (nodesL ws, ws)) (b : List Int) : deepT T b = (placeS (nodesL ws) (lsf (nodesL ws) b), true) := by unfold deepT; rw [hr]
theorem step_read {ws : List (List Int)} {T : TrieT} (hr : readP T = some (nodesL ws, ws)) {z : Nat} {x : List Int} (hx : (nodesL ws)[z]? = some x) (c : Int) : stepT T (z : Int) c = (placeS (nodesL ws) (lsf (nodesL ws) (x ++ [c])), true) := by
  have hl := (List.getElem?_eq_some_iff.1 hx).1
  unfold stepT
  rw [hr]
  dsimp only
  rw [if_pos ⟨by omega, by omega⟩, Int.toNat_natCast, hx]
  rfl

set_option maxRecDepth 100000 in
set_option maxHeartbeats 8000000 in
theorem failSteps_walk (fold : Bool) (a : Option Addr) (b' : Option Addr) (la ca lb cb : Nat) (x : List Int) (wss : List (List Int)) (w : World) (hA : Wds w a la wss) (hX : Bys w b' lb x) (hcb : lb ≤ cb) :
    Calls Try.prog 7 #[.agg (setV fold a la ca), .slice b' lb cb] w fun e w' => e = .returned (.bool true) ∧ Below w.heap.size w w' := by
  obtain ⟨W, hW⟩ : ∃ W, W = w.alloc (.cells (setV fold a la ca) 24) := ⟨_, rfl⟩
  have hB : Below w.heap.size w W := by rw [hW]; exact below_alloc _ _
  have hO : Bx w.heap.size [.cells (setV fold a la ca) 24] W := by rw [hW]; exact (Bx.nil _ w).snoc _ rfl
  have s0 : W.cell? ⟨w.heap.size, 0, none⟩ = some (.bool fold) := hO.cell (i := 0) rfl rfl
  have s1 : W.cell? ⟨w.heap.size, 1, none⟩ = some (.slice a la ca) := hO.cell (i := 0) rfl rfl
  cases hs : smallB fold wss with
  | false =>
    have HC := Lib.hid (small8_no fold a la ca wss W (hA.below hB) hs)
    clear hO hA
    go_enter Try.func7, Try.ntmps7
    go_upto_region 1 with fail
    rw [← hW]
    clear hW
    go_wp2_with fail
    refine HC.out.mono ?_
    rintro e w1 ⟨rfl, hb1⟩
    have hB1 := (hB.trans (hb1.mono hB.size)).alloc (hB.trans (hb1.mono hB.size)).size (.cells nil4 49)
    clear s0 s1
    go_wp2_with fail
    refine (wakes8 _).mono ?_
    rintro e w2 ⟨rfl, hb2⟩
    have hB2 := hB1.trans (hb2.mono hB1.size)
    go_wp2
    go_ret
    exact ⟨rfl, hB2⟩
  | true =>
    have HC := Lib.hid (small8_yes fold a la ca wss W (hA.below hB) hs)
    obtain ⟨hr, hn120, hright⟩ := small_right hs
    clear hO hA
    go_enter Try.func7, Try.ntmps7
    go_upto_region 1 with fail
    rw [← hW]
    clear hW
    go_wp2_with fail
    refine HC.out.mono ?_
    rintro e w1 ⟨t, b, c, rfl, hbc, hN, hT, hb1⟩
    obtain ⟨ua, un, uc, da, dn, dc, xa, xn, xc, ba, bn, bc⟩ := t
    have hB1 := hB.trans (hb1.mono hB.size)
    have hun : un ≤ 140737488351232 := by have := hT.up.1; simp [trieP] at this; omega
    obtain ⟨W2, hW2⟩ : ∃ W, W = w1.alloc (.cells #[.slice ua un uc, .slice da dn dc, .slice xa xn xc, .slice ba bn bc] 49) := ⟨_, rfl⟩
    have hb2 : Below w1.heap.size w1 W2 := by rw [hW2]; exact below_alloc _ _
    have hQ : W2.heap[w1.heap.size]? = some (.cells #[.slice ua un uc, .slice da dn dc, .slice xa xn xc, .slice ba bn bc] 49 (0, 0)) := by rw [hW2]; exact World.alloc_heap_new _ _
    clear s0 s1 HC
    have hX2 := hX.below (hB1.trans (hb2.mono hB1.size))
    by_cases h60 : 60 < lb
    · have d60 : decide ((60 : Int) < (lb : Int)) = true := by simp; omega
      have d60' : decide (60 < lb) = true := by simp; omega
      have hBf := hB1.trans (hb2.mono hB1.size)
      have wk := wakes8
      clear h60
      go_wp2_with fail
      rw [← hW2]
      refine (wk _).mono ?_
      rintro e w4 ⟨rfl, hb4⟩
      go_wp2
      go_ret
      exact ⟨rfl, hBf.trans (hb4.mono hBf.size)⟩
    have d60 : decide ((60 : Int) < (lb : Int)) = false := by simp; omega
    have d60' : decide (60 < lb) = false := by simp; omega
    go_upto_region 4 with fail
    rw [← hW2]
    clear hW2
    have hT2 := hT.below hb2
    have hN2 := hN.below hb2
    have hB2 := hB1.trans (hb2.mono hB1.size)
    have c0 : W2.cell? ⟨w1.heap.size, 0, none⟩ = some (.slice ua un uc) := by simp [World.cell?, hQ]
    have c1 : W2.cell? ⟨w1.heap.size, 1, none⟩ = some (.slice da dn dc) := by simp [World.cell?, hQ]
    have c2 : W2.cell? ⟨w1.heap.size, 2, none⟩ = some (.slice xa xn xc) := by simp [World.cell?, hQ]
    have c3 : W2.cell? ⟨w1.heap.size, 3, none⟩ = some (.slice ba bn bc) := by simp [World.cell?, hQ]
    have HD0 := Lib.hid (deep8_any _ (trieP wss) none 0 0 [] W2 hT2 hun (Bys.nil _ _) (by decide))
    rw [deep_read hr, show placeS (nodesL wss) (lsf (nodesL wss) []) = 0 from placeS_at (nodesL_srt wss).nodup (nodesL_head wss)] at HD0
    have HR := Lib.hid hr
    have HT := Lib.hid hT2
    have HQ := Lib.hid hQ
    have HX := Lib.hid hX2
    have HN := Lib.hid hN2
    obtain ⟨n, hnn⟩ : ∃ n, (nodesL wss).length = n := ⟨_, rfl⟩
    have HNN := Lib.hid hnn
    rw [hnn] at HN hn120 hbc ⊢
    have HBD := Lib.hid (nodes_bd (M := 32) (wss := wss) (fun x hx => ((right_spec hright).2.2.1 x hx).2))
    clear hb2 hB1 hT hN hT2 hN2 hX2 hr hX hnn hb1 hB
    go_wp2_with fail
    refine HD0.out.mono ?_
    rintro e w3 ⟨rfl, hb3⟩
    clear c0 c1 c2 c3 hQ HD0
    go_wp2
    go_loopw [8, 10] (fun s8 s10 wr => ∃ i : Nat, i ≤ lb ∧ s10 = .int .i64 i ∧ s8 = .int .i64 (placeS (nodesL wss) (lsf (nodesL wss) (x.take i))) ∧ Below W2.heap.size W2 wr) (fun _ s _ => lb - (intOf s).toNat)
    case atStart => exact ⟨0, Nat.zero_le _, rfl, by rw [List.take_zero]; exact congrArg _ (placeS_at (nodesL_srt wss).nodup (nodesL_head wss)).symm, hb3⟩
    case round =>
      clear hb3
      obtain ⟨i, hi, rfl, rfl, hBe⟩ := hrel
      obtain ⟨z, hz1, hz2, hz3⟩ := lsf_idx wss (x.take i)
      rw [HNN.out] at hz1
      rw [hz3]
      have box : ∀ V : World, Below W2.heap.size W2 V → V.cell? ⟨w1.heap.size, 0, none⟩ = some (.slice ua un uc) ∧ V.cell? ⟨w1.heap.size, 1, none⟩ = some (.slice da dn dc) ∧ V.cell? ⟨w1.heap.size, 2, none⟩ = some (.slice xa xn xc) ∧ V.cell? ⟨w1.heap.size, 3, none⟩ = some (.slice ba bn bc) := fun V hV => by
        have : V.heap[w1.heap.size]? = _ := (hV.block _ (Array.getElem?_eq_some_iff.1 HQ.out).1).trans HQ.out
        refine ⟨?_, ?_, ?_, ?_⟩ <;> simp [World.cell?, this]
      have HBOX := Lib.hid box
      by_cases hil : i < lb
      · have hd : decide ((i : Int) < lb) = true := by simp; omega
        obtain ⟨bb, off, c', hbb, hbl, hcell, hc⟩ := sl1_at HX.out.1 hil
        subst hbb
        have hcr := HX.out.2 c' (List.mem_of_getElem? hc)
        obtain ⟨z', hy1, hy2, hy3⟩ := lsf_idx wss (x.take (i + 1))
        rw [HNN.out] at hy1
        have hst : stepT (trieP wss) (z : Int) c' = ((z' : Int), true) := by
          rw [step_read HR.out hz2, ← hy3, take_step hc, ← lsf_step (nodes_pre wss)]
        have hdt : deepT (trieP wss) (x.take (i + 1)) = ((z' : Int), true) := by rw [deep_read HR.out, hy3]
        have kst : ∀ d os, Calls Try.prog 30 #[.agg #[.slice ua un uc, .slice da dn dc, .slice xa xn xc, .slice ba bn bc], .int .i64 (z : Int), .int .u8 c'] (grow (redrawn wr d) os) fun e w' => e = .returned (.tuple #[.int .i64 (z' : Int), .bool true]) ∧ Below (grow (redrawn wr d) os).heap.size (grow (redrawn wr d) os) w' := fun d os => by
          have := fstep8_any _ (trieP wss) (z : Int) c' _ (HT.out.below (hBe.trans ((below_regrown wr d os).mono hBe.size))) hun hcr
          rwa [hst] at this
        have HST := Lib.hid kst
        have b0 := fun d os => (box _ (hBe.trans ((below_regrown wr d os).mono hBe.size))).1
        have b1 := fun d os => (box _ (hBe.trans ((below_regrown wr d os).mono hBe.size))).2.1
        have b2 := fun d os => (box _ (hBe.trans ((below_regrown wr d os).mono hBe.size))).2.2.1
        have b3 := fun d os => (box _ (hBe.trans ((below_regrown wr d os).mono hBe.size))).2.2.2
        have hc1 : ∀ d os, (grow (redrawn wr d) os).cell? ⟨bb, off + i, none⟩ = some (.int .u8 c') := fun d os => ((hBe.trans ((below_regrown wr d os).mono hBe.size)).cell (p := ⟨bb, off + i, none⟩) hbl).trans hcell
        have i1 : (0 : Int) ≤ (i : Int) := by omega
        have i2 : (i : Int) < (lb : Int) := by omega
        have HY2 := Lib.hid hy2
        have HZ2 := Lib.hid hz2
        have HCC := Lib.hid hc
        have HDT := Lib.hid hdt
        clear kst hst hdt hc hy2 hz2 hy3 hz3 box
        go_upto_region 10 with fail
        refine wp_region_quiet_below mixed (by kernel_rfl) ?_
        repeat (go_big_quiet_step (exact grown_below (HST.out _ _)))
        refine wpQuiet_nil ?_
        rintro _ ⟨⟨dq, osq⟩, rfl⟩
        have hBa := hBe.trans ((below_regrown wr dq osq).mono hBe.size)
        obtain ⟨Wa, hWa⟩ : ∃ Wa, grow (redrawn wr dq) osq = Wa := ⟨_, rfl⟩
        rw [hWa] at hBa ⊢
        clear hWa b0 b1 b2 b3 hc1 hBe
        have kdt : ∀ d os, Calls Try.prog 29 #[.agg #[.slice ua un uc, .slice da dn dc, .slice xa xn xc, .slice ba bn bc], .slice (some ⟨bb, off, none⟩) (i + 1) cb] (grow (redrawn Wa d) os) fun e w' => e = .returned (.tuple #[.int .i64 (z' : Int), .bool true]) ∧ Below (grow (redrawn Wa d) os).heap.size (grow (redrawn Wa d) os) w' := fun d os => by
          have hb := hBa.trans ((below_regrown Wa d os).mono hBa.size)
          have := deep8_any _ (trieP wss) (some ⟨bb, off, none⟩) (i + 1) cb _ _ (HT.out.below hb) hun ((HX.out.below hb).take (show i + 1 ≤ lb by omega)) (by omega)
          rwa [HDT.out] at this
        have HDD := Lib.hid kdt
        have b0 := fun d os => (HBOX.out _ (hBa.trans ((below_regrown Wa d os).mono hBa.size))).1
        have b1 := fun d os => (HBOX.out _ (hBa.trans ((below_regrown Wa d os).mono hBa.size))).2.1
        have b2 := fun d os => (HBOX.out _ (hBa.trans ((below_regrown Wa d os).mono hBa.size))).2.2.1
        have b3 := fun d os => (HBOX.out _ (hBa.trans ((below_regrown Wa d os).mono hBa.size))).2.2.2
        have i3 : (0 : Int) ≤ (i : Int) + 1 := by omega
        have i4 : (i : Int) + 1 ≤ (cb : Int) := by omega
        clear kdt
        go_upto_region 11 with fail
        refine wp_region_quiet_below mixed (by kernel_rfl) ?_
        repeat (go_big_quiet_step (exact grown_below (HDD.out _ _)))
        refine wpQuiet_nil ?_
        rintro _ ⟨⟨dq2, osq2⟩, rfl⟩
        have hBb := hBa.trans ((below_regrown Wa dq2 osq2).mono hBa.size)
        obtain ⟨Wb, hWb⟩ : ∃ Wb, grow (redrawn Wa dq2) osq2 = Wb := ⟨_, rfl⟩
        rw [hWb] at hBb ⊢
        clear hWb b0 b1 b2 b3 hBa HST HDD
        obtain ⟨bi, oi, ay, ly, cy, y', hbi, hbil, hci, hyi, hYi, hlcy⟩ := HN.out.at_ hy1
        rw [HY2.out] at hyi
        have hyi := Option.some.inj hyi
        obtain ⟨bk, ok, ak, lk, ck, v', hbk, hbkl, hck, hvk, hVk, hlck⟩ := HN.out.at_ hz1
        rw [HZ2.out] at hvk
        have hvk := Option.some.inj hvk
        subst hbi
        obtain ⟨rfl, rfl⟩ : bi = bk ∧ oi = ok := by injection hbk with h; injection h with h1 h2; exact ⟨h1, h2⟩
        have hlaw := deep_law (ws := wss) (x.take i) c'
        rw [← take_step HCC.out, hyi, hvk, hYi.len, hVk.len] at hlaw
        obtain ⟨l1, l2, _⟩ := hlaw
        have ee : ∀ d os, Calls Try.prog 27 #[.slice (some ⟨bb, off, none⟩) (i + 1) cb, .slice ay ly cy] (grow (redrawn Wb d) os) fun e w' => e = .returned (.bool true) ∧ Below (grow (redrawn Wb d) os).heap.size (grow (redrawn Wb d) os) w' := fun d os => by
          have hb := hBb.trans ((below_regrown Wb d os).mono hBb.size)
          have := ends8_any (some ⟨bb, off, none⟩) ay (i + 1) cb ly cy (x.take (i + 1)) y' _ ((HX.out.below hb).take (show i + 1 ≤ lb by omega)) (hYi.below hb) (by omega) (by omega)
          rwa [l1] at this
        have EE := Lib.hid ee
        have f1 : ∀ d os, (grow (redrawn Wb d) os).cell? ⟨bi, oi + z', none⟩ = some (.slice ay ly cy) := fun d os => ((hBb.trans ((below_regrown Wb d os).mono hBb.size)).cell (p := ⟨bi, oi + z', none⟩) hbil).trans hci
        have f2 : ∀ d os, (grow (redrawn Wb d) os).cell? ⟨bi, oi + z, none⟩ = some (.slice ak lk ck) := fun d os => ((hBb.trans ((below_regrown Wb d os).mono hBb.size)).cell (p := ⟨bi, oi + z, none⟩) hbil).trans hck
        have g1 : decide ((z' : Int) < 0) = false := by simp
        have g2 : decide ((n : Int) ≤ (z' : Int)) = false := by simp; omega
        have g2' : decide (n ≤ z') = false := by simp; omega
        have g3 : decide ((lk : Int) + 1 < (ly : Int)) = false := by simp; omega
        have g3' : decide (lk + 1 < ly) = false := by simp; omega
        have g4 : ((z' : Int) != (z' : Int)) = false := by simp
        have z1 : (0 : Int) ≤ (z : Int) := by omega
        have z2 : (z : Int) < (n : Int) := by omega
        have z3 : (0 : Int) ≤ (z' : Int) := by omega
        have z4 : (z' : Int) < (n : Int) := by omega
        have hlk : lk ≤ 32 := by
          have := HBD.out v' (by rw [← hvk]; exact List.mem_of_getElem? HZ2.out)
          rwa [hVk.len] at this
        have HYZ : Hid (placeS (nodesL wss) (lsf (nodesL wss) (x.take (i + 1))) = (z' : Int)) := placeS_at (nodesL_srt wss).nodup HY2.out
        clear ee l1 l2 hyi hvk hYi hVk hci hck hbk
        go_upto_region 12 with fail
        refine wp_region_quiet_below mixed (by kernel_rfl) ?_
        repeat (go_big_quiet_step (exact grown_below (EE.out _ _)))
        refine wpQuiet_nil ?_
        rintro _ ⟨⟨dq3, osq3⟩, rfl⟩
        have hBc := hBb.trans ((below_regrown Wb dq3 osq3).mono hBb.size)
        clear f1 f2 hBb
        go_wp2
        go_roundw
        case rel => exact ⟨i + 1, by omega, by go_num, by rw [HYZ.out], hBc⟩
        case measure => simp [intOf]; omega
      · obtain rfl : i = lb := by omega
        have hd : decide ((i : Int) < i) = false := by simp
        have HXX : Hid (x.take i = x) := List.take_of_length_le (by rw [HX.out.len]; exact Nat.le_refl _)
        rw [HXX.out] at hz2 hz3
        have HZ2 := Lib.hid hz2
        clear hz2 hz3 box
        go_wp2
        go_loopw [15] (fun s15 wi => ∃ j : Nat, j ≤ n ∧ s15 = .int .i64 j ∧ Below W2.heap.size W2 wi) (fun s _ => n - (intOf s).toNat)
        case atStart => exact ⟨0, Nat.zero_le _, rfl, hBe⟩
        case round =>
          clear hBe
          obtain ⟨j, hjn, rfl, hBj⟩ := hrel
          by_cases hjl : j < n
          · have hdj : decide ((j : Int) < n) = true := by simp; omega
            obtain ⟨y, hy⟩ : ∃ y, (nodesL wss)[j]? = some y := ⟨(nodesL wss)[j]'(by have := HNN.out; omega), by simp⟩
            obtain ⟨bi, oi, ay, ly, cy, y', hbi, hbil, hci, hyi, hYi, hlcy⟩ := HN.out.at_ hjl
            rw [hy] at hyi
            obtain rfl : y = y' := Option.some.inj hyi
            obtain ⟨bk, ok, ak, lk, ck, v', hbk, hbkl, hck, hvk, hVk, hlck⟩ := HN.out.at_ hz1
            rw [HZ2.out] at hvk
            have hvk := Option.some.inj hvk
            subst hbi
            obtain ⟨rfl, rfl⟩ : bi = bk ∧ oi = ok := by injection hbk with h; injection h with h1 h2; exact ⟨h1, h2⟩
            obtain ⟨B, hBB⟩ : ∃ B, endsB x y = B := ⟨_, rfl⟩
            have hmax : B = true → ly ≤ lk := fun h => by
              have := deep_max (List.mem_of_getElem? hy) (by rw [hBB]; exact h)
              rwa [hYi.len, hvk, hVk.len] at this
            have ee : ∀ d os, Calls Try.prog 27 #[.slice b' i cb, .slice ay ly cy] (grow (redrawn wr d) os) fun e w' => e = .returned (.bool B) ∧ Below (grow (redrawn wr d) os).heap.size (grow (redrawn wr d) os) w' := fun d os => by
              have hb := hBj.trans ((below_regrown wr d os).mono hBj.size)
              have := ends8_any b' ay i cb ly cy x y _ (HX.out.below hb) (hYi.below hb) (by omega) hcb
              rwa [hBB] at this
            have EE := Lib.hid ee
            have f1 : ∀ d os, (grow (redrawn wr d) os).cell? ⟨bi, oi + j, none⟩ = some (.slice ay ly cy) := fun d os => ((hBj.trans ((below_regrown wr d os).mono hBj.size)).cell (p := ⟨bi, oi + j, none⟩) hbil).trans hci
            have f2 : ∀ d os, (grow (redrawn wr d) os).cell? ⟨bi, oi + z, none⟩ = some (.slice ak lk ck) := fun d os => ((hBj.trans ((below_regrown wr d os).mono hBj.size)).cell (p := ⟨bi, oi + z, none⟩) hbil).trans hck
            have z1 : (0 : Int) ≤ (z : Int) := by omega
            have z2 : (z : Int) < (n : Int) := by omega
            have j1 : (0 : Int) ≤ (j : Int) := by omega
            have j2 : (j : Int) < (n : Int) := by omega
            clear ee hBB hy hyi hvk hYi hVk hci hck hbk
            go_upto_region 18 with fail
            cases B with
            | false =>
              clear hmax
              refine wp_region_quiet_below mixed (by kernel_rfl) ?_
              repeat (go_big_quiet_step (exact grown_below (EE.out _ _)))
              refine wpQuiet_nil ?_
              rintro _ ⟨⟨dq3, osq3⟩, rfl⟩
              have hBc := hBj.trans ((below_regrown wr dq3 osq3).mono hBj.size)
              clear f1 f2
              go_wp2
              go_roundw
              case rel => exact ⟨j + 1, by omega, by go_num, hBc⟩
              case measure => simp [intOf]; omega
            | true =>
              have hle := hmax rfl
              have g3 : decide ((lk : Int) < (ly : Int)) = false := by simp; omega
              have g3' : decide (lk < ly) = false := by simp; omega
              clear hmax hle
              refine wp_region_quiet_below mixed (by kernel_rfl) ?_
              repeat (go_big_quiet_step (exact grown_below (EE.out _ _)))
              refine wpQuiet_nil ?_
              rintro _ ⟨⟨dq3, osq3⟩, rfl⟩
              have hBc := hBj.trans ((below_regrown wr dq3 osq3).mono hBj.size)
              clear f1 f2
              go_wp2
              go_roundw
              case rel => exact ⟨j + 1, by omega, by go_num, hBc⟩
              case measure => simp [intOf]; omega
          · obtain rfl : j = n := by omega
            have hdj : decide ((j : Int) < j) = false := by simp
            have hBf := hB2.trans (hBj.mono hB2.size)
            have wk := wakes8
            go_wp2_with fail
            refine (wk _).mono ?_
            rintro e w4 ⟨rfl, hb4⟩
            go_wp2
            go_ret
            exact ⟨rfl, hBf.trans (hb4.mono hBf.size)⟩

end Go.Proofs.Ytifcoalhkcflnaa

/- Kids of a node (layer 7): the iterator and Kid, walked. -/

namespace Go.Proofs.Ytifcoalhkcflnaa
open Go.RowKit Go.Sort
set_option linter.unusedVariables false
set_option linter.unusedSimpArgs false
attribute [local go_sem] Oper.semAt_some
attribute [local simp] wide_fn wide_depth
attribute [local go_sem] wide_fn wide_depth

/-- The kids of a node, of the first nodes, each with its byte. -/
def kidsTo (T : TrieT) (node : Int) : Nat → List (Int × Nat)
  | 0 => []
  | k + 1 => kidsTo T node k ++ (if 1 ≤ k ∧ T.up[k]? = some node then [((T.byt[k]?).getD 0, k)] else [])
theorem kidsTo_length (T : TrieT) (node : Int) : ∀ k, (kidsTo T node k).length ≤ k
  | 0 => by simp [kidsTo]
  | k + 1 => by
    have := kidsTo_length T node k
    unfold kidsTo
    rw [List.length_append]
    split <;> simp <;> omega
theorem mem_kidsTo {T : TrieT} {node : Int} {p : Int × Nat} : ∀ {k : Nat}, p ∈ kidsTo T node k ↔ 1 ≤ p.2 ∧ p.2 < k ∧ T.up[p.2]? = some node ∧ p.1 = (T.byt[p.2]?).getD 0
  | 0 => by simp [kidsTo]
  | k + 1 => by
    unfold kidsTo
    rw [List.mem_append, mem_kidsTo (k := k)]
    constructor
    · rintro (⟨h1, h2, h3⟩ | h)
      · exact ⟨h1, by omega, h3⟩
      · split at h
        · rename_i hc
          rw [List.mem_singleton] at h
          subst h
          exact ⟨hc.1, by dsimp only; omega, hc.2, rfl⟩
        · cases h
    · rintro ⟨h1, h2, h3, h4⟩
      by_cases e : p.2 = k
      · right
        subst e
        rw [if_pos ⟨h1, h3⟩, List.mem_singleton]
        exact Prod.ext h4 rfl
      · exact .inl ⟨h1, by omega, h3, h4⟩
abbrev KdP := { p : Int × Nat // 0 ≤ p.1 ∧ p.1 ≤ 255 }
def kdEnc (p : KdP) : Array Value := #[.int .u8 p.1.1, .int .i64 (p.1.2 : Int)]

theorem results_cells2 {fn : Func} {p q : Tmp} {tmps : Array Value} {W : World} {B C : Nat} (h : fn.results = #[.cell p 3, .cell q 4]) (hp : tmps.getD p undef = .pointer (some ⟨B, 0, none⟩)) (hq : tmps.getD q undef = .pointer (some ⟨C, 0, none⟩)) {v : Int} {b : Bool} (hB : Boxed W B 3 (.int .i64 v)) (hC : Boxed W C 4 (.bool b)) :
    (results fn tmps).run Try.prog W = .ok (.tuple #[.int .i64 v, .bool b]) W := by
  have hp' : tmps[p]?.getD undef = .pointer (some ⟨B, 0, none⟩) := by simpa using hp
  have hq' : tmps[q]?.getD undef = .pointer (some ⟨C, 0, none⟩) := by simpa using hq
  have hc := hB.cell
  have hc2 := hC.cell
  simp [results, h, hp', hq', asAddr, hc, hc2, go_sem, loadVar]

end Go.Proofs.Ytifcoalhkcflnaa

/- A trie in memory of its own (layer 7, the document's way): walked. Printed by gen_v7.py. -/


namespace Go.Proofs.Ytifcoalhkcflnaa
open Go.RowKit Go.Sort
set_option linter.unusedVariables false
set_option linter.unusedSimpArgs false

theorem i64_one (x : Int) : (Value.int .i64 x).oneCell' = true := rfl
theorem i64_infoP : (Try.prog.info? 3).map (fun i => (i.zero, i.size, i.bytes)) = some (some (.int .i64 0), 1, 8) := by kernel_rfl
theorem results_trie1 {fn : Func} {p : Tmp} {tmps : Array Value} {W : World} {B : Nat} {x y z v : Value} (h : fn.results = #[.cell p 49]) (hp : tmps.getD p undef = .pointer (some ⟨B, 0, none⟩)) (hB : W.heap[B]? = some (.cells #[x, y, z, v] 49 (0, 0))) :
    (results fn tmps).run Try.prog W = .ok (.agg #[x, y, z, v]) W :=
  results_cell_row h _ W B 49 #[x, y, z, v] _ _ hp hB Try.underlying49 rfl (by kernel_rfl)
/-- A trie of the call's own. -/
structure OTri (W : World) (base : Nat) (t : TV) (T : TrieT) : Prop where
  up : W.ownsRow base 3 1 (.slice t.ua t.un t.uc) t.un (T.up.map (Value.int .i64))
  dep : W.ownsRow base 3 1 (.slice t.da t.dn t.dc) t.dn (T.dep.map (Value.int .i64))
  wrd : W.ownsRow base 3 1 (.slice t.xa t.xn t.xc) t.xn (T.wrd.map (Value.int .i64))
  byt : W.ownsRow base 5 1 (.slice t.ba t.bn t.bc) t.bn (T.byt.map (Value.int .u8))
  bd : ∀ c ∈ T.byt, 0 ≤ c ∧ c ≤ 255
  s1 : sep (.slice t.ua t.un t.uc) (.slice t.da t.dn t.dc)
  s2 : sep (.slice t.ua t.un t.uc) (.slice t.xa t.xn t.xc)
  s3 : sep (.slice t.ua t.un t.uc) (.slice t.ba t.bn t.bc)
  s4 : sep (.slice t.da t.dn t.dc) (.slice t.xa t.xn t.xc)
  s5 : sep (.slice t.da t.dn t.dc) (.slice t.ba t.bn t.bc)
  s6 : sep (.slice t.xa t.xn t.xc) (.slice t.ba t.bn t.bc)
theorem row_cap {w : World} {base n : Nat} {e : TypeId} {a : Option Addr} {m c : Nat} {xs : List Value} (h : w.ownsRow base e 1 (.slice a m c) n xs) : m ≤ c := by
  rcases h.2 with ⟨h', _⟩ | ⟨g', cap', cur, h', _, hg, hnc, _⟩
  · injection h' with h1 h2 h3; omega
  · injection h' with h1 h2 h3; omega
theorem OTri.tri {W : World} {base : Nat} {t : TV} {T : TrieT} (h : OTri W base t T) : Tri W t T :=
  ⟨own_sl h.up, own_sl h.dep, own_sl h.wrd, ⟨own_sl h.byt, h.bd⟩, row_cap h.up, row_cap h.dep, row_cap h.wrd, row_cap h.byt⟩
theorem OTri.below {W V : World} {base : Nat} {t : TV} {T : TrieT} (h : OTri W base t T) (hb : Below W.heap.size W V) : OTri V base t T :=
  ⟨own_below_ h.up hb, own_below_ h.dep hb, own_below_ h.wrd hb, own_below_ h.byt hb, h.bd, h.s1, h.s2, h.s3, h.s4, h.s5, h.s6⟩
theorem own_fresh {v lit : Value} {p : Nat} (hl : lit.ownBlock = some p) (h : v.ownBlock = lit.ownBlock ∨ v.ownBlock = some (p + 1)) : ∀ k, v.ownBlock = some k → p ≤ k := fun k hk => by
  rcases h with e | e
  · rw [hl, hk] at e; injection e with e; omega
  · rw [hk] at e; injection e with e; omega
theorem sep_of_lt {u v : Value} {n : Nat} (hu : ∀ k, u.ownBlock = some k → k < n) (hv : ∀ k, v.ownBlock = some k → n ≤ k) : sep u v := fun k h1 h2 => by have := hu k h1; have := hv k h2; omega
theorem grown_box {W V : World} {B : Nat} {o : Obj} (hg : (W.alloc o).grownBy V (some W.heap.size)) (hB : B < W.heap.size) : V.heap[B]? = W.heap[B]? :=
  (hg.block B (by simp; omega) (by simp; omega)).trans (Below.heap_alloc _ _ _ hB)
theorem grown_below2 {B : Nat} {W0 W V : World} {o : Obj} (hB : Below B W0 W) (hg : (W.alloc o).grownBy V (some W.heap.size)) (hn : B ≤ W.heap.size) : Below B W0 V :=
  (hB.alloc hn o).grown hg (by simp; omega) (fun k e => by injection e with e; omega)
theorem row_keep {W V : World} {base n size : Nat} {e : TypeId} {v : Value} {xs : List Value} {o : Obj} (h : W.ownsRow base e size v n xs) (hg : (W.alloc o).grownBy V (some W.heap.size)) : V.ownsRow base e size v n xs :=
  (h.alloc o).kept hg (by
    cases hv : v.ownBlock with
    | none => exact .inl rfl
    | some k => exact .inr (fun e => by have := (row_lt h k hv).2; injection e with e; omega))
theorem row_mono {w : World} {base base' n size : Nat} {e : TypeId} {v : Value} {xs : List Value} (h : w.ownsRow base e size v n xs) (hb : base' ≤ base) : w.ownsRow base' e size v n xs :=
  ⟨h.1, h.2.imp id fun ⟨g, cap, cur, h1, h2, r⟩ => ⟨g, cap, cur, h1, by omega, r⟩⟩
theorem lit_nil (w : World) (e : TypeId) {base : Nat} (hb : base ≤ w.heap.size) : (w.alloc (.cells #[] e)).ownsRow base e 1 (.slice (some ⟨w.heap.size, 0, none⟩) 0 0) 0 [] :=
  World.ownsRow_lit w #[] 0 hb (by decide) rfl

set_option maxRecDepth 100000 in
set_option maxHeartbeats 4000000 in
theorem rown7_any (t : TV) (T : TrieT) (w : World) (hT : Tri w t T) (hb : t.un ≤ 1000000 ∧ t.dn ≤ 1000000 ∧ t.xn ≤ 1000000 ∧ t.bn ≤ 1000000) :
    Calls Try.prog 31 #[.agg t.cells] w fun e w' => ∃ u : TV, e = .returned (.agg u.cells) ∧ OTri w' w.heap.size u T ∧ Below w.heap.size w w' := by
  obtain ⟨ua, un, uc, da, dn, dc, xa, xn, xc, ba, bn, bc⟩ := t
  dsimp only at hb
  obtain ⟨b1, b2, b3, b4⟩ := hb
  have hbd := Lib.hid hT.byt.2
  obtain ⟨W1, hW⟩ : ∃ W, W = (w.alloc (.cells #[.slice ua un uc, .slice da dn dc, .slice xa xn xc, .slice ba bn bc] 49)).alloc (.cells nil4 49) := ⟨_, rfl⟩
  have hB1 : Below w.heap.size w W1 := by rw [hW]; exact (below_alloc _ _).alloc (by simp) _
  have hbx1 : W1.heap[w.heap.size]? = some (.cells #[.slice ua un uc, .slice da dn dc, .slice xa xn xc, .slice ba bn bc] 49 (0, 0)) := by rw [hW]; exact (Below.heap_alloc _ _ _ (by simp)).trans (World.alloc_heap_new _ _)
  have hbz1 : W1.heap[w.heap.size + 1]? = some (.cells nil4 49 (0, 0)) := by
    rw [hW]; exact alloc_at (w := w.alloc (.cells #[.slice ua un uc, .slice da dn dc, .slice xa xn xc, .slice ba bn bc] 49)) (n := w.heap.size + 1) (by simp) _
  have hz1 : w.heap.size + 2 ≤ W1.heap.size := by rw [hW]; simp
  have hT1 := hT.below hB1
  obtain ⟨i0, hi, hz0, hzz1, hzz2⟩ := info_parts i64_infoP
  obtain ⟨j0, hj, hy0, hy1, hy2⟩ := info_parts u8_info
  go_enter Try.func31, Try.ntmps31
  go_upto_region 1 with fail
  rw [← hW]
  clear hW
  have q1 : ∀ V : World, V.heap[w.heap.size]? = W1.heap[w.heap.size]? → V.cell? ⟨w.heap.size, 0, none⟩ = some (.slice ua un uc) ∧ V.frozen? ⟨w.heap.size, 0, none⟩ = false := fun V hV => by rw [hbx1] at hV; simp [World.cell?, World.frozen?, hV]
  have Q1 := Lib.hid q1
  clear q1
  have hl1 := lit_nil W1 3 (base := w.heap.size + 2) hz1
  have hTA1 := hT1.below (below_alloc W1 (.cells #[] 3))
  have c1 := (Q1.out (W1.alloc (.cells #[] 3)) (Below.heap_alloc _ _ _ (by omega))).1
  go_upto_region 1 with fail
  go_upto_region 2 with (at_builtin; refine wpList_append_sl1 rfl _ _ 37 rfl i64_one (w.heap.size + 2) 3 i0 (.int .i64 0) 8 Try.underlying37 hi hz0 hzz1 hzz2 rfl _ 0 [] rfl hl1 ua un uc T.up rfl hTA1.up (by unfold maxLen; omega) (by omega) (by simp; omega) ?_; intro v1 V1 hown1 hg1 hat1; have p1 := Q1.out V1 (grown_box hg1 (by omega)); obtain ⟨r1, f1⟩ := p1; rw [Nat.zero_add, List.nil_append] at hown1; obtain ⟨A1, C1, rfl, hC1, _⟩ := own_sl1 (enc := Value.int .i64) (xs := T.up) hown1)
  have hfr1 := own_fresh (p := W1.heap.size) rfl (by simpa using hat1)
  have hgs1 := hg1.size
  simp only [World.size_alloc] at hgs1
  obtain ⟨W2, hW⟩ : ∃ W, W = V1.setCell ⟨w.heap.size, 0, none⟩ (.slice A1 un C1) := ⟨_, rfl⟩
  rw [← hW]
  have hBV1 : Below w.heap.size w V1 := grown_below2 hB1 hg1 (by omega)
  have hB2 : Below w.heap.size w W2 := by rw [hW]; exact hBV1.setCell (Nat.le_refl _) _
  have hbV1 : V1.heap[w.heap.size]? = some (.cells #[.slice ua un uc, .slice da dn dc, .slice xa xn xc, .slice ba bn bc] 49 (0, 0)) := (grown_box hg1 (by omega)).trans hbx1
  have hbx2 : W2.heap[w.heap.size]? = some (.cells #[.slice A1 un C1, .slice da dn dc, .slice xa xn xc, .slice ba bn bc] 49 (0, 0)) := by rw [hW]; simpa using set_at (i := 0) hbV1 (.slice A1 un C1)
  have hbz2 : W2.heap[w.heap.size + 1]? = some (.cells nil4 49 (0, 0)) := by
    rw [hW]; exact (Below.heap_setCell _ _ _ _ (by simp)).trans ((grown_box hg1 (by omega)).trans hbz1)
  have hz2 : w.heap.size + 2 ≤ W2.heap.size := by rw [hW]; simp; omega
  have hsz1 : W1.heap.size < W2.heap.size := by rw [hW]; simp; omega
  have hT2 := hT.below hB2
  have hrow1 : W2.ownsRow (w.heap.size + 2) 3 1 (.slice A1 un C1) un (T.up.map (Value.int .i64)) := by rw [hW]; exact row_set hown1 (by omega) _
  have hup1 : ∀ j, (Value.slice A1 un C1).ownBlock = some j → j < W2.heap.size := fun j hj => (row_lt hrow1 j hj).2
  clear hW c1 hown1 hg1 hat1 r1 f1 hbV1 hl1 hTA1
  have q2 : ∀ V : World, V.heap[w.heap.size]? = W2.heap[w.heap.size]? → V.cell? ⟨w.heap.size, 1, none⟩ = some (.slice da dn dc) ∧ V.frozen? ⟨w.heap.size, 1, none⟩ = false := fun V hV => by rw [hbx2] at hV; simp [World.cell?, World.frozen?, hV]
  have Q2 := Lib.hid q2
  clear q2
  have hl2 := lit_nil W2 3 (base := w.heap.size + 2) hz2
  have hTA2 := hT2.below (below_alloc W2 (.cells #[] 3))
  have c2 := (Q2.out (W2.alloc (.cells #[] 3)) (Below.heap_alloc _ _ _ (by omega))).1
  go_upto_region 2 with fail
  go_upto_region 3 with (at_builtin; refine wpList_append_sl1 rfl _ _ 37 rfl i64_one (w.heap.size + 2) 3 i0 (.int .i64 0) 8 Try.underlying37 hi hz0 hzz1 hzz2 rfl _ 0 [] rfl hl2 da dn dc T.dep rfl hTA2.dep (by unfold maxLen; omega) (by omega) (by simp; omega) ?_; intro v2 V2 hown2 hg2 hat2; have p2 := Q2.out V2 (grown_box hg2 (by omega)); obtain ⟨r2, f2⟩ := p2; rw [Nat.zero_add, List.nil_append] at hown2; obtain ⟨A2, C2, rfl, hC2, _⟩ := own_sl1 (enc := Value.int .i64) (xs := T.dep) hown2)
  have hfr2 := own_fresh (p := W2.heap.size) rfl (by simpa using hat2)
  have hgs2 := hg2.size
  simp only [World.size_alloc] at hgs2
  obtain ⟨W3, hW⟩ : ∃ W, W = V2.setCell ⟨w.heap.size, 1, none⟩ (.slice A2 dn C2) := ⟨_, rfl⟩
  rw [← hW]
  have hBV2 : Below w.heap.size w V2 := grown_below2 hB2 hg2 (by omega)
  have hB3 : Below w.heap.size w W3 := by rw [hW]; exact hBV2.setCell (Nat.le_refl _) _
  have hbV2 : V2.heap[w.heap.size]? = some (.cells #[.slice A1 un C1, .slice da dn dc, .slice xa xn xc, .slice ba bn bc] 49 (0, 0)) := (grown_box hg2 (by omega)).trans hbx2
  have hbx3 : W3.heap[w.heap.size]? = some (.cells #[.slice A1 un C1, .slice A2 dn C2, .slice xa xn xc, .slice ba bn bc] 49 (0, 0)) := by rw [hW]; simpa using set_at (i := 1) hbV2 (.slice A2 dn C2)
  have hbz3 : W3.heap[w.heap.size + 1]? = some (.cells nil4 49 (0, 0)) := by
    rw [hW]; exact (Below.heap_setCell _ _ _ _ (by simp)).trans ((grown_box hg2 (by omega)).trans hbz2)
  have hz3 : w.heap.size + 2 ≤ W3.heap.size := by rw [hW]; simp; omega
  have hsz2 : W2.heap.size < W3.heap.size := by rw [hW]; simp; omega
  have hT3 := hT.below hB3
  have hrow2 : W3.ownsRow (w.heap.size + 2) 3 1 (.slice A2 dn C2) dn (T.dep.map (Value.int .i64)) := by rw [hW]; exact row_set hown2 (by omega) _
  have hrow1 : W3.ownsRow (w.heap.size + 2) 3 1 (.slice A1 un C1) un (T.up.map (Value.int .i64)) := by
    rw [hW]; exact row_set (row_keep hrow1 hg2) (by omega) _
  have hup2 : ∀ j, (Value.slice A2 dn C2).ownBlock = some j → j < W3.heap.size := fun j hj => (row_lt hrow2 j hj).2
  clear hW c2 hown2 hg2 hat2 r2 f2 hbV2 hl2 hTA2
  have q3 : ∀ V : World, V.heap[w.heap.size]? = W3.heap[w.heap.size]? → V.cell? ⟨w.heap.size, 2, none⟩ = some (.slice xa xn xc) ∧ V.frozen? ⟨w.heap.size, 2, none⟩ = false := fun V hV => by rw [hbx3] at hV; simp [World.cell?, World.frozen?, hV]
  have Q3 := Lib.hid q3
  clear q3
  have hl3 := lit_nil W3 3 (base := w.heap.size + 2) hz3
  have hTA3 := hT3.below (below_alloc W3 (.cells #[] 3))
  have c3 := (Q3.out (W3.alloc (.cells #[] 3)) (Below.heap_alloc _ _ _ (by omega))).1
  go_upto_region 3 with fail
  go_upto_region 4 with (at_builtin; refine wpList_append_sl1 rfl _ _ 37 rfl i64_one (w.heap.size + 2) 3 i0 (.int .i64 0) 8 Try.underlying37 hi hz0 hzz1 hzz2 rfl _ 0 [] rfl hl3 xa xn xc T.wrd rfl hTA3.wrd (by unfold maxLen; omega) (by omega) (by simp; omega) ?_; intro v3 V3 hown3 hg3 hat3; have p3 := Q3.out V3 (grown_box hg3 (by omega)); obtain ⟨r3, f3⟩ := p3; rw [Nat.zero_add, List.nil_append] at hown3; obtain ⟨A3, C3, rfl, hC3, _⟩ := own_sl1 (enc := Value.int .i64) (xs := T.wrd) hown3)
  have hfr3 := own_fresh (p := W3.heap.size) rfl (by simpa using hat3)
  have hgs3 := hg3.size
  simp only [World.size_alloc] at hgs3
  obtain ⟨W4, hW⟩ : ∃ W, W = V3.setCell ⟨w.heap.size, 2, none⟩ (.slice A3 xn C3) := ⟨_, rfl⟩
  rw [← hW]
  have hBV3 : Below w.heap.size w V3 := grown_below2 hB3 hg3 (by omega)
  have hB4 : Below w.heap.size w W4 := by rw [hW]; exact hBV3.setCell (Nat.le_refl _) _
  have hbV3 : V3.heap[w.heap.size]? = some (.cells #[.slice A1 un C1, .slice A2 dn C2, .slice xa xn xc, .slice ba bn bc] 49 (0, 0)) := (grown_box hg3 (by omega)).trans hbx3
  have hbx4 : W4.heap[w.heap.size]? = some (.cells #[.slice A1 un C1, .slice A2 dn C2, .slice A3 xn C3, .slice ba bn bc] 49 (0, 0)) := by rw [hW]; simpa using set_at (i := 2) hbV3 (.slice A3 xn C3)
  have hbz4 : W4.heap[w.heap.size + 1]? = some (.cells nil4 49 (0, 0)) := by
    rw [hW]; exact (Below.heap_setCell _ _ _ _ (by simp)).trans ((grown_box hg3 (by omega)).trans hbz3)
  have hz4 : w.heap.size + 2 ≤ W4.heap.size := by rw [hW]; simp; omega
  have hsz3 : W3.heap.size < W4.heap.size := by rw [hW]; simp; omega
  have hT4 := hT.below hB4
  have hrow3 : W4.ownsRow (w.heap.size + 2) 3 1 (.slice A3 xn C3) xn (T.wrd.map (Value.int .i64)) := by rw [hW]; exact row_set hown3 (by omega) _
  have hrow1 : W4.ownsRow (w.heap.size + 2) 3 1 (.slice A1 un C1) un (T.up.map (Value.int .i64)) := by
    rw [hW]; exact row_set (row_keep hrow1 hg3) (by omega) _
  have hrow2 : W4.ownsRow (w.heap.size + 2) 3 1 (.slice A2 dn C2) dn (T.dep.map (Value.int .i64)) := by
    rw [hW]; exact row_set (row_keep hrow2 hg3) (by omega) _
  have hup3 : ∀ j, (Value.slice A3 xn C3).ownBlock = some j → j < W4.heap.size := fun j hj => (row_lt hrow3 j hj).2
  clear hW c3 hown3 hg3 hat3 r3 f3 hbV3 hl3 hTA3
  have q4 : ∀ V : World, V.heap[w.heap.size]? = W4.heap[w.heap.size]? → V.cell? ⟨w.heap.size, 3, none⟩ = some (.slice ba bn bc) ∧ V.frozen? ⟨w.heap.size, 3, none⟩ = false := fun V hV => by rw [hbx4] at hV; simp [World.cell?, World.frozen?, hV]
  have Q4 := Lib.hid q4
  clear q4
  have hl4 := lit_nil W4 5 (base := w.heap.size + 2) hz4
  have hTA4 := hT4.below (below_alloc W4 (.cells #[] 5))
  have c4 := (Q4.out (W4.alloc (.cells #[] 5)) (Below.heap_alloc _ _ _ (by omega))).1
  go_upto_region 4 with fail
  go_upto_region 5 with (at_builtin; refine wpList_append_sl1 rfl _ _ 47 rfl u8_one (w.heap.size + 2) 5 j0 (.int .u8 0) 1 Try.underlying47 hj hy0 hy1 hy2 rfl _ 0 [] rfl hl4 ba bn bc T.byt rfl hTA4.byt.1 (by unfold maxLen; omega) (by omega) (by simp; omega) ?_; intro v4 V4 hown4 hg4 hat4; have p4 := Q4.out V4 (grown_box hg4 (by omega)); obtain ⟨r4, f4⟩ := p4; rw [Nat.zero_add, List.nil_append] at hown4; obtain ⟨A4, C4, rfl, hC4, _⟩ := own_sl1 (enc := Value.int .u8) (xs := T.byt) hown4)
  have hfr4 := own_fresh (p := W4.heap.size) rfl (by simpa using hat4)
  have hgs4 := hg4.size
  simp only [World.size_alloc] at hgs4
  obtain ⟨W5, hW⟩ : ∃ W, W = V4.setCell ⟨w.heap.size, 3, none⟩ (.slice A4 bn C4) := ⟨_, rfl⟩
  rw [← hW]
  have hBV4 : Below w.heap.size w V4 := grown_below2 hB4 hg4 (by omega)
  have hB5 : Below w.heap.size w W5 := by rw [hW]; exact hBV4.setCell (Nat.le_refl _) _
  have hbV4 : V4.heap[w.heap.size]? = some (.cells #[.slice A1 un C1, .slice A2 dn C2, .slice A3 xn C3, .slice ba bn bc] 49 (0, 0)) := (grown_box hg4 (by omega)).trans hbx4
  have hbx5 : W5.heap[w.heap.size]? = some (.cells #[.slice A1 un C1, .slice A2 dn C2, .slice A3 xn C3, .slice A4 bn C4] 49 (0, 0)) := by rw [hW]; simpa using set_at (i := 3) hbV4 (.slice A4 bn C4)
  have hbz5 : W5.heap[w.heap.size + 1]? = some (.cells nil4 49 (0, 0)) := by
    rw [hW]; exact (Below.heap_setCell _ _ _ _ (by simp)).trans ((grown_box hg4 (by omega)).trans hbz4)
  have hz5 : w.heap.size + 2 ≤ W5.heap.size := by rw [hW]; simp; omega
  have hsz4 : W4.heap.size < W5.heap.size := by rw [hW]; simp; omega
  have hT5 := hT.below hB5
  have hrow4 : W5.ownsRow (w.heap.size + 2) 5 1 (.slice A4 bn C4) bn (T.byt.map (Value.int .u8)) := by rw [hW]; exact row_set hown4 (by omega) _
  have hrow1 : W5.ownsRow (w.heap.size + 2) 3 1 (.slice A1 un C1) un (T.up.map (Value.int .i64)) := by
    rw [hW]; exact row_set (row_keep hrow1 hg4) (by omega) _
  have hrow2 : W5.ownsRow (w.heap.size + 2) 3 1 (.slice A2 dn C2) dn (T.dep.map (Value.int .i64)) := by
    rw [hW]; exact row_set (row_keep hrow2 hg4) (by omega) _
  have hrow3 : W5.ownsRow (w.heap.size + 2) 3 1 (.slice A3 xn C3) xn (T.wrd.map (Value.int .i64)) := by
    rw [hW]; exact row_set (row_keep hrow3 hg4) (by omega) _
  have hup4 : ∀ j, (Value.slice A4 bn C4).ownBlock = some j → j < W5.heap.size := fun j hj => (row_lt hrow4 j hj).2
  clear hW c4 hown4 hg4 hat4 r4 f4 hbV4 hl4 hTA4
  have e1 : W5.cell? ⟨w.heap.size, 0, none⟩ = some (.slice A1 un C1) := by simp [World.cell?, hbx5]
  have e2 : W5.cell? ⟨w.heap.size, 1, none⟩ = some (.slice A2 dn C2) := by simp [World.cell?, hbx5]
  have e3 : W5.cell? ⟨w.heap.size, 2, none⟩ = some (.slice A3 xn C3) := by simp [World.cell?, hbx5]
  have e4 : W5.cell? ⟨w.heap.size, 3, none⟩ = some (.slice A4 bn C4) := by simp [World.cell?, hbx5]
  have z0 : ∀ i, W5.frozen? ⟨w.heap.size + 1, i, none⟩ = false := fun i => by simp [World.frozen?, hbz5]
  have z1 : W5.cell? ⟨w.heap.size + 1, 0, none⟩ = some (.slice none 0 0) := by simp [World.cell?, hbz5]
  have z2 : W5.cell? ⟨w.heap.size + 1, 1, none⟩ = some (.slice none 0 0) := by simp [World.cell?, hbz5]
  have z3 : W5.cell? ⟨w.heap.size + 1, 2, none⟩ = some (.slice none 0 0) := by simp [World.cell?, hbz5]
  have z4 : W5.cell? ⟨w.heap.size + 1, 3, none⟩ = some (.slice none 0 0) := by simp [World.cell?, hbz5]
  go_wp2
  have hz5' := set_at (i := 3) (set_at (i := 2) (set_at (i := 1) (set_at (i := 0) hbz5 (.slice A1 un C1)) (.slice A2 dn C2)) (.slice A3 xn C3)) (.slice A4 bn C4)
  have mv : ∀ {e : TypeId} {n m c : Nat} {a : Option Addr} {xs : List Value}, W5.ownsRow (w.heap.size + 2) e 1 (.slice a m c) n xs → ((((W5.setCell ⟨w.heap.size + 1, 0, none⟩ (.slice A1 un C1)).setCell ⟨w.heap.size + 1, 1, none⟩ (.slice A2 dn C2)).setCell ⟨w.heap.size + 1, 2, none⟩ (.slice A3 xn C3)).setCell ⟨w.heap.size + 1, 3, none⟩ (.slice A4 bn C4)).ownsRow w.heap.size e 1 (.slice a m c) n xs := fun h =>
    row_mono (row_set (row_set (row_set (row_set h (by omega) _) (by omega) _) (by omega) _) (by omega) _) (by omega)
  refine bodyPost_ret (results_trie1 rfl rfl (by simpa using hz5')) rfl ?_
  refine ⟨⟨A1, un, C1, A2, dn, C2, A3, xn, C3, A4, bn, C4⟩, rfl, ⟨mv hrow1, mv hrow2, mv hrow3, mv hrow4, hbd.out, ?_, ?_, ?_, ?_, ?_, ?_⟩, (((hB5.setCell (by simp) _).setCell (by simp) _).setCell (by simp) _).setCell (by simp) _⟩
  · exact sep_of_lt hup1 hfr2
  · exact sep_of_lt hup1 (fun k hk => by have := hfr3 k hk; omega)
  · exact sep_of_lt hup1 (fun k hk => by have := hfr4 k hk; omega)
  · exact sep_of_lt hup2 hfr3
  · exact sep_of_lt hup2 (fun k hk => by have := hfr4 k hk; omega)
  · exact sep_of_lt hup3 hfr4

end Go.Proofs.Ytifcoalhkcflnaa

/- The law on memory of its own (layer 8): walked. -/


namespace Go.Proofs.Ytifcoalhkcflnaa
open Go.RowKit Go.Sort
set_option linter.unusedVariables false
set_option linter.unusedSimpArgs false

/-- A row of numbers that a call may write. -/
def RowI (g m : Nat) (W : World) : Prop := ∃ cur : Array Value, W.heap[g]? = some (.cells cur 3 (0, 0)) ∧ ∀ i, i < m → ∃ z : Int, cur[i]? = some (.int .i64 z)
theorem RowI.cell {g m : Nat} {W : World} (h : RowI g m W) {i : Nat} (hi : i < m) : (∃ z : Int, W.cell? ⟨g, i, none⟩ = some (.int .i64 z)) ∧ W.frozen? ⟨g, i, none⟩ = false := by
  obtain ⟨cur, h1, h2⟩ := h
  obtain ⟨z, hz⟩ := h2 i hi
  exact ⟨⟨z, by simp [World.cell?, h1, hz]⟩, by simp [World.frozen?, h1]⟩
theorem RowI.set {g m : Nat} {W : World} (h : RowI g m W) (i : Nat) (z : Int) : RowI g m (W.setCell ⟨g, i, none⟩ (.int .i64 z)) := by
  obtain ⟨cur, h1, h2⟩ := h
  refine ⟨_, set_at (i := i) h1 _, fun j hj => ?_⟩
  obtain ⟨y, hy⟩ := h2 j hj
  by_cases e : i = j
  · subst e
    exact ⟨z, by rw [Array.getElem?_setIfInBounds_self_of_lt (Array.getElem?_eq_some_iff.1 hy).1]⟩
  · exact ⟨y, by rw [Array.getElem?_setIfInBounds_ne e]; exact hy⟩
theorem RowI.other {g m : Nat} {W : World} (h : RowI g m W) {k : Nat} (hk : g ≠ k) (i : Nat) (u : Value) : RowI g m (W.setCell ⟨k, i, none⟩ u) := by
  obtain ⟨cur, h1, h2⟩ := h
  exact ⟨cur, (Below.heap_setCell _ _ _ _ (by show g ≠ k; exact hk)).trans h1, h2⟩
theorem RowI.below {g m : Nat} {W V : World} (h : RowI g m W) (hb : Below W.heap.size W V) : RowI g m V := by
  obtain ⟨cur, h1, h2⟩ := h
  exact ⟨cur, (hb.block g (Array.getElem?_eq_some_iff.1 h1).1).trans h1, h2⟩
theorem IntRow.row {g : Nat} {l : List Int} {W : World} (h : IntRow g l W) : RowI g l.length W :=
  ⟨_, h, fun i hi => ⟨l[i], by simp [hi]⟩⟩
theorem own_row {W : World} {base : Nat} {v : Value} {l : List Int} (h : OwnI W base v l) : (v = .slice none 0 0 ∧ l.length = 0) ∨ ∃ g c, v = .slice (some ⟨g, 0, none⟩) l.length c ∧ base ≤ g ∧ RowI g l.length W := by
  rcases h.2 with ⟨rfl, h0⟩ | ⟨g, cap, cur, rfl, hg, hh, hn, _, _, hc⟩
  · exact .inl ⟨rfl, h0⟩
  · refine .inr ⟨g, cap, rfl, hg, cur, hh, fun i hi => ⟨l[i], ?_⟩⟩
    have h2 : (l.map (Value.int .i64))[i]? = some (.int .i64 l[i]) := by simp [hi]
    rw [← hc, List.getElem?_take] at h2
    split at h2
    · simpa using h2
    · cases h2

set_option maxRecDepth 100000 in
set_option maxHeartbeats 8000000 in
theorem failOwn_walk (fold : Bool) (a : Option Addr) (la ca : Nat) (node : Int) (wss : List (List Int)) (w : World) (hA : Wds w a la wss) :
    Calls Try.prog 8 #[.agg (setV fold a la ca), .int .i64 node] w fun e w' => e = .returned (.bool true) ∧ Below w.heap.size w w' := by
  obtain ⟨W, hW⟩ : ∃ W, W = w.alloc (.cells (setV fold a la ca) 24) := ⟨_, rfl⟩
  have hB : Below w.heap.size w W := by rw [hW]; exact below_alloc _ _
  have hO : Bx w.heap.size [.cells (setV fold a la ca) 24] W := by rw [hW]; exact (Bx.nil _ w).snoc _ rfl
  have s0 : W.cell? ⟨w.heap.size, 0, none⟩ = some (.bool fold) := hO.cell (i := 0) rfl rfl
  have s1 : W.cell? ⟨w.heap.size, 1, none⟩ = some (.slice a la ca) := hO.cell (i := 0) rfl rfl
  cases hs : smallB fold wss with
  | false =>
    have HC := Lib.hid (small8_no fold a la ca wss W (hA.below hB) hs)
    clear hO hA
    go_enter Try.func8, Try.ntmps8
    go_upto_region 1 with fail
    rw [← hW]
    clear hW
    go_wp2_with fail
    refine HC.out.mono ?_
    rintro e w1 ⟨rfl, hb1⟩
    have hB1 := (hB.trans (hb1.mono hB.size)).alloc (hB.trans (hb1.mono hB.size)).size (.cells nil4 49)
    clear s0 s1
    go_wp2_with fail
    refine (wakes8 _).mono ?_
    rintro e w2 ⟨rfl, hb2⟩
    have hB2 := hB1.trans (hb2.mono hB1.size)
    go_wp2
    go_ret
    exact ⟨rfl, hB2⟩
  | true =>
    have HC := Lib.hid (small8_yes fold a la ca wss W (hA.below hB) hs)
    obtain ⟨hr, hn120, hright⟩ := small_right hs
    clear hO hA
    go_enter Try.func8, Try.ntmps8
    go_upto_region 1 with fail
    rw [← hW]
    clear hW
    go_wp2_with fail
    refine HC.out.mono ?_
    rintro e w1 ⟨t, b, c, rfl, hbc, hN, hT, hb1⟩
    obtain ⟨ua, un, uc, da, dn, dc, xa, xn, xc, ba, bn, bc⟩ := t
    have hB1 := hB.trans (hb1.mono hB.size)
    have hun : un ≤ 140737488351232 := by have := hT.up.1; simp [trieP] at this; omega
    obtain ⟨W2, hW2⟩ : ∃ W, W = w1.alloc (.cells #[.slice ua un uc, .slice da dn dc, .slice xa xn xc, .slice ba bn bc] 49) := ⟨_, rfl⟩
    have hb2 : Below w1.heap.size w1 W2 := by rw [hW2]; exact below_alloc _ _
    have hQ : W2.heap[w1.heap.size]? = some (.cells #[.slice ua un uc, .slice da dn dc, .slice xa xn xc, .slice ba bn bc] 49 (0, 0)) := by rw [hW2]; exact World.alloc_heap_new _ _
    clear s0 s1 hb1 HC
    go_upto_region 4 with fail
    rw [← hW2]
    clear hW2
    have hT2 := hT.below hb2
    have hN2 := hN.below hb2
    have hB2 := hB1.trans (hb2.mono hB1.size)
    have c0 : W2.cell? ⟨w1.heap.size, 0, none⟩ = some (.slice ua un uc) := by simp [World.cell?, hQ]
    have c1 : W2.cell? ⟨w1.heap.size, 1, none⟩ = some (.slice da dn dc) := by simp [World.cell?, hQ]
    have c2 : W2.cell? ⟨w1.heap.size, 2, none⟩ = some (.slice xa xn xc) := by simp [World.cell?, hQ]
    have c3 : W2.cell? ⟨w1.heap.size, 3, none⟩ = some (.slice ba bn bc) := by simp [World.cell?, hQ]
    have hlens : un ≤ 1000000 ∧ dn ≤ 1000000 ∧ xn ≤ 1000000 ∧ bn ≤ 1000000 := by
      have h1 := hT2.up.1
      have h2 := hT2.dep.1
      have h3 := hT2.wrd.1
      have h4 := hT2.byt.1.1
      simp [trieP] at h1 h2 h3 h4
      omega
    have HO := Lib.hid (rown7_any _ (trieP wss) W2 hT2 hlens)
    go_wp2_with fail
    refine HO.out.mono ?_
    rintro e w3 ⟨u, rfl, hU, hb3⟩
    obtain ⟨va, vn, vc, ea, en, ec, ya, yn, yc, za, zn, zc⟩ := u
    obtain ⟨A, hAe⟩ : ∃ A, A = w3.alloc (.cells #[.slice va vn vc, .slice ea en ec, .slice ya yn yc, .slice za zn zc] 49) := ⟨_, rfl⟩
    have hb4 : Below w3.heap.size w3 A := by rw [hAe]; exact below_alloc _ _
    have hP : A.heap[w3.heap.size]? = some (.cells #[.slice va vn vc, .slice ea en ec, .slice ya yn yc, .slice za zn zc] 49 (0, 0)) := by rw [hAe]; exact World.alloc_heap_new _ _
    clear c0 c1 c2 c3 HO
    go_upto_region 5 with fail
    rw [← hAe]
    clear hAe
    have hT4 := (hT2.below hb3).below hb4
    have hU4 := (hU.below hb4).tri
    have hQ4 : A.heap[w1.heap.size]? = _ := (hb4.block _ (Array.getElem?_eq_some_iff.1 ((hb3.block _ (Array.getElem?_eq_some_iff.1 hQ).1).trans hQ)).1).trans ((hb3.block _ (Array.getElem?_eq_some_iff.1 hQ).1).trans hQ)
    have hBA : Below w.heap.size w A := hB2.trans ((hb3.trans (hb4.mono hb3.size)).mono hB2.size)
    clear hb2 hb3 hb4 hT hN hT2 hN2 hU hQ hB1 hB2 hB
    have box : ∀ V : World, Below A.heap.size A V → V.cell? ⟨w1.heap.size, 0, none⟩ = some (.slice ua un uc) ∧ V.cell? ⟨w1.heap.size, 1, none⟩ = some (.slice da dn dc) ∧ V.cell? ⟨w1.heap.size, 2, none⟩ = some (.slice xa xn xc) ∧ V.cell? ⟨w1.heap.size, 3, none⟩ = some (.slice ba bn bc) := fun V hV => by
      have : V.heap[w1.heap.size]? = _ := (hV.block _ (Array.getElem?_eq_some_iff.1 hQ4).1).trans hQ4
      refine ⟨?_, ?_, ?_, ?_⟩ <;> simp [World.cell?, this]
    have box2 : ∀ V : World, Below A.heap.size A V → V.cell? ⟨w3.heap.size, 0, none⟩ = some (.slice va vn vc) ∧ V.cell? ⟨w3.heap.size, 1, none⟩ = some (.slice ea en ec) ∧ V.cell? ⟨w3.heap.size, 2, none⟩ = some (.slice ya yn yc) ∧ V.cell? ⟨w3.heap.size, 3, none⟩ = some (.slice za zn zc) := fun V hV => by
      have : V.heap[w3.heap.size]? = _ := (hV.block _ (Array.getElem?_eq_some_iff.1 hP).1).trans hP
      refine ⟨?_, ?_, ?_, ?_⟩ <;> simp [World.cell?, this]
    have HBX := Lib.hid box
    have HBX2 := Lib.hid box2
    have HT := Lib.hid hT4
    have HU := Lib.hid hU4
    have HR := Lib.hid hr
    have HBA := Lib.hid hBA
    clear box box2 hT4 hU4 hr hQ4 hP hBA
    obtain ⟨c0, c1, c2, c3⟩ := HBX.out A (Below.refl _ _)
    have HL := Lib.hid (links8_yes _ (trieP wss) _ wss A HT.out hun HR.out)
    go_wp2_with fail
    refine HL.out.mono ?_
    rintro e w5 ⟨q, rfl, hq, hql, hb5⟩
    clear c0 c1 c2 c3 HL
    obtain ⟨c0, c1, c2, c3⟩ := HBX.out w5 hb5
    have HC := Lib.hid (fchain8_any _ (trieP wss) node w5 (HT.out.below hb5) hun)
    go_wp2_with fail
    refine HC.out.mono ?_
    rintro e w6 ⟨v, rfl, hv, hb6⟩
    have hB6 : Below A.heap.size A w6 := hb5.trans (hb6.mono hb5.size)
    have hqr := (hq.row).below hb6
    rw [linksP_len] at hqr
    have hq5 : q < w5.heap.size := (Array.getElem?_eq_some_iff.1 (show w5.heap[q]? = _ from hq)).1
    obtain ⟨n, hnn⟩ : ∃ n, (nodesL wss).length = n := ⟨_, rfl⟩
    have HNN := Lib.hid hnn
    rw [hnn] at hqr hn120 ⊢
    have hv2 := own_row hv
    have hml : (chainT8 (trieP wss) node).length ≤ 1000 := by
      unfold chainT8
      rw [HR.out]
      dsimp only
      unfold chainI
      split
      · rename_i h
        rw [List.length_map]
        have := (chN_len (linksP wss) node.toNat node.toNat).1
        rw [hnn] at h
        omega
      · simp
    obtain ⟨m, hm⟩ : ∃ m, (chainT8 (trieP wss) node).length = m := ⟨_, rfl⟩
    rw [hm] at hv2 hml
    have hv3 : ∃ (av : Option Addr) (cv : Nat), v = .slice av m cv ∧ (m = 0 ∨ ∃ g, av = some ⟨g, 0, none⟩ ∧ w5.heap.size ≤ g ∧ RowI g m w6) := by
      rcases hv2 with ⟨e1, e2⟩ | ⟨g, c', e1, e2, e3⟩
      · exact ⟨none, 0, by rw [e1, e2], .inl e2⟩
      · exact ⟨_, c', e1, .inr ⟨g, rfl, e2, e3⟩⟩
    obtain ⟨av, cv, rfl, hav⟩ := hv3
    clear c0 c1 c2 c3 HC hq hv hv2 hm hnn hb5 hb6
    go_wp2
    go_loopw [12] (fun s12 wr => ∃ i : Nat, i ≤ n ∧ s12 = .int .i64 i ∧ RowI q n wr ∧ (m = 0 ∨ ∃ g, av = some ⟨g, 0, none⟩ ∧ w5.heap.size ≤ g ∧ RowI g m wr) ∧ Below A.heap.size A wr) (fun s _ => n - (intOf s).toNat)
    case atStart => exact ⟨0, Nat.zero_le _, rfl, hqr, hav, hB6⟩
    case round =>
      clear hqr hav hB6
      obtain ⟨i, hin, rfl, hqr, hav, hBi⟩ := hrel
      by_cases hil : i < n
      · have hd : decide ((i : Int) < n) = true := by simp; omega
        obtain ⟨⟨y, x0⟩, x1⟩ := hqr.cell hil
        have i1 : (0 : Int) ≤ (i : Int) := by omega
        have i2 : (i : Int) < (n : Int) := by omega
        have r1 := hqr.set i (-9)
        have r2 : m = 0 ∨ ∃ g, av = some ⟨g, 0, none⟩ ∧ w5.heap.size ≤ g ∧ RowI g m (wr.setCell ⟨q, i, none⟩ (.int .i64 (-9))) := by
          rcases hav with h | ⟨g, h1, h2, h3⟩
          · exact .inl h
          · exact .inr ⟨g, h1, h2, h3.other (by omega) _ _⟩
        have r3 : Below A.heap.size A (wr.setCell ⟨q, i, none⟩ (.int .i64 (-9))) := hBi.setCell hql _
        have ql : q < wr.heap.size := by obtain ⟨cur, h, _⟩ := hqr; exact (Array.getElem?_eq_some_iff.1 h).1
        clear hqr hav
        go_wp2
        go_roundw
        case rel => exact ⟨i + 1, by omega, by go_num, r1, r2, r3⟩
        case measure => simp [intOf]; omega
      · obtain rfl : i = n := by omega
        have hd : decide ((i : Int) < i) = false := by simp
        clear hqr
        go_wp2
        go_loopw [13] (fun s13 wr => ∃ j : Nat, j ≤ m ∧ s13 = .int .i64 j ∧ (m = 0 ∨ ∃ g, av = some ⟨g, 0, none⟩ ∧ w5.heap.size ≤ g ∧ RowI g m wr) ∧ Below A.heap.size A wr) (fun s _ => m - (intOf s).toNat)
        case atStart => exact ⟨0, Nat.zero_le _, rfl, hav, hBi⟩
        case round =>
          clear hav hBi
          obtain ⟨j, hjm, rfl, hav, hBj⟩ := hrel
          by_cases hjl : j < m
          · obtain ⟨g, h1, h2, h3⟩ := hav.resolve_left (by omega)
            subst h1
            have hdj : decide ((j : Int) < m) = true := by simp; omega
            obtain ⟨⟨y, x0⟩, x1⟩ := h3.cell hjl
            have j1 : (0 : Int) ≤ (j : Int) := by omega
            have j2 : (j : Int) < (m : Int) := by omega
            have r1 : m = 0 ∨ ∃ g', (some ⟨g, 0, none⟩ : Option Addr) = some ⟨g', 0, none⟩ ∧ w5.heap.size ≤ g' ∧ RowI g' m (wr.setCell ⟨g, j, none⟩ (.int .i64 (-9))) := .inr ⟨g, rfl, h2, h3.set j (-9)⟩
            have r3 : Below A.heap.size A (wr.setCell ⟨g, j, none⟩ (.int .i64 (-9))) := hBj.setCell (by show A.heap.size ≤ g; omega) _
            have gl : g < wr.heap.size := by obtain ⟨cur, h, _⟩ := h3; exact (Array.getElem?_eq_some_iff.1 h).1
            clear h3 hav
            go_wp2
            go_roundw
            case rel => exact ⟨j + 1, by omega, by go_num, r1, r3⟩
            case measure => simp [intOf]; omega
          · obtain rfl : j = m := by omega
            have hdj : decide ((j : Int) < j) = false := by simp
            clear hav
            obtain ⟨c0, c1, c2, c3⟩ := HBX.out wr hBj
            have HL2 := Lib.hid (links8_yes _ (trieP wss) _ wss wr (HT.out.below hBj) hun HR.out)
            have hunn := hlens
            go_wp2_with fail
            refine HL2.out.mono ?_
            rintro e w7 ⟨q2, rfl, hq2, hql2, hb7⟩
            have hB7 := hBj.trans (hb7.mono hBj.size)
            clear c0 c1 c2 c3 HL2 hBj
            obtain ⟨c0, c1, c2, c3⟩ := HBX.out w7 hB7
            obtain ⟨d0, d1, d2, d3⟩ := HBX2.out w7 hB7
            have hSM := rsame7_any _ _ (trieP wss) (trieP wss) w7 (HT.out.below hB7) (HU.out.below hB7) ⟨by show un ≤ _; omega, by show dn ≤ _; omega, by show xn ≤ _; omega, by show bn ≤ _; omega⟩
            rw [show eqT (trieP wss) (trieP wss) = true by simp [eqT]] at hSM
            have HSM := Lib.hid hSM
            clear hSM
            go_wp2_with fail
            refine HSM.out.mono ?_
            rintro e w8 ⟨rfl, hb8⟩
            have hB8 := hB7.trans (hb8.mono hB7.size)
            have hq8 : IntRow q2 (linksP wss) w8 := (hb8.block q2 (Array.getElem?_eq_some_iff.1 (show w7.heap[q2]? = _ from hq2)).1).trans hq2
            clear c0 c1 c2 c3 d0 d1 d2 d3 HSM hq2 hB7 hb8
            obtain ⟨d0, d1, d2, d3⟩ := HBX2.out w8 hB8
            have hvn : vn ≤ 140737488351232 := by have h := HU.out.up.1; simp [trieP] at h; have := HNN.out; omega
            have hS8 := hq8.sl1
            rw [linksP_len] at hS8
            have hRT := fright8_any _ (trieP wss) (some ⟨q2, 0, none⟩) (nodesL wss).length (nodesL wss).length _ w8 (HU.out.below hB8) hvn hS8
            rw [show rightL8 (trieP wss) (linksP wss) = true by unfold rightL8; rw [HR.out]; simp] at hRT
            have HRT := Lib.hid hRT
            clear hRT hS8 hq8
            go_wp2_with fail
            refine HRT.out.mono ?_
            rintro e w9 ⟨rfl, hb9⟩
            have hB9 := hB8.trans (hb9.mono hB8.size)
            have hBf := HBA.out.trans (hB9.mono HBA.out.size)
            have wk := wakes8
            clear d0 d1 d2 d3 HRT
            go_wp2_with fail
            refine (wk _).mono ?_
            rintro e w10 ⟨rfl, hb10⟩
            go_wp2
            go_ret
            exact ⟨rfl, hBf.trans (hb10.mono hBf.size)⟩

end Go.Proofs.Ytifcoalhkcflnaa
