/- Parts of the proof, one behind the other: YH. No condition but what each theorem states. -/
import Derived.Test.YtjfhefffbkpgkaaGreatQ4
import Derived.Test.YtjfhefffbkpgkaaGreatQ13
import Derived.Test.YtjfhefffbkpgkaaGreatQ14

/- The law DenseParts (layer 11): walked. Printed by exp.py. -/



namespace Go.Proofs.YtjfhefffbkpgkaaGreat
open Go.RowKit Go.Sort
set_option linter.unusedVariables false
set_option linter.unusedSimpArgs false

/-- What lies there all the way: a set's table and its box. -/
structure CT (w : World) (L F : List Int) (m k : Nat) (R Q : Nat) (W : World) : Prop where
  row : IntRow R F W
  box : Dv W Q L m (.slice (some ⟨R, 0, none⟩) k k)
  len : F.length = k
  bel : Below w.heap.size w W
theorem CT.below {w W V : World} {L F : List Int} {m k R Q : Nat} (h : CT w L F m k R Q W) (hb : Below W.heap.size W V) : CT w L F m k R Q V :=
  ⟨(hb.block R h.row.lt).trans h.row, h.box.below hb, h.len, h.bel.trans (hb.mono h.bel.size)⟩
theorem CT.sl {w W : World} {L F : List Int} {m k R Q : Nat} (h : CT w L F m k R Q W) : Sl1 (Value.int .i64) W (some ⟨R, 0, none⟩) k F := by
  have := h.row.sl1
  rwa [h.len] at this

set_option maxRecDepth 100000 in
set_option maxHeartbeats 16000000 in
theorem denseParts_walk (fold : Bool) (a : Option Addr) (la ca : Nat) (node : Int) (b : Option Addr) (lb cb : Nat) (text : List Int) (at_ : Int) (wss : List (List Int)) (w : World) (hA : Wds w a la wss) (hX : Bys w b lb text) (hcb : lb ≤ cb) :
    Calls Tryz.prog 5 #[.agg (setV fold a la ca), .int .i64 node, .slice b lb cb, .int .i64 at_] w fun e w' => e = .returned (.bool true) ∧ Below w.heap.size w w' := by
  have HL := Lib.hid hA.len
  have HTL := Lib.hid hX.len
  obtain ⟨W, hW⟩ : ∃ W, W = w.alloc (.cells (setV fold a la ca) 24) := ⟨_, rfl⟩
  have hB : Below w.heap.size w W := by rw [hW]; exact below_alloc _ _
  have hO : Bx w.heap.size [.cells (setV fold a la ca) 24] W := by rw [hW]; exact (Bx.nil _ w).snoc _ rfl
  have s0 : W.cell? ⟨w.heap.size, 0, none⟩ = some (.bool fold) := hO.cell (i := 0) rfl rfl
  have s1 : W.cell? ⟨w.heap.size, 1, none⟩ = some (.slice a la ca) := hO.cell (i := 0) rfl rfl
  have hg := great5_any fold a la ca wss W (hA.below hB)
  obtain ⟨G, hG⟩ : ∃ G, greatP wss = G := ⟨_, rfl⟩
  rw [hG] at hg
  have HG := Lib.hid hg
  have HA := Lib.hid hA
  have HX := Lib.hid hX
  clear hg hA hX
  go_enter Tryz.func5, Tryz.ntmps5
  go_upto_region 1 with fail
  rw [← hW]
  clear hW
  go_wp2_with fail
  refine HG.out.mono ?_
  rintro e w1 ⟨rfl, hb1⟩
  have hB1 := hB.trans (hb1.mono hB.size)
  have hO1 := hO.below hb1
  clear s0 s1 hO hB hb1 HG
  cases G with
  | true =>
    go_wp2_with fail
    refine (wakes11 _).mono ?_
    rintro e w2 ⟨rfl, hb2⟩
    have hB2 := hB1.trans (hb2.mono hB1.size)
    go_wp2
    go_ret
    exact ⟨rfl, hB2⟩
  | false =>
    obtain ⟨g1, g2, g3⟩ := gr8_bd hG fold
    rw [HL.out] at g1
    have s0 : w1.cell? ⟨w.heap.size, 0, none⟩ = some (.bool fold) := hO1.cell (i := 0) rfl rfl
    have s1 : w1.cell? ⟨w.heap.size, 1, none⟩ = some (.slice a la ca) := hO1.cell (i := 0) rfl rfl
    have hR := rright_any fold a la ca wss w1 (HA.out.below hB1) (by omega) (fun x hx => by have := g2 x hx; omega)
    rw [← right_eq] at hR
    have HR := Lib.hid hR
    clear hR
    cases hr : rightP fold wss with
    | false =>
      rw [hr] at HR
      clear hr g1 g2 g3
      go_wp2_with fail
      refine HR.out.mono ?_
      rintro e w2 ⟨rfl, hb2⟩
      have hB2 := hB1.trans (hb2.mono hB1.size)
      clear s0 s1
      go_wp2_with fail
      refine (wakes11 _).mono ?_
      rintro e w3 ⟨rfl, hb3⟩
      have hB3 := hB2.trans (hb3.mono hB2.size)
      go_wp2
      go_ret
      exact ⟨rfl, hB3⟩
    | true =>
      rw [hr] at HR
      have hOK := okT hr (fun x hx c hc => HA.out.bytes x hx c hc)
      have hn4 : (nodesL wss).length ≤ 400 := read_n (readP_iff.2 ⟨right_false hr, rfl, rfl⟩)
      have hm257 : 1 ≤ manyP fold wss ∧ manyP fold wss ≤ 257 := clsN_many _ _ _
      have hML : Hid (∀ V, Below w.heap.size w V → Calls Tryz.prog 10 #[.agg (setV fold a la ca)] V fun e w' => ∃ R, e = .returned (.tuple #[.agg (dvC (clsP fold wss) (manyP fold wss) (.slice (some ⟨R, 0, none⟩) (manyP fold wss * (nodesL wss).length) (manyP fold wss * (nodesL wss).length))).toArray, .int .i64 0]) ∧
          IntRow R (tabP fold wss) w' ∧ V.heap.size ≤ R ∧ Below V.heap.size V w') := fun V hV => make11_yes fold a la ca wss V (HA.out.below hV) (by omega) (fun x hx => by have := g2 x hx; omega) (by omega) hr
      have hFl := tabP_len hOK
      have hSt := states_tab hOK
      have HRO := Lib.hid (fun (j : Int) hj b => runD_out hOK (j := j) hj b)
      have HRT := Lib.hid (fun b {x} hx hb => runD_tab hOK b (x := x) hx hb)
      obtain ⟨n, hn⟩ : ∃ n, (nodesL wss).length = n := ⟨_, rfl⟩
      obtain ⟨m, hm⟩ : ∃ m, manyP fold wss = m := ⟨_, rfl⟩
      obtain ⟨k, hk⟩ : ∃ k, m * n = k := ⟨_, rfl⟩
      have hk2 : k ≤ 257 * 400 := by rw [← hk]; exact Nat.mul_le_mul (by omega) (by omega)
      obtain ⟨L, hL⟩ : ∃ L, clsP fold wss = L := ⟨_, rfl⟩
      obtain ⟨F, hF⟩ : ∃ F, tabP fold wss = F := ⟨_, rfl⟩
      have hLl : L.length = 256 := by rw [← hL]; exact clsP_len _ _
      have hnx : ∀ x, x ∈ nodesL wss → ∃ j : Nat, nodeI wss x = (j : Int) ∧ j < n := fun x hx => by
        obtain ⟨j, _, h2, h3⟩ := node_ex hx
        exact ⟨j, h2, by rw [← hn]; exact h3⟩
      have hxn : ∀ j : Nat, j < n → ∃ x, x ∈ nodesL wss ∧ nodeI wss x = (j : Int) := fun j hj => by
        rw [← hn] at hj
        have h := List.getElem?_eq_getElem hj
        exact ⟨_, List.mem_of_getElem? h, nodeI_at h⟩
      rw [hL, hm, hF] at HRO HRT
      rw [hm, hF] at hSt
      rw [hn] at HRO hSt
      rw [hF, hm, hn, hk] at hFl
      rw [hFl] at hSt
      rw [hL, hm, hF, hn, hk] at hML
      have HNX := Lib.hid hnx
      have HXN := Lib.hid hxn
      have HFL := Lib.hid hFl
      clear hr hG g1 g2 g3 hOK hn hm hk hL hF hnx hxn hFl hn4
      go_wp2_with fail
      refine HR.out.mono ?_
      rintro e w2 ⟨rfl, hb2⟩
      have hB2 := hB1.trans (hb2.mono hB1.size)
      have hO2 := hO1.below hb2
      clear s0 s1 hb2 HR hO1 hB1
      by_cases h300 : lb ≤ 300
      · have d1 : decide ((300 : Int) < (lb : Int)) = false := by simp; omega
        have d1' : decide (300 < lb) = false := by simp; omega
        have s0 : w2.cell? ⟨w.heap.size, 0, none⟩ = some (.bool fold) := hO2.cell (i := 0) rfl rfl
        have s1 : w2.cell? ⟨w.heap.size, 1, none⟩ = some (.slice a la ca) := hO2.cell (i := 0) rfl rfl
        have HM := Lib.hid (hML.out w2 hB2)
        clear hML
        go_upto_region 4 with (first
          | (refine wpList_store_row rfl 28 _ _ rfl _ _ rfl rfl 28 _ (heap_alloc_new _ _) (dv_info hLl _ _) (dv_old hLl _ _) (dvC_one _ _ _ rfl) ?_)
          | (go_at_call 10; refine HM.out.mono ?_; rintro e w3 ⟨R, rfl, hrow, hRl, hb3⟩))
        rw [World.setRow_alloc_new]
        obtain ⟨w4, hw4⟩ : ∃ w4, w4 = w3.alloc (.cells (dvC L m (.slice (some ⟨R, 0, none⟩) k k)).toArray 28) := ⟨_, rfl⟩
        have hC4 : CT w L F m k R w3.heap.size w4 := by
          rw [hw4]
          exact ⟨((below_alloc w3 _).block R hrow.lt).trans hrow, Dv.new w3 _ _ _ hLl, HFL.out, hB2.trans ((hb3.alloc hb3.size _).mono hB2.size)⟩
        rw [← hw4]
        obtain ⟨Q, hQ⟩ : ∃ Q, w3.heap.size = Q := ⟨_, rfl⟩
        rw [hQ] at hC4 ⊢
        clear hw4 hrow hRl hb3 HM s0 s1 hB2 hQ hO2
        have HRn := Lib.hid (fun V (hV : CT w L F m k R Q V) (z : Int) (bs : List Int) (ab : Option Addr) (lb cb : Nat) (hbs : Bys V ab lb bs) (hlb : lb ≤ 1000000) => run11_any L F bs m (some ⟨R, 0, none⟩) k k z ab lb cb V hLl hV.sl (by omega) hbs hlb)
        have HS := Lib.hid (states11_any L m (some ⟨R, 0, none⟩) k k w4 hLl (by omega))
        have hAi := dv_info hLl m (.slice (some ⟨R, 0, none⟩) k k)
        have HBX : Hid (∀ V, CT w L F m k R Q V → V.heap[Q]? = some (.cells (dvC L m (.slice (some ⟨R, 0, none⟩) k k)).toArray 28 (0, 0))) := fun V hV => hV.box.box
        obtain ⟨A, hA⟩ : ∃ A, (dvC L m (.slice (some ⟨R, 0, none⟩) k k)).toArray = A := ⟨_, rfl⟩
        rw [hA] at HRn HS hAi HBX ⊢
        rw [hSt] at HS
        have HAi := Lib.hid hAi
        have HC4 := Lib.hid hC4
        clear hA hAi hSt hC4
        go_upto_region 5 with (first
          | (refine wpList_load_row rfl 28 _ rfl Q rfl 28 A (0, 0) _ (HBX.out w4 HC4.out) Tryz.underlying28 rfl HAi.out ?_)
          | (go_at_call 17; refine HS.out.mono ?_; rintro e w5 ⟨rfl, hb5⟩))
        have HC5 := Lib.hid (HC4.out.below hb5)
        obtain ⟨p, hp, hpl⟩ : ∃ p : Nat, min (max at_ 0) (lb : Int) = p ∧ p ≤ lb := ⟨(min (max at_ 0) (lb : Int)).toNat, by omega, by omega⟩
        have HP := Lib.hid hp
        clear hp hb5 HS
        go_upto_region 6 with fail
        rw [HP.out]
        have HX5 := Lib.hid (HX.out.below HC5.out.bel)
        by_cases hj : node < 0 ∨ (n : Int) ≤ node
        · have hro := HRO.out node hj text
          by_cases hl0 : lb = 0
          · rw [if_pos (by rw [HTL.out]; exact hl0)] at hro
            have K6 := Lib.hid (HRn.out w5 HC5.out node text b lb cb HX5.out (by omega))
            rw [hro] at K6
            have e1 : ((lb : Int) == 0) = true := by simp [hl0]
            have e1' : (lb == 0) = true := by simp [hl0]
            clear hro hl0 HRT HRO HNX HXN
            go_upto_region 7 with (first
              | (refine wpList_load_row rfl 28 _ rfl Q rfl 28 A (0, 0) _ (HBX.out w5 HC5.out) Tryz.underlying28 rfl HAi.out ?_)
              | (go_at_call 14; refine K6.out.mono ?_; rintro e w6 ⟨rfl, hb6⟩; simp only [goDV]))
            have HC6 := Lib.hid (HC5.out.below hb6)
            clear hb6 K6
            by_cases h0 : node < 0
            · have d2 : decide (node < 0) = true := by simpa using h0
              clear h0 hj
              go_wp2_with fail
              refine (wakes11 _).mono ?_
              rintro e w7 ⟨rfl, hb7⟩
              go_wp2
              go_ret
              exact ⟨rfl, (HC6.out.below hb7).bel⟩
            · have d2 : decide (node < 0) = false := by simpa using h0
              have d3 : decide ((n : Int) ≤ node) = true := by rw [decide_eq_true_iff]; omega
              clear h0 hj
              go_wp2_with fail
              refine (wakes11 _).mono ?_
              rintro e w7 ⟨rfl, hb7⟩
              go_wp2
              go_ret
              exact ⟨rfl, (HC6.out.below hb7).bel⟩
          · rw [if_neg (by rw [HTL.out]; exact hl0)] at hro
            have K6 := Lib.hid (HRn.out w5 HC5.out node text b lb cb HX5.out (by omega))
            rw [hro] at K6
            have e1 : ((lb : Int) == 0) = false := by simp; omega
            have e1' : (lb == 0) = false := by simp; omega
            clear hro hl0 HRT HRO HNX HXN
            go_upto_region 7 with (first
              | (refine wpList_load_row rfl 28 _ rfl Q rfl 28 A (0, 0) _ (HBX.out w5 HC5.out) Tryz.underlying28 rfl HAi.out ?_)
              | (go_at_call 14; refine K6.out.mono ?_; rintro e w6 ⟨rfl, hb6⟩; simp only [goDV]))
            have HC6 := Lib.hid (HC5.out.below hb6)
            clear hb6 K6
            by_cases h0 : node < 0
            · have d2 : decide (node < 0) = true := by simpa using h0
              clear h0 hj
              go_wp2_with fail
              refine (wakes11 _).mono ?_
              rintro e w7 ⟨rfl, hb7⟩
              go_wp2
              go_ret
              exact ⟨rfl, (HC6.out.below hb7).bel⟩
            · have d2 : decide (node < 0) = false := by simpa using h0
              have d3 : decide ((n : Int) ≤ node) = true := by rw [decide_eq_true_iff]; omega
              clear h0 hj
              go_wp2_with fail
              refine (wakes11 _).mono ?_
              rintro e w7 ⟨rfl, hb7⟩
              go_wp2
              go_ret
              exact ⟨rfl, (HC6.out.below hb7).bel⟩
        · obtain ⟨j, rfl⟩ : ∃ j : Nat, node = (j : Int) := ⟨node.toNat, by omega⟩
          obtain ⟨x, hx1, hx2⟩ := HXN.out j (by omega)
          have hbt := HX.out.2
          obtain ⟨y1, hy1, _, hr1⟩ := HRT.out (text.take p) hx1 (fun c hc => hbt c (List.mem_of_mem_take hc))
          obtain ⟨y2, hy2, _, hr2⟩ := HRT.out (text.drop p) hy1 (fun c hc => hbt c (List.mem_of_mem_drop hc))
          obtain ⟨h1, hh1, hl1⟩ := HNX.out y1 hy1
          obtain ⟨h2, hh2, hl2⟩ := HNX.out y2 hy2
          rw [hx2, hh1] at hr1
          rw [hh1, hh2] at hr2
          have hr0 : runD L m F (j : Int) text = some (h2 : Int) := by
            have := runD_append L m F (text.take p) (text.drop p) (j : Int)
            rw [List.take_append_drop, hr1] at this
            rw [this]; exact hr2
          have K6 := Lib.hid (HRn.out w5 HC5.out j text b lb cb HX5.out (by omega))
          rw [hr0] at K6
          have HR1 := Lib.hid hr1
          have HR2 := Lib.hid hr2
          have d2 : decide ((j : Int) < 0) = false := by simp
          have d3 : decide ((n : Int) ≤ (j : Int)) = false := by rw [decide_eq_false_iff_not]; omega
          have d3' : decide (n ≤ j) = false := by rw [decide_eq_false_iff_not]; omega
          have i1 : (0 : Int) ≤ (p : Int) := by omega
          have i2 : (p : Int) ≤ (lb : Int) := by omega
          have i3 : (p : Int) ≤ (cb : Int) := by omega
          have i4 : (lb : Int) ≤ (cb : Int) := by omega
          have d4 : decide ((h2 : Int) < (n : Int)) = true := by rw [decide_eq_true_iff]; omega
          have d4' : decide (h2 < n) = true := by rw [decide_eq_true_iff]; omega
          have d5 : decide ((h1 : Int) < (n : Int)) = true := by rw [decide_eq_true_iff]; omega
          have d5' : decide (h1 < n) = true := by rw [decide_eq_true_iff]; omega
          clear hr0 hr1 hr2 hh1 hh2 hy1 hy2 hx1 hx2 hbt hj HRT HRO HNX HXN
          go_upto_region 7 with (first
            | (refine wpList_load_row rfl 28 _ rfl Q rfl 28 A (0, 0) _ (HBX.out w5 HC5.out) Tryz.underlying28 rfl HAi.out ?_)
            | (go_at_call 14; refine K6.out.mono ?_; rintro e w6 ⟨rfl, hb6⟩; simp only [goDV]))
          have HC6 := Lib.hid (HC5.out.below hb6)
          have HX6 := Lib.hid (HX5.out.below hb6)
          clear hb6 K6
          go_upto_region 9 with fail
          have K9 : Hid (∀ V, RowKit.Below w6.heap.size w6 V → Calls Tryz.prog 14 #[.agg A, .int .i64 (j : Int), .slice b p cb] V fun e w' => e = .returned (.tuple #[.int .i64 (h1 : Int), .bool true]) ∧ RowKit.Below V.heap.size V w') := fun V hV => by
            have h := HRn.out V (HC6.out.below hV) j (text.take p) b p cb ((HX6.out.below hV).take hpl) (by omega)
            rw [HR1.out] at h
            exact h
          refine wp_region_noPanic ?_
          refine wp_region_held_drew (S := RowKit.Below w6.heap.size w6) (by kernel_rfl) (bel_drewN w6 1) (fun hHeld => ?_)
          refine' wpAnyH_take (i := 0) (v := _) (by simp only [List.getElem?_toArray, List.getElem?_cons_zero, List.getElem?_cons_succ]; rfl) (by as_aux_lemma => kernel_rfl) (by as_aux_lemma => kernel_rfl) (by as_aux_lemma => kernel_rfl) (fun _ _ _ h => h) (yieldsIf_load_row (by rfl) _ _ rfl Q rfl 28 A (0, 0) _ (fun V hV => HBX.out V (HC6.out.below hV)) Tryz.underlying28 rfl HAi.out) (by assumption) ?_
          try simp only [Act.put, List.setIfInBounds_toArray, List.set_cons_zero, List.set_cons_succ]
          refine wpAnyH_take (i := 1) (v := ?_) (by simp only [List.getElem?_toArray, List.getElem?_cons_zero, List.getElem?_cons_succ]; rfl) (by as_aux_lemma => kernel_rfl) (by as_aux_lemma => kernel_rfl) (by as_aux_lemma => kernel_rfl) (fun _ _ _ h => h) (Or.inl ⟨by rfl, ?_⟩) (by assumption) ?_
          rotate_left
          · intro V hV
            first | (go_simp; done) | (go_simp; with_reducible rfl)
          try simp only [Act.put, List.setIfInBounds_toArray, List.set_cons_zero, List.set_cons_succ]
          refine wpAnyH_take (i := 2) (v := ?_) (by simp only [List.getElem?_toArray, List.getElem?_cons_zero, List.getElem?_cons_succ]; rfl) (by as_aux_lemma => kernel_rfl) (by as_aux_lemma => kernel_rfl) (by as_aux_lemma => kernel_rfl) (fun _ _ _ h => h) (Or.inl ⟨by rfl, ?_⟩) (by assumption) ?_
          rotate_left
          · intro V hV
            first | (go_simp; done) | (go_simp; with_reducible rfl)
          try simp only [Act.put, List.setIfInBounds_toArray, List.set_cons_zero, List.set_cons_succ]
          refine wpAnyH_take (i := 3) (v := ?_) (by simp only [List.getElem?_toArray, List.getElem?_cons_zero, List.getElem?_cons_succ]; rfl) (by as_aux_lemma => kernel_rfl) (by as_aux_lemma => kernel_rfl) (by as_aux_lemma => kernel_rfl) (fun _ _ _ h => h) (Or.inl ⟨by rfl, ?_⟩) (by assumption) ?_
          rotate_left
          · intro V hV
            first | (go_simp; done) | (go_simp; with_reducible rfl)
          try simp only [Act.put, List.setIfInBounds_toArray, List.set_cons_zero, List.set_cons_succ]
          refine wpAnyH_take (i := 4) (v := ?_) (by simp only [List.getElem?_toArray, List.getElem?_cons_zero, List.getElem?_cons_succ]; rfl) (by as_aux_lemma => kernel_rfl) (by as_aux_lemma => kernel_rfl) (by as_aux_lemma => kernel_rfl) (fun _ _ _ h => h) (Or.inl ⟨by rfl, ?_⟩) (by assumption) ?_
          rotate_left
          · intro V hV
            first | (go_simp; done) | (go_simp; with_reducible rfl)
          try simp only [Act.put, List.setIfInBounds_toArray, List.set_cons_zero, List.set_cons_succ]
          refine wpAnyH_one (i := 5) (vi := .tuple #[.int .i64 (h1 : Int), .bool true]) (by simp only [List.getElem?_toArray, List.getElem?_cons_zero, List.getElem?_cons_succ]; rfl) (by as_aux_lemma => kernel_rfl) ?_ ?_ _ hHeld
          · intro V hV K hK
            try simp only [Act.put, List.setIfInBounds_toArray, List.set_cons_zero, List.set_cons_succ] at hK
            go_simp
            go_at_call 14; refine (K9.out V hV).mono ?_; rintro e w2 ⟨rfl, hb2⟩; exact hK _ (hV.trans (hb2.mono hV.size))
          clear hHeld
          intro V1 hHeld
          try simp only [Act.put, List.setIfInBounds_toArray, List.set_cons_zero, List.set_cons_succ]
          refine wpAnyH_take (i := 6) (v := ?_) (by simp only [List.getElem?_toArray, List.getElem?_cons_zero, List.getElem?_cons_succ]; rfl) (by as_aux_lemma => kernel_rfl) (by as_aux_lemma => kernel_rfl) (by as_aux_lemma => kernel_rfl) (fun _ _ _ h => h) (Or.inl ⟨by rfl, ?_⟩) (by assumption) ?_
          rotate_left
          · intro V hV
            first | (go_simp; done) | (go_simp; with_reducible rfl)
          try simp only [Act.put, List.setIfInBounds_toArray, List.set_cons_zero, List.set_cons_succ]
          refine wpAnyH_take (i := 7) (v := ?_) (by simp only [List.getElem?_toArray, List.getElem?_cons_zero, List.getElem?_cons_succ]; rfl) (by as_aux_lemma => kernel_rfl) (by as_aux_lemma => kernel_rfl) (by as_aux_lemma => kernel_rfl) (fun _ _ _ h => h) (Or.inl ⟨by rfl, ?_⟩) (by assumption) ?_
          rotate_left
          · intro V hV
            first | (go_simp; done) | (go_simp; with_reducible rfl)
          try simp only [Act.put, List.setIfInBounds_toArray, List.set_cons_zero, List.set_cons_succ]
          refine wpAnyH_take (i := 8) (v := ?_) (by simp only [List.getElem?_toArray, List.getElem?_cons_zero, List.getElem?_cons_succ]; rfl) (by as_aux_lemma => kernel_rfl) (by as_aux_lemma => kernel_rfl) (by as_aux_lemma => kernel_rfl) (fun _ _ _ h => h) (Or.inl ⟨by rfl, ?_⟩) (by assumption) ?_
          rotate_left
          · intro V hV
            first | (go_simp; done) | (go_simp; with_reducible rfl)
          try simp only [Act.put, List.setIfInBounds_toArray, List.set_cons_zero, List.set_cons_succ]
          refine wpAnyH_take (i := 9) (v := ?_) (by simp only [List.getElem?_toArray, List.getElem?_cons_zero, List.getElem?_cons_succ]; rfl) (by as_aux_lemma => kernel_rfl) (by as_aux_lemma => kernel_rfl) (by as_aux_lemma => kernel_rfl) (fun _ _ _ h => h) (Or.inl ⟨by rfl, ?_⟩) (by assumption) ?_
          rotate_left
          · intro V hV
            first | (go_simp; done) | (go_simp; with_reducible rfl)
          try simp only [Act.put, List.setIfInBounds_toArray, List.set_cons_zero, List.set_cons_succ]
          refine wpAnyH_take (i := 10) (v := ?_) (by simp only [List.getElem?_toArray, List.getElem?_cons_zero, List.getElem?_cons_succ]; rfl) (by as_aux_lemma => kernel_rfl) (by as_aux_lemma => kernel_rfl) (by as_aux_lemma => kernel_rfl) (fun _ _ _ h => h) (Or.inl ⟨by rfl, ?_⟩) (by assumption) ?_
          rotate_left
          · intro V hV
            first | (go_simp; done) | (go_simp; with_reducible rfl)
          try simp only [Act.put, List.setIfInBounds_toArray, List.set_cons_zero, List.set_cons_succ]
          refine wpAnyH_done (by kernel_rfl) ?_ _
          refine NoPanic.normal ?_
          have HC7 := Lib.hid (HC6.out.below hHeld)
          have HX7 := Lib.hid (HX6.out.below hHeld)
          clear hHeld K9 HC6 HX6
          go_upto_region 10 with fail
          have K10 : Hid (∀ V, RowKit.Below V1.heap.size V1 V → Calls Tryz.prog 14 #[.agg A, .int .i64 (h1 : Int), .slice (if cb = p then b else Option.map (fun x => x.add p) b) (lb - p) (cb - p)] V fun e w' => e = .returned (.tuple #[.int .i64 (h2 : Int), .bool true]) ∧ RowKit.Below V.heap.size V w') := fun V hV => by
            have h := HRn.out V (HC7.out.below hV) h1 (text.drop p) _ (lb - p) (cb - p) ((HX7.out.below hV).rest hpl hcb) (by omega)
            rw [HR2.out] at h
            exact h
          refine wp_region_noPanic ?_
          refine wp_region_held_drew (S := RowKit.Below V1.heap.size V1) (by kernel_rfl) (bel_drewN V1 1) (fun hHeld => ?_)
          refine' wpAnyH_take (i := 0) (v := _) (by simp only [List.getElem?_toArray, List.getElem?_cons_zero, List.getElem?_cons_succ]; rfl) (by as_aux_lemma => kernel_rfl) (by as_aux_lemma => kernel_rfl) (by as_aux_lemma => kernel_rfl) (fun _ _ _ h => h) (yieldsIf_load_row (by rfl) _ _ rfl Q rfl 28 A (0, 0) _ (fun V hV => HBX.out V (HC7.out.below hV)) Tryz.underlying28 rfl HAi.out) (by assumption) ?_
          try simp only [Act.put, List.setIfInBounds_toArray, List.set_cons_zero, List.set_cons_succ]
          refine wpAnyH_take (i := 1) (v := ?_) (by simp only [List.getElem?_toArray, List.getElem?_cons_zero, List.getElem?_cons_succ]; rfl) (by as_aux_lemma => kernel_rfl) (by as_aux_lemma => kernel_rfl) (by as_aux_lemma => kernel_rfl) (fun _ _ _ h => h) (Or.inl ⟨by rfl, ?_⟩) (by assumption) ?_
          rotate_left
          · intro V hV
            first | (go_simp; done) | (go_simp; with_reducible rfl)
          try simp only [Act.put, List.setIfInBounds_toArray, List.set_cons_zero, List.set_cons_succ]
          refine wpAnyH_take (i := 2) (v := ?_) (by simp only [List.getElem?_toArray, List.getElem?_cons_zero, List.getElem?_cons_succ]; rfl) (by as_aux_lemma => kernel_rfl) (by as_aux_lemma => kernel_rfl) (by as_aux_lemma => kernel_rfl) (fun _ _ _ h => h) (Or.inl ⟨by rfl, ?_⟩) (by assumption) ?_
          rotate_left
          · intro V hV
            first | (go_simp; done) | (go_simp; with_reducible rfl)
          try simp only [Act.put, List.setIfInBounds_toArray, List.set_cons_zero, List.set_cons_succ]
          refine wpAnyH_take (i := 3) (v := ?_) (by simp only [List.getElem?_toArray, List.getElem?_cons_zero, List.getElem?_cons_succ]; rfl) (by as_aux_lemma => kernel_rfl) (by as_aux_lemma => kernel_rfl) (by as_aux_lemma => kernel_rfl) (fun _ _ _ h => h) (Or.inl ⟨by rfl, ?_⟩) (by assumption) ?_
          rotate_left
          · intro V hV
            first | (go_simp; done) | (go_simp; with_reducible rfl)
          try simp only [Act.put, List.setIfInBounds_toArray, List.set_cons_zero, List.set_cons_succ]
          refine wpAnyH_take (i := 4) (v := ?_) (by simp only [List.getElem?_toArray, List.getElem?_cons_zero, List.getElem?_cons_succ]; rfl) (by as_aux_lemma => kernel_rfl) (by as_aux_lemma => kernel_rfl) (by as_aux_lemma => kernel_rfl) (fun _ _ _ h => h) (Or.inl ⟨by rfl, ?_⟩) (by assumption) ?_
          rotate_left
          · intro V hV
            first | (go_simp; done) | (go_simp; with_reducible rfl)
          try simp only [Act.put, List.setIfInBounds_toArray, List.set_cons_zero, List.set_cons_succ]
          refine wpAnyH_one (i := 5) (vi := .tuple #[.int .i64 (h2 : Int), .bool true]) (by simp only [List.getElem?_toArray, List.getElem?_cons_zero, List.getElem?_cons_succ]; rfl) (by as_aux_lemma => kernel_rfl) ?_ ?_ _ hHeld
          · intro V hV K hK
            try simp only [Act.put, List.setIfInBounds_toArray, List.set_cons_zero, List.set_cons_succ] at hK
            go_simp
            go_at_call 14; refine (K10.out V hV).mono ?_; rintro e w2 ⟨rfl, hb2⟩; exact hK _ (hV.trans (hb2.mono hV.size))
          clear hHeld
          intro V1 hHeld
          try simp only [Act.put, List.setIfInBounds_toArray, List.set_cons_zero, List.set_cons_succ]
          refine wpAnyH_take (i := 6) (v := ?_) (by simp only [List.getElem?_toArray, List.getElem?_cons_zero, List.getElem?_cons_succ]; rfl) (by as_aux_lemma => kernel_rfl) (by as_aux_lemma => kernel_rfl) (by as_aux_lemma => kernel_rfl) (fun _ _ _ h => h) (Or.inl ⟨by rfl, ?_⟩) (by assumption) ?_
          rotate_left
          · intro V hV
            first | (go_simp; done) | (go_simp; with_reducible rfl)
          try simp only [Act.put, List.setIfInBounds_toArray, List.set_cons_zero, List.set_cons_succ]
          refine wpAnyH_take (i := 7) (v := ?_) (by simp only [List.getElem?_toArray, List.getElem?_cons_zero, List.getElem?_cons_succ]; rfl) (by as_aux_lemma => kernel_rfl) (by as_aux_lemma => kernel_rfl) (by as_aux_lemma => kernel_rfl) (fun _ _ _ h => h) (Or.inl ⟨by rfl, ?_⟩) (by assumption) ?_
          rotate_left
          · intro V hV
            first | (go_simp; done) | (go_simp; with_reducible rfl)
          try simp only [Act.put, List.setIfInBounds_toArray, List.set_cons_zero, List.set_cons_succ]
          refine wpAnyH_take (i := 8) (v := ?_) (by simp only [List.getElem?_toArray, List.getElem?_cons_zero, List.getElem?_cons_succ]; rfl) (by as_aux_lemma => kernel_rfl) (by as_aux_lemma => kernel_rfl) (by as_aux_lemma => kernel_rfl) (fun _ _ _ h => h) (Or.inl ⟨by rfl, ?_⟩) (by assumption) ?_
          rotate_left
          · intro V hV
            first | (go_simp; done) | (go_simp; with_reducible rfl)
          try simp only [Act.put, List.setIfInBounds_toArray, List.set_cons_zero, List.set_cons_succ]
          refine wpAnyH_take (i := 9) (v := ?_) (by simp only [List.getElem?_toArray, List.getElem?_cons_zero, List.getElem?_cons_succ]; rfl) (by as_aux_lemma => kernel_rfl) (by as_aux_lemma => kernel_rfl) (by as_aux_lemma => kernel_rfl) (fun _ _ _ h => h) (Or.inl ⟨by rfl, ?_⟩) (by assumption) ?_
          rotate_left
          · intro V hV
            first | (go_simp; done) | (go_simp; with_reducible rfl)
          try simp only [Act.put, List.setIfInBounds_toArray, List.set_cons_zero, List.set_cons_succ]
          refine wpAnyH_take (i := 10) (v := ?_) (by simp only [List.getElem?_toArray, List.getElem?_cons_zero, List.getElem?_cons_succ]; rfl) (by as_aux_lemma => kernel_rfl) (by as_aux_lemma => kernel_rfl) (by as_aux_lemma => kernel_rfl) (fun _ _ _ h => h) (Or.inl ⟨by rfl, ?_⟩) (by assumption) ?_
          rotate_left
          · intro V hV
            first | (go_simp; done) | (go_simp; with_reducible rfl)
          try simp only [Act.put, List.setIfInBounds_toArray, List.set_cons_zero, List.set_cons_succ]
          refine wpAnyH_done (by kernel_rfl) ?_ _
          refine NoPanic.normal ?_
          have HC8 := Lib.hid (HC7.out.below hHeld)
          clear hHeld K10 HC7 HX7
          generalize (if cb = p then b else Option.map (fun x => x.add p) b) = bs
          go_wp2_with fail
          refine (wakes11 _).mono ?_
          rintro e w9 ⟨rfl, hb9⟩
          go_wp2
          go_ret
          exact ⟨rfl, (HC8.out.below hb9).bel⟩
      · have d1 : decide ((300 : Int) < (lb : Int)) = true := by simp; omega
        have d1' : decide (300 < lb) = true := by simp; omega
        go_wp2_with fail
        refine (wakes11 _).mono ?_
        rintro e w3 ⟨rfl, hb3⟩
        have hB3 := hB2.trans (hb3.mono hB2.size)
        go_wp2
        go_ret
        exact ⟨rfl, hB3⟩
end Go.Proofs.YtjfhefffbkpgkaaGreat
