/- Parts of the proof, one behind the other: MJ, MK, MS. No condition but what each theorem states. -/
import Derived.Test.YtbiinfnekhhfkaaGreatZ2
import Derived.Test.YtbiinfnekhhfkaaGreatZ3
import Derived.Test.YtbiinfnekhhfkaaGreatZ13
import Derived.Test.YtbiinfnekhhfkaaGreatZ14
import Derived.Test.YtbiinfnekhhfkaaGreatZ15
import Derived.Test.YtbiinfnekhhfkaaGreatZ16

/- The law MachineTells (layer 13): walked. Printed by exp.py. -/





namespace Go.Proofs.YtbiinfnekhhfkaaGreat
open Go.RowKit Go.Sort
set_option linter.unusedVariables false
set_option linter.unusedSimpArgs false

set_option maxRecDepth 100000 in
set_option maxHeartbeats 16000000 in
theorem machineTells_walk (fold : Bool) (a : Option Addr) (la ca : Nat) (node : Int) (c : Nat) (at_ : Int) (b : Option Addr) (lb cb : Nat) (text : List Int) (wss : List (List Int)) (w : World) (hA : Wds w a la wss) (hc : c < 256) (hat : I64 at_) (hX : Bys w b lb text) (hcb : lb ≤ cb) :
    Calls Tryz.prog 3 #[.agg (setV fold a la ca), .int .i64 node, .int .u8 (c : Int), .int .i64 at_, .slice b lb cb] w fun e w' => e = .returned (.bool true) ∧ Below w.heap.size w w' := by
  have HL := Lib.hid hA.len
  obtain ⟨W, hW⟩ : ∃ W, W = w.alloc (.cells (setV fold a la ca) 24) := ⟨_, rfl⟩
  have hB : Below w.heap.size w W := by rw [hW]; exact below_alloc _ _
  have hO : Bx w.heap.size [.cells (setV fold a la ca) 24] W := by rw [hW]; exact (Bx.nil _ w).snoc _ rfl
  have s0 : W.cell? ⟨w.heap.size, 0, none⟩ = some (.bool fold) := hO.cell (i := 0) rfl rfl
  have s1 : W.cell? ⟨w.heap.size, 1, none⟩ = some (.slice a la ca) := hO.cell (i := 0) rfl rfl
  have KS : Hid (∀ V, RowKit.Below W.heap.size W V → V.cell? ⟨w.heap.size, 0, none⟩ = some (.bool fold) ∧ V.cell? ⟨w.heap.size, 1, none⟩ = some (.slice a la ca)) := fun V hV =>
    have h := hO.below hV
    ⟨h.cell (i := 0) rfl rfl, h.cell (i := 0) rfl rfl⟩
  have hg := great5_any fold a la ca wss W (hA.below hB)
  obtain ⟨G, hG⟩ : ∃ G, greatP wss = G := ⟨_, rfl⟩
  rw [hG] at hg
  have HG := Lib.hid hg
  have HA := Lib.hid (hA.below hB)
  have HX := Lib.hid (hX.below hB)
  have HAT := Lib.hid hat
  have HB := Lib.hid hB
  clear hg hA hX hat hB hO
  go_enter Tryz.func3, Tryz.ntmps3
  go_upto_region 1 with fail
  rw [← hW]
  clear hW
  go_wp2_with fail
  refine HG.out.mono ?_
  rintro e w1 ⟨rfl, hb1⟩
  clear s0 s1 HG
  cases G with
  | true =>
    go_wp2_with fail
    refine (wakes13 _).mono ?_
    rintro e w2 ⟨rfl, hb2⟩
    go_wp2
    go_ret
    exact ⟨rfl, HB.out.trans ((hb1.trans (hb2.mono hb1.size)).mono HB.out.size)⟩
  | false =>
    obtain ⟨g1, g2, g3⟩ := gr8_bd hG fold
    rw [HL.out] at g1
    by_cases hbd : lb ≤ 300
    · have d1 : decide ((300 : Int) < (lb : Int)) = false := by simp; omega
      have d1' : decide (300 < lb) = false := by simp; omega
      have hM : ∀ x ∈ wss, x.length ≤ 1000000 := fun x hx => by have := g2 x hx; omega
      have HM := Lib.hid hM
      have hR := Lib.hid (fun V (hV : RowKit.Below W.heap.size W V) => rright_any fold a la ca wss V (HA.out.below hV) (by omega) hM)
      rw [← right_eq] at hR
      obtain ⟨s0, s1⟩ := KS.out w1 hb1
      cases hr : rightP fold wss with
      | false =>
        rw [hr] at hR
        have HM := Lib.hid (compile13_no fold a la ca wss w1 (HA.out.below hb1) (by omega) hM (by omega) hr)
        clear hr g1 g2 g3 hM hG
        go_upto_region 4 with (go_at_call 17; refine HM.out.mono ?_; rintro e w2 ⟨rfl, hb2⟩)
        have hb12 := hb1.trans (hb2.mono hb1.size)
        clear s0 s1 hb1 hb2 HM
        obtain ⟨s0, s1⟩ := KS.out w2 hb12
        have H3 := Lib.hid (hR.out w2 hb12)
        clear hR
        go_upto_region 6 with (go_at_call 18; refine H3.out.mono ?_; rintro e w3 ⟨rfl, hb3⟩)
        have hb13 := hb12.trans (hb3.mono hb12.size)
        go_wp2_with fail
        refine (wakes13 _).mono ?_
        rintro e w4 ⟨rfl, hb4⟩
        go_wp2
        go_ret
        exact ⟨rfl, HB.out.trans ((hb13.trans (hb4.mono hb13.size)).mono HB.out.size)⟩
      | true =>
        rw [hr] at hR
        have HMC := Lib.hid (compile13_use fold a la ca wss w1 (HA.out.below hb1) (by omega) hM (by omega) hr)
        have hOK := okT hr (fun x hx c hc => HA.out.bytes x hx c hc)
        have hn4 : (nodesL wss).length ≤ 400 := read_n (readP_iff.2 ⟨right_false hr, rfl, rfl⟩)
        obtain ⟨hnd, hfo⟩ := right_nodup hr
        have h0 : ∀ x ∈ wss, x.length ≠ 0 := fun x hx => ((right_spec hr).2.2.1 x hx).1
        have hwl : wss.length ≤ 1000000 := by rw [HL.out]; omega
        have HW32 : Hid (∀ x ∈ wss, x.length ≤ 1000) := fun x hx => by have := ((right_spec hr).2.2.1 x hx).2; omega
        have HI6 := Lib.hid (words13_i64 hwl hnd h0 node)
        have hla80 : la ≤ 80 := g1
        have KMK := Lib.hid (fun V (hV : RowKit.Below W.heap.size W V) => rmake7_yes fold a la ca wss V (HA.out.below hV) hr)
        have KSTP := Lib.hid (fun V (hV : RowKit.Below W.heap.size W V) => rstep13_yes fold a la ca node c wss V (HA.out.below hV) (by omega) hM hc hr)
        have KHT := Lib.hid (fun V (hV : RowKit.Below W.heap.size W V) => rhits13_yes fold a la ca node at_ wss V (HA.out.below hV) hr)
        have KAT := Lib.hid (fun V (hV : RowKit.Below W.heap.size W V) => at11_any fold a la ca wss b lb cb text V (HA.out.below hV) (by omega) HW32.out (HX.out.below hV) (by omega) (by omega))
        have KLO := Lib.hid (fun V (hV : RowKit.Below W.heap.size W V) => longest_any fold a la ca wss V (HA.out.below hV) (by omega))
        have KWD := Lib.hid (fun (t : TV) (pa : Option Addr) V (hT : Tri V t (trieP wss)) (hp : Sl1 (Value.int .i64) V pa 1 [node]) => rWords9_any t (trieP wss) [node] pa 1 1 V hT (bd4_trie hT hn4) hp (by decide))
        have KMO := Lib.hid (fun (t : TV) V (hT : Tri V t (trieP wss)) => rmost9_any t (trieP wss) V hT (bd4_trie hT hn4))
        obtain ⟨hw1, hw2⟩ := wordsT9_trie hr node
        rw [hw1, hw2] at KWD
        rw [mostT_trie hr] at KMO
        obtain ⟨E, hE⟩ : ∃ E : Int, (if 0 ≤ node ∧ node < ((nodesL wss).length : Int) then 0 else 2) = E := ⟨_, rfl⟩
        rw [hE] at KWD
        obtain ⟨nz, hnz⟩ : ∃ z, (goD (clsP fold wss) (manyP fold wss : Int) (tabP fold wss) node c).getD 0 = z := ⟨_, rfl⟩
        obtain ⟨no, hno⟩ : ∃ z, (goD (clsP fold wss) (manyP fold wss : Int) (tabP fold wss) node c).isSome = z := ⟨_, rfl⟩
        have HGV : Hid (goDV (goD (clsP fold wss) (manyP fold wss : Int) (tabP fold wss) node c) = .tuple #[.int .i64 nz, .bool no]) := by rw [Hid, goDV_eq, hnz, hno]
        rw [HGV.out] at KSTP
        have HXL : Hid ((words13 wss node).length ≤ 1000000) := words13_le wss node (by omega)
        obtain ⟨xs, hxs⟩ : ∃ xs, words13 wss node = xs := ⟨_, rfl⟩
        obtain ⟨z, hz⟩ : ∃ z, nodeI wss (lsf (nodesL wss) (foldL fold text)) = z := ⟨_, rfl⟩
        obtain ⟨lo, hlo⟩ : ∃ lo, longL wss = lo := ⟨_, rfl⟩
        obtain ⟨mo, hmo⟩ : ∃ mo : Int, ((mostN wss (nodesL wss).length : Nat) : Int) = mo := ⟨_, rfl⟩
        obtain ⟨nn, hnn⟩ : ∃ nn, (nodesL wss).length = nn := ⟨_, rfl⟩
        have HNN := Lib.hid hnn
        obtain ⟨n, hn⟩ : ∃ n, xs.length = n := ⟨_, rfl⟩
        have HN := Lib.hid hn
        obtain ⟨D, hD⟩ : ∃ D, xs.map (fun x => (at_, x)) = D := ⟨_, rfl⟩
        have hDl : D.length = n := by rw [← hD, List.length_map, hn]
        have HDI : Hid (∀ x ∈ D, I64 x.1 ∧ I64 x.2) := fun x hx => by
          rw [← hD] at hx
          obtain ⟨y, hy, rfl⟩ := List.mem_map.1 hx
          exact ⟨HAT.out, HI6.out y (by rw [hxs]; exact hy)⟩
        rw [hxs] at KWD HXL KHT
        rw [hn] at HXL
        rw [hD] at KHT
        rw [hz] at KAT
        rw [hlo] at KLO
        rw [hmo] at KMO
        have KUS : Hid (∀ (B : Nat) V, MUse w1 B fold wss V → Calls Tryz.prog 20 #[.pointer (some ⟨B, 0, none⟩), .int .i64 node, .int .u8 (c : Int)] V fun e w' => e = .returned (.tuple #[.int .i64 nz, .bool no]) ∧ Below V.heap.size V w') := fun B V hV => by
          have h := hV.step node c hc
          rw [HGV.out] at h
          exact h
        have KUW : Hid (∀ (B : Nat) V, MUse w1 B fold wss V → Calls Tryz.prog 24 #[.pointer (some ⟨B, 0, none⟩), .int .i64 node] V fun e w' => ∃ (a : Option Addr) (c : Nat), e = .returned (.slice a n c) ∧ Sl1 (Value.int .i64) w' a n xs ∧ Below V.heap.size V w') := fun B V hV => by
          have h := hV.words node
          rw [hxs, hn] at h
          exact h.mono fun e w' ⟨a, c, h1, h2, _, h3⟩ => ⟨a, c, h1, h2, h3⟩
        have KUH : Hid (∀ (B : Nat) V, MUse w1 B fold wss V → Calls Tryz.prog 26 #[.pointer (some ⟨B, 0, none⟩), .int .i64 node, .int .i64 at_] V fun e w' => ∃ (a : Option Addr) (c : Nat), e = .returned (.slice a n c) ∧ Hts w' a n D ∧ Below V.heap.size V w') := fun B V hV => by
          have h := hV.hits node at_ HAT.out HI6.out
          rw [hxs, hn, hD] at h
          exact h.mono fun e w' ⟨a, c, h1, h2, _, h3⟩ => ⟨a, c, h1, h2, h3⟩
        have KUN : Hid (∀ (B : Nat) V, MUse w1 B fold wss V → (Calls Tryz.prog 30 #[.pointer (some ⟨B, 0, none⟩)] V fun e w' => e = .returned (.int .i64 (nn : Int)) ∧ V = w') ∧ (Calls Tryz.prog 31 #[.pointer (some ⟨B, 0, none⟩)] V fun e w' => e = .returned (.int .i64 lo) ∧ V = w') ∧
            (Calls Tryz.prog 33 #[.pointer (some ⟨B, 0, none⟩)] V fun e w' => e = .returned (.int .i64 mo) ∧ V = w')) := fun B V hV => by
          have h1 := hV.states
          have h2 := hV.longest
          have h3 := hV.most
          rw [hnn] at h1
          rw [hlo] at h2
          rw [hmo] at h3
          exact ⟨h1, h2, h3⟩
        have KUA : Hid (∀ (B : Nat) V, MUse w1 B fold wss V → Calls Tryz.prog 35 #[.pointer (some ⟨B, 0, none⟩), .slice b lb cb] V fun e w' => e = .returned (.int .i64 z) ∧ Below V.heap.size V w') := fun B V hV => by
          have h := hV.after text b lb cb (HX.out.below (hb1.trans (hV.bel.mono hb1.size))) (by omega)
          rw [hz] at h
          exact h
        have HWL : Hid (wss.length = la) := HL.out
        have HB1 := Lib.hid hb1
        clear hr g1 g2 g3 hM hG hOK hn4 hnd hfo h0 hwl hw1 hw2 hE hnz hno HGV hxs hz hlo hmo hnn hn hD HI6 HAT
        go_upto_region 4 with (go_at_call 17; refine HMC.out.mono ?_; rintro e w2 ⟨B, rfl, hU⟩)
        have hb12 := HB1.out.trans (hU.bel.mono HB1.out.size)
        clear s0 s1 hb1 HMC
        obtain ⟨s0, s1⟩ := KS.out w2 hb12
        have H3 := Lib.hid (hR.out w2 hb12)
        clear hR
        go_upto_region 6 with (go_at_call 18; refine H3.out.mono ?_; rintro e w3 ⟨rfl, hb3⟩)
        have hb13 := hb12.trans (hb3.mono hb12.size)
        have hU3 := hU.below hb3
        clear s0 s1 hU H3 hb3 hb12
        obtain ⟨s0, s1⟩ := KS.out w3 hb13
        have H8 := Lib.hid (KMK.out w3 hb13)
        clear KMK
        go_upto_region 8 with fail
        go_upto_region 9 with (go_at_call 19; refine H8.out.mono ?_; rintro e w4 ⟨t, rfl, hT, hb4⟩; obtain ⟨ua, un, uc, da, dn, dc, xa, xn, xc, ba, bn, bc⟩ := t; simp only [TV.cells])
        obtain ⟨W5, hW5⟩ : ∃ X, X = w4.alloc (.cells #[.slice ua un uc, .slice da dn dc, .slice xa xn xc, .slice ba bn bc] 34) := ⟨_, rfl⟩
        have hb45 : RowKit.Below w4.heap.size w4 W5 := by rw [hW5]; exact below_alloc _ _
        have hO5 : W5.heap[w4.heap.size]? = some (.cells #[.slice ua un uc, .slice da dn dc, .slice xa xn xc, .slice ba bn bc] 34 (0, 0)) := by rw [hW5]; exact World.alloc_heap_new _ _
        rw [← hW5]
        clear hW5
        obtain rfl : un = nn := by
          have h1 := hT.up.1
          have h2 := up_len13 wss
          have h3 := HNN.out
          dsimp only at h1
          omega
        have hT5 := hT.below hb45
        have hb15 : RowKit.Below W.heap.size W W5 := hb13.trans ((hb4.trans (hb45.mono hb4.size)).mono hb13.size)
        have hU5 := (hU3.below hb4).below hb45
        obtain ⟨Q, hQ⟩ : ∃ Q, w4.heap.size = Q := ⟨_, rfl⟩
        rw [hQ] at hO5 ⊢
        clear hQ hT hb4 hb45 hb13 hU3 s0 s1 H8
        have H9 := Lib.hid (KUS.out B W5 hU5)
        go_upto_region 10 with (go_at_call 20; refine H9.out.mono ?_; rintro e w6 ⟨rfl, hb6⟩)
        have hb16 := hb15.trans (hb6.mono hb15.size)
        have H10 := Lib.hid (KSTP.out w6 hb16)
        obtain ⟨s0, s1⟩ := KS.out w6 hb16
        clear H9 KSTP KUS
        go_upto_region 11 with (go_at_call 21; refine H10.out.mono ?_; rintro e w7 ⟨rfl, hb7⟩)
        have hb57 := hb6.trans (hb7.mono hb6.size)
        have hb17 := hb16.trans (hb7.mono hb16.size)
        have hO7 := (hb57.block _ (Array.getElem?_eq_some_iff.1 hO5).1).trans hO5
        have HT7 := Lib.hid (hT5.below hb57)
        have hU7 := (hU5.below hb6).below hb7
        have e0 : w7.cell? ⟨Q, 0, none⟩ = some (.slice ua un uc) := by simp [World.cell?, hO7]
        have e1 : w7.cell? ⟨Q, 1, none⟩ = some (.slice da dn dc) := by simp [World.cell?, hO7]
        have e2 : w7.cell? ⟨Q, 2, none⟩ = some (.slice xa xn xc) := by simp [World.cell?, hO7]
        have e3 : w7.cell? ⟨Q, 3, none⟩ = some (.slice ba bn bc) := by simp [World.cell?, hO7]
        clear s0 s1 H10 hT5 hU5 hb6 hb7 hb16 hb15 hO5 hb57
        go_upto_region 12 with (go_at_call 22; refine (KWD.out _ _ _ (HT7.out.below (below_alloc _ _)) (Sl1.lay (Value.int .i64) w7 [node] _ _ rfl)).mono ?_; rintro e w8 ⟨v, rfl, hown, hb8⟩; obtain ⟨a1, c1, rfl, hlc, hs1⟩ := own_sl1 hown)
        rw [HN.out] at hs1 ⊢
        have hb78 : RowKit.Below w7.heap.size w7 w8 := (below_alloc w7 _).trans (hb8.mono (by simp))
        have hb18 := hb17.trans (hb78.mono hb17.size)
        have hU8 := hU7.below hb78
        have hO8 := (hb78.block _ (Array.getElem?_eq_some_iff.1 hO7).1).trans hO7
        have hT8 := HT7.out.below hb78
        have HU8 : Hid (∀ V, RowKit.Below w8.heap.size w8 V → MUse w1 B fold wss V ∧ RowKit.Below W.heap.size W V ∧ Sl1 (Value.int .i64) V a1 n xs) := fun V hV => ⟨hU8.below hV, hb18.trans (hV.mono hb18.size), hs1.below hV⟩
        have KC : Hid (∀ V, RowKit.Below w8.heap.size w8 V → V.cell? ⟨w.heap.size, 0, none⟩ = some (.bool fold) ∧ V.cell? ⟨w.heap.size, 1, none⟩ = some (.slice a la ca)) := fun V hV => KS.out V (hb18.trans (hV.mono hb18.size))
        have HB18 : Hid (∀ V, RowKit.Below w8.heap.size w8 V → RowKit.Below w.heap.size w V) := fun V hV => HB.out.trans ((hb18.trans (hV.mono hb18.size)).mono HB.out.size)
        have HTO : Hid (∀ V, RowKit.Below w8.heap.size w8 V → Tri V ⟨ua, un, uc, da, dn, dc, xa, xn, xc, ba, bn, bc⟩ (trieP wss) ∧ V.heap[Q]? = some (.cells #[.slice ua un uc, .slice da dn dc, .slice xa xn xc, .slice ba bn bc] 34 (0, 0))) := fun V hV => ⟨hT8.below hV, (hV.block _ (Array.getElem?_eq_some_iff.1 hO8).1).trans hO8⟩
        clear hown hs1 hb78 hb8 hb18 hU8 hU7 hb17 e0 e1 e2 e3 HT7 hO7 hO8 hT8 KWD
        have KH12 : Hid (∀ V, RowKit.Below w8.heap.size w8 V → Calls Tryz.prog 27 #[.agg (setV fold a la ca), .int .i64 node, .int .i64 at_] V fun e w' => ∃ (a : Option Addr) (c : Nat), e = .returned (.slice a n c) ∧ Hts w' a n D ∧ RowKit.Below V.heap.size V w') := fun V hV => by
          refine (KHT.out V (HU8.out V hV).2.1).mono ?_
          rintro e w' ⟨v, rfl, h1, h2⟩
          obtain ⟨a1, c1, rfl, hc, hs⟩ := h1.hts HDI.out
          rw [hDl] at hs ⊢
          exact ⟨a1, c1, rfl, hs, h2⟩
        refine wp_region_noPanic ?_
        refine wp_region_held_drew (S := RowKit.Below w8.heap.size w8) (by kernel_rfl) (bel_drewN w8 1) (fun hS => ?_)
        obtain ⟨w9, hw9⟩ : ∃ X, X = w8.drew := ⟨_, rfl⟩
        rw [← hw9] at hS ⊢
        clear hw9
        change wpAnyH _ _ _ _ _ 28 _ _ _
        iterate 11 (refine tkF 27 (v := ?_) ?_ ?_; rotate_left; (· intro V hV; first | (go_simp; done) | (go_simp; with_reducible rfl)); try simp only [Act.put, pA, pB, pC])
        refine tkW 12 (v := ?_) ?_ ?_
        rotate_left
        · intro V hV
          first | (go_simp; done) | (go_simp; with_reducible rfl)
        try simp only [Act.put, pA, pB, pC]
        refine rdy 11 (fun K hK => ?_)
        go_simp
        go_at_call 24; refine (KUW.out B w9 (HU8.out w9 hS).1).mono ?_; rintro e w10 ⟨a10, c10, rfl, hs10, hb10⟩
        refine hK.out _ _ (hS.trans (hb10.mono hS.size)) (fun hS10 => ?_)
        clear hK K
        try simp only [Act.put, pA, pB, pC]
        refine rdy 13 (fun K hK => ?_)
        go_simp
        go_at_call 23; refine (rints_any a10 a1 n c10 n c1 xs xs w10 hs10 (HU8.out w10 hS10).2.2 (by have := HXL.out; omega)).mono ?_; rintro e w11 ⟨rfl, hb11⟩; simp only [decide_true]
        refine hK.out _ _ (hS10.trans (hb11.mono hS10.size)) (fun hS11 => ?_)
        clear hK K
        try simp only [Act.put, pA, pB, pC]
        iterate 6 (refine tkF 27 (v := ?_) ?_ ?_; rotate_left; (· intro V hV; first | (go_simp; done) | (go_simp; with_reducible rfl)); try simp only [Act.put, pA, pB, pC])
        refine tkW 21 (v := ?_) ?_ ?_
        rotate_left
        · intro V hV
          obtain ⟨q0, q1⟩ := KC.out V hV
          first | (go_simp; done) | (go_simp; with_reducible rfl)
        try simp only [Act.put, pA, pB, pC]
        iterate 2 (refine tkF 28 (v := ?_) ?_ ?_; rotate_left; (· intro V hV; first | (go_simp; done) | (go_simp; with_reducible rfl)); try simp only [Act.put, pA, pB, pC])
        refine rdy 20 (fun K hK => ?_)
        go_simp
        go_at_call 26; refine (KUH.out B w11 (HU8.out w11 hS11).1).mono ?_; rintro e w12 ⟨a12, c12, rfl, hs12, hb12⟩
        refine hK.out _ _ (hS11.trans (hb12.mono hS11.size)) (fun hS12 => ?_)
        clear hK K
        try simp only [Act.put, pA, pB, pC]
        refine rdy 24 (fun K hK => ?_)
        go_simp
        go_at_call 27; refine (KH12.out w12 hS12).mono ?_; rintro e w13 ⟨a13, c13, rfl, hs13, hb13⟩
        refine hK.out _ _ (hS12.trans (hb13.mono hS12.size)) (fun hS13 => ?_)
        clear hK K
        try simp only [Act.put, pA, pB, pC]
        refine rdy 25 (fun K hK => ?_)
        go_simp
        go_at_call 25; refine (rsame13_any a12 a13 n c12 n c13 D D w13 (hs12.below hb13) hs13 (by have := HXL.out; omega)).mono ?_; rintro e w14 ⟨rfl, hb14⟩; simp only [decide_true]
        refine hK.out _ _ (hS13.trans (hb14.mono hS13.size)) (fun hS14 => ?_)
        clear hK K
        try simp only [Act.put, pA, pB, pC]
        iterate 2 (refine tkF 27 (v := ?_) ?_ ?_; rotate_left; (· intro V hV; first | (go_simp; done) | (go_simp; with_reducible rfl)); try simp only [Act.put, pA, pB, pC])
        refine wpAnyH_done (by kernel_rfl) ?_ _
        refine NoPanic.normal ?_
        go_upto_region 14 with fail
        have KSE : Hid (∀ V, RowKit.Below w8.heap.size w8 V → Calls Tryz.prog 29 #[.pointer (some ⟨B, 0, none⟩)] V fun e w' => ∃ (a : Option Addr) (c : Nat), e = .returned (.agg (setV fold a la c)) ∧ Wds w' a la wss ∧ RowKit.Below V.heap.size V w') := fun V hV => by
          have h := (HU8.out V hV).1.set
          rw [HWL.out] at h
          exact h.mono fun e w' ⟨a, c, h1, _, h2, _, h3⟩ => ⟨a, c, h1, h2, h3⟩
        have KC2 : Hid (∀ V, RowKit.Below w8.heap.size w8 V → V.cell? ⟨Q, 0, none⟩ = some (.slice ua un uc) ∧ V.cell? ⟨Q, 1, none⟩ = some (.slice da dn dc) ∧ V.cell? ⟨Q, 2, none⟩ = some (.slice xa xn xc) ∧ V.cell? ⟨Q, 3, none⟩ = some (.slice ba bn bc) ∧ Q < V.heap.size) := fun V hV => by
          have h := (HTO.out V hV).2
          exact ⟨by simp [World.cell?, h], by simp [World.cell?, h], by simp [World.cell?, h], by simp [World.cell?, h], (Array.getElem?_eq_some_iff.1 h).1⟩
        refine wp_region_noPanic ?_
        refine wp_region_held_drew (S := RowKit.Below w8.heap.size w8) (by kernel_rfl) (hS14.trans ((bel_drewN w14 1).mono hS14.size)) (fun hT => ?_)
        obtain ⟨w15, hw15⟩ : ∃ X, X = w14.drew := ⟨_, rfl⟩
        rw [← hw15] at hT ⊢
        clear hw15 hS hS10 hS11 hS12 hS13 hS14 hs10 hs12 hs13 hb10 hb11 hb12 hb13 hb14
        change wpAnyH _ _ _ _ _ 39 _ _ _
        refine tkW 0 (v := ?_) ?_ ?_
        rotate_left
        · intro V hV
          first | (go_simp; done) | (go_simp; with_reducible rfl)
        try simp only [Act.put, pA, pB, pC]
        refine tkW 2 (v := ?_) ?_ ?_
        rotate_left
        · intro V hV
          obtain ⟨q0, q1⟩ := KC.out V hV
          first | (go_simp; done) | (go_simp; with_reducible rfl)
        try simp only [Act.put, pA, pB, pC]
        refine rdy 1 (fun K hK => ?_)
        go_simp
        go_at_call 29; refine (KSE.out w15 hT).mono ?_; rintro e w16 ⟨a16, c16, rfl, hs16, hb16⟩
        refine hK.out _ _ (hT.trans (hb16.mono hT.size)) (fun hT16 => ?_)
        clear hK K
        try simp only [Act.put, pA, pB, pC]
        refine rdy 3 (fun K hK => ?_)
        go_simp
        go_at_call 28; refine (rsames_any fold fold a16 a la c16 la ca wss wss w16 hs16 (HA.out.below (HU8.out w16 hT16).2.1) (by omega)).mono ?_; rintro e w17 ⟨rfl, hb17⟩; simp only [sameS, beq_self_eq_true, decide_true, Bool.and_self]
        refine hK.out _ _ (hT16.trans (hb17.mono hT16.size)) (fun hT17 => ?_)
        clear hK K
        try simp only [Act.put, pA, pB, pC]
        iterate 2 (refine tkF 38 (v := ?_) ?_ ?_; rotate_left; (· intro V hV; first | (go_simp; done) | (go_simp; with_reducible rfl)); try simp only [Act.put, pA, pB, pC])
        iterate 3 (refine tkF 39 (v := ?_) ?_ ?_; rotate_left; (· intro V hV; obtain ⟨q0, q1, q2, q3, q4⟩ := KC2.out V hV; first | (go_simp; done) | (go_simp; with_reducible rfl)); try simp only [Act.put, pA, pB, pC])
        refine rdy 6 (fun K hK => ?_)
        go_simp
        go_at_call 30; refine ((KUN.out B w17 (HU8.out w17 hT17).1).1).mono ?_; rintro e w18 ⟨rfl, rfl⟩
        refine hK.out _ _ (hT17) (fun hT18 => ?_)
        clear hK K
        try simp only [Act.put, pA, pB, pC]
        iterate 4 (refine tkF 38 (v := ?_) ?_ ?_; rotate_left; (· intro V hV; first | (go_simp; done) | (go_simp; with_reducible rfl)); try simp only [Act.put, pA, pB, pC])
        refine tkW 15 (v := ?_) ?_ ?_
        rotate_left
        · intro V hV
          obtain ⟨q0, q1⟩ := KC.out V hV
          first | (go_simp; done) | (go_simp; with_reducible rfl)
        try simp only [Act.put, pA, pB, pC]
        refine rdy 14 (fun K hK => ?_)
        go_simp
        go_at_call 31; refine ((KUN.out B w17 (HU8.out w17 hT17).1).2.1).mono ?_; rintro e w19 ⟨rfl, rfl⟩
        refine hK.out _ _ (hT17) (fun hT19 => ?_)
        clear hK K
        try simp only [Act.put, pA, pB, pC]
        refine rdy 16 (fun K hK => ?_)
        go_simp
        go_at_call 32; refine (KLO.out w17 (HU8.out w17 hT17).2.1).mono ?_; rintro e w20 ⟨rfl, hb20⟩
        refine hK.out _ _ (hT17.trans (hb20.mono hT17.size)) (fun hT20 => ?_)
        clear hK K
        try simp only [Act.put, pA, pB, pC]
        iterate 4 (refine tkF 38 (v := ?_) ?_ ?_; rotate_left; (· intro V hV; first | (go_simp; done) | (go_simp; with_reducible rfl)); try simp only [Act.put, pA, pB, pC])
        refine tkW 22 (v := ?_) ?_ ?_
        rotate_left
        · intro V hV
          obtain ⟨q0, q1, q2, q3, q4⟩ := KC2.out V hV
          first | (go_simp; done) | (go_simp; with_reducible rfl)
        try simp only [Act.put, pA, pB, pC]
        refine rdy 21 (fun K hK => ?_)
        go_simp
        go_at_call 33; refine ((KUN.out B w20 (HU8.out w20 hT20).1).2.2).mono ?_; rintro e w21 ⟨rfl, rfl⟩
        refine hK.out _ _ (hT20) (fun hT21 => ?_)
        clear hK K
        try simp only [Act.put, pA, pB, pC]
        refine rdy 23 (fun K hK => ?_)
        go_simp
        go_at_call 34; refine (KMO.out _ w20 (HTO.out w20 hT20).1).mono ?_; rintro e w22 ⟨rfl, hb22⟩
        refine hK.out _ _ (hT20.trans (hb22.mono hT20.size)) (fun hT22 => ?_)
        clear hK K
        try simp only [Act.put, pA, pB, pC]
        iterate 5 (refine tkF 38 (v := ?_) ?_ ?_; rotate_left; (· intro V hV; first | (go_simp; done) | (go_simp; with_reducible rfl)); try simp only [Act.put, pA, pB, pC])
        refine tkW 30 (v := ?_) ?_ ?_
        rotate_left
        · intro V hV
          obtain ⟨q0, q1⟩ := KC.out V hV
          first | (go_simp; done) | (go_simp; with_reducible rfl)
        try simp only [Act.put, pA, pB, pC]
        refine tkW 31 (v := ?_) ?_ ?_
        rotate_left
        · intro V hV
          first | (go_simp; done) | (go_simp; with_reducible rfl)
        try simp only [Act.put, pA, pB, pC]
        refine rdy 29 (fun K hK => ?_)
        go_simp
        go_at_call 35; refine (KUA.out B w22 (HU8.out w22 hT22).1).mono ?_; rintro e w23 ⟨rfl, hb23⟩
        refine hK.out _ _ (hT22.trans (hb23.mono hT22.size)) (fun hT23 => ?_)
        clear hK K
        try simp only [Act.put, pA, pB, pC]
        refine rdy 32 (fun K hK => ?_)
        go_simp
        go_at_call 36; refine (KAT.out w23 (HU8.out w23 hT23).2.1).mono ?_; rintro e w24 ⟨rfl, hb24⟩
        refine hK.out _ _ (hT23.trans (hb24.mono hT23.size)) (fun hT24 => ?_)
        clear hK K
        try simp only [Act.put, pA, pB, pC]
        iterate 3 (refine tkF 38 (v := ?_) ?_ ?_; rotate_left; (· intro V hV; first | (go_simp; done) | (go_simp; with_reducible rfl)); try simp only [Act.put, pA, pB, pC])
        refine rdy 36 (fun K hK => ?_)
        go_simp
        go_at_call 16; refine (wakes13 w24).mono ?_; rintro e w25 ⟨rfl, hb25⟩
        refine hK.out _ _ (hT24.trans (hb25.mono hT24.size)) (fun hT25 => ?_)
        clear hK K
        try simp only [Act.put, pA, pB, pC]
        iterate 2 (refine tkF 38 (v := ?_) ?_ ?_; rotate_left; (· intro V hV; first | (go_simp; done) | (go_simp; with_reducible rfl)); try simp only [Act.put, pA, pB, pC])
        refine wpAnyH_done (by kernel_rfl) ?_ _
        refine NoPanic.normal ?_
        go_wp2
        go_ret
        exact ⟨rfl, HB18.out w25 hT25⟩
    · have d1 : decide ((300 : Int) < (lb : Int)) = true := by simp; omega
      have d1' : decide (300 < lb) = true := by simp; omega
      go_wp2_with fail
      refine (wakes13 _).mono ?_
      rintro e w3 ⟨rfl, hb3⟩
      go_wp2
      go_ret
      exact ⟨rfl, HB.out.trans ((hb1.trans (hb3.mono hb1.size)).mono HB.out.size)⟩
end Go.Proofs.YtbiinfnekhhfkaaGreat

/- Machines (layer 13): the document's Own of a set; blocks of plain cells that may be written over. -/




namespace Go.Proofs.YtbiinfnekhhfkaaGreat
open Go.RowKit Go.Sort
set_option linter.unusedVariables false
set_option linter.unusedSimpArgs false

set_option maxRecDepth 100000 in
set_option maxHeartbeats 4000000 in
theorem rown5_any (fold : Bool) (a : Option Addr) (la ca : Nat) (wss : List (List Int)) (w : World) (hA : Wds w a la wss) (hla : la ≤ 1000000) (hM : ∀ x ∈ wss, x.length ≤ 1000000) :
    Calls Tryz.prog 38 #[.agg (setV fold a la ca)] w fun e w' => ∃ v, e = .returned (.agg #[.bool fold, v]) ∧ OwnW w' w.heap.size v wss ∧ Below w.heap.size w w' := by
  obtain ⟨iU, hj, hy0, hy1, hy2⟩ := info_parts u8_info
  obtain ⟨i0, hi, hi0, hi1, hi2⟩ := info_parts words_info
  obtain ⟨W, hW⟩ : ∃ W, W = (w.alloc (.cells (setV fold a la ca) 24)).alloc (.cells (setV false none 0 0) 24) := ⟨_, rfl⟩
  have hB : Below w.heap.size w W := by rw [hW]; exact ((Below.refl _ _).alloc (Nat.le_refl _) _).alloc (by simp) _
  have hO : Bx w.heap.size [.cells (setV fold a la ca) 24, .cells (setV false none 0 0) 24] W := by rw [hW]; exact ((Bx.nil _ w).snoc _ rfl).snoc _ (by simp)
  have hsz : W.heap.size = w.heap.size + 1 + 1 := by rw [hW]; simp
  have HOX : Hid (∀ V, RowKit.Below W.heap.size W V → V.cell? ⟨w.heap.size, 0, none⟩ = some (.bool fold) ∧ V.cell? ⟨w.heap.size, 1, none⟩ = some (.slice a la ca) ∧ V.heap[w.heap.size + 1]? = some (.cells (setV false none 0 0) 24 (0, 0))) := fun V hV =>
    have h := hO.below hV
    ⟨h.cell (i := 0) rfl rfl, h.cell (i := 0) rfl rfl, h 1 _ rfl⟩
  have HL := Lib.hid hA.len
  have HA := Lib.hid (hA.below hB)
  have HB := Lib.hid hB
  clear hO hA hB hsz
  go_enter Tryz.func38, Tryz.ntmps38
  go_upto_region 1 with fail
  rw [← hW]
  clear hW
  go_wp2
  go_loopw [3, 4] (fun v i wr => ∃ (k : Nat), k ≤ la ∧ i = .int .i64 k ∧ RowKit.Below W.heap.size W wr ∧ OwnW wr W.heap.size v (wss.take k)) (fun _ i _ => la - (intOf i).toNat)
  case atStart => exact ⟨0, Nat.zero_le _, rfl, Below.refl _ _, by simpa using OwnW.nil _ _⟩
  case round =>
    obtain ⟨k, hk, rfl, hBe, hown⟩ := hrel
    obtain ⟨s0, s1, hz⟩ := HOX.out wr hBe
    by_cases hlt : k < la
    · obtain ⟨bb, off, a', l, c, x, rfl, hbl, hcell, hx, hX, hlc⟩ := (HA.out.below hBe).at_ hlt
      have hxl : l ≤ 1000000 := by have := mem_bd hM hx; rw [hX.len] at this; exact this
      obtain ⟨av, cv, rfl, hcv, hW⟩ := hown.wds
      have hml : (wss.take k).length ≤ 1000000 := by have := List.length_take_le k wss; omega
      have HX := Lib.hid hx
      have i1 : (0 : Int) ≤ (k : Int) := by omega
      have i2 : (k : Int) < (la : Int) := by omega
      have hd0 : decide ((k : Int) < (la : Int)) = true := by simp; omega
      obtain ⟨es, e1, e2, e3⟩ := hown
      obtain ⟨m, hm⟩ : ∃ m, (wss.take k).length = m := ⟨_, rfl⟩
      rw [hm] at e1 e2 hml ⊢
      have hq0 : w.heap.size < wr.heap.size := by have := (Array.getElem?_eq_some_iff.1 hz).1; omega
      have HMM := Lib.hid hm
      have hX1 := hX.below (below_alloc wr (.cells #[] 5))
      have hown0 : OwnB (wr.alloc (.cells #[] 5)) wr.heap.size (.slice (some ⟨wr.heap.size, 0, none⟩) 0 0) 0 [] := World.ownsRow_lit wr #[] 0 (Nat.le_refl _) (Nat.zero_le _) rfl
      have HHX := Lib.hid hX
      clear hx hm hW hX hz
      go_wp2_with (first
        | (at_builtin; refine wpList_append_sl1 rfl _ _ 25 rfl u8_one wr.heap.size 5 iU (.int .u8 0) 1 Tryz.underlying25 hj hy0 hy1 hy2 rfl _ 0 [] rfl hown0 a' l c x rfl hX1.1 (by unfold maxLen; omega) (by omega) (by simp) ?_; intro v' w5 hown' hgrow hat
           have ho3 : OwnB w5 wr.heap.size v' l x := (by simpa [OwnB] using hown')
           have hB3 : RowKit.Below wr.heap.size wr w5 := ((Below.refl _ _).alloc (Nat.le_refl _) _).grown hgrow (by simp) (fun k e => by cases e; exact Nat.le_refl _)
           obtain ⟨a3, c3, rfl, hc3, _⟩ := own_bys ho3 HHX.out.2
           have e13 := own_below_ e1 hB3)
        | (at_builtin; refine wpList_append_own _ rfl _ _ 22 rfl W.heap.size 25 i0 (.slice none 0 0) 1 24 Tryz.underlying22 hi hi0 hi1 hi2 rfl (by decide) (.slice av m cv) m es rfl (e13.alloc _) ⟨w5.heap.size, 0, none⟩ 1 1 [.slice a3 l c3] rfl rfl (cell_one_new _ _ _) (by simp [Value.oneCell']) (by unfold maxLen; omega) (by omega) (by have := hBe.size; have := hB3.size; simp; omega) ?_; intro v'' w6 hown'' hgrow2 hnil))
      have hB5 : RowKit.Below W.heap.size W w6 := ((hBe.trans (hB3.mono hBe.size)).alloc (by have := hBe.size; have := hB3.size; omega) _).grown hgrow2 (by simp; have := hBe.size; have := hB3.size; omega) (fun j hj => (e13.lt j hj).1)
      go_roundw
      case rel =>
        refine ⟨k + 1, by omega, by go_num, hB5, ?_⟩
        rw [take_step HX.out]
        exact OwnW.step (wss := wss.take k) (xs := x) (e := .slice a3 l c3) (es := es) (v := .slice av m cv) (by rw [HMM.out]; exact e13.alloc _) (by rw [HMM.out]; exact e2)
          (fun i e xs he hx => ⟨own_below_ (own_below_ (e3 i e xs he hx).1 hB3) ((Below.refl _ _).alloc (Nat.le_refl _) _), (e3 i e xs he hx).2⟩) (by rw [HHX.out.len]; exact (OwnB_mono (ho3.alloc _) hBe.size)) HHX.out.2 (by rw [HMM.out]; exact hown'') hgrow2
      case measure => simp [intOf]; omega
    · obtain rfl : k = la := by omega
      have HF : Hid (wss.take k = wss) := List.take_of_length_le (by have := HL.out; omega)
      have hd0 : decide ((k : Int) < (k : Int)) = false := by simp
      rw [HF.out] at hown
      have z0 : wr.cell? ⟨w.heap.size + 1, 0, none⟩ = some (.bool false) := by simp [World.cell?, hz]
      have z1 : wr.cell? ⟨w.heap.size + 1, 1, none⟩ = some (.slice none 0 0) := by simp [World.cell?, hz]
      have y0 : wr.frozen? ⟨w.heap.size + 1, 0, none⟩ = false := by simp [World.frozen?, hz]
      have y1 : wr.frozen? ⟨w.heap.size + 1, 1, none⟩ = false := by simp [World.frozen?, hz]
      obtain ⟨av, cv, rfl, hcv, hW⟩ := hown.wds
      clear hW
      go_wp2
      have hz3 := set_at (i := 1) (set_at (i := 0) hz (.bool fold)) (.slice av wss.length cv)
      refine bodyPost_ret (results_set1 rfl rfl (by simpa using hz3)) rfl ?_
      have ho := ((OwnW.lower hown HB.out.size).turned (grown_set2 wr (w.heap.size + 1) 0 (.bool fold)) hz (of_decide_eq_true (by kernel_rfl)) (of_decide_eq_true (by kernel_rfl))).turned (grown_set2 _ (w.heap.size + 1) 1 (.slice av wss.length cv)) (set_at (i := 0) hz (.bool fold)) (of_decide_eq_true (by kernel_rfl)) (of_decide_eq_true (by kernel_rfl))
      exact ⟨_, rfl, ho, ((HB.out.trans (hBe.mono HB.out.size)).setCell (Nat.le_succ _) _).setCell (Nat.le_succ _) _⟩

/-- Types of plain cells. -/
def Plain3 (t : TypeId) : Prop := t = 5 ∨ t = 3 ∨ t = 61
/-- Of W's blocks some of plain cells, from base up to lim, may have been written over; bytes stay bytes. -/
structure Turn (base lim : Nat) (W V : World) : Prop where
  os : V.os = W.os
  tape : V.tape = W.tape
  output : V.output = W.output
  size : W.heap.size ≤ V.heap.size
  blk : ∀ k, k < W.heap.size → V.heap[k]? = W.heap[k]? ∨ (base ≤ k ∧ k < lim ∧ ∃ (t : TypeId) (cur cur' : Array Value), Plain3 t ∧ W.heap[k]? = some (.cells cur t (0, 0)) ∧ V.heap[k]? = some (.cells cur' t (0, 0)) ∧ cur'.size = cur.size ∧
    (t = 5 → ∀ (j : Nat) (x : Int), cur[j]? = some (.int .u8 x) → 0 ≤ x → x ≤ 255 → ∃ y, cur'[j]? = some (.int .u8 y) ∧ 0 ≤ y ∧ y ≤ 255))
section
variable {base lim : Nat} {W V V' : World}
theorem Turn.refl (base lim : Nat) (W : World) : Turn base lim W W := ⟨rfl, rfl, rfl, Nat.le_refl _, fun _ _ => .inl rfl⟩
theorem Turn.grow (h : Turn base lim W V) (hb : Below V.heap.size V V') : Turn base lim W V' := by
  refine ⟨hb.os.trans h.os, hb.tape.trans h.tape, hb.output.trans h.output, Nat.le_trans h.size hb.size, fun k hk => ?_⟩
  have e := hb.block k (Nat.lt_of_lt_of_le hk h.size)
  rw [e]
  exact h.blk k hk
theorem Turn.below (h : Turn base lim W V) : Below base W V ∨ W.heap.size < base := by
  by_cases hs : W.heap.size < base
  · exact .inr hs
  · refine .inl ⟨h.os, h.tape, h.output, h.size, fun k hk => ?_⟩
    rcases h.blk k (by omega) with e | ⟨h1, _⟩
    · exact e
    · omega
theorem Turn.below' (h : Turn base lim W V) (hs : base ≤ W.heap.size) : Below base W V := h.below.resolve_right (by omega)
theorem Turn.kept {q : Nat} (h : Turn base lim W V) (hq : lim ≤ q) : CKept q W V := ⟨h.size, fun k h1 h2 _ => by
  rcases h.blk k h2 with e | ⟨_, h3, _⟩
  · exact e
  · omega⟩
/-- Blocks of another kind stay. -/
theorem Turn.same (h : Turn base lim W V) {k : Nat} {cs : Array Value} {t : TypeId} {fz : Nat × Nat} (hc : W.heap[k]? = some (.cells cs t fz)) (ht : ¬ Plain3 t) : V.heap[k]? = some (.cells cs t fz) := by
  rcases h.blk k (Array.getElem?_eq_some_iff.1 hc).1 with e | ⟨_, _, t', cur, cur', hp, e, _⟩
  · exact e.trans hc
  · rw [hc] at e
    cases e
    exact absurd hp ht
/-- .. of plain cells keep their size. -/
theorem Turn.plain (h : Turn base lim W V) {k : Nat} {cs : Array Value} {t : TypeId} (hc : W.heap[k]? = some (.cells cs t (0, 0))) : ∃ cs', V.heap[k]? = some (.cells cs' t (0, 0)) ∧ cs'.size = cs.size ∧
    (t = 5 → ∀ (j : Nat) (x : Int), cs[j]? = some (.int .u8 x) → 0 ≤ x → x ≤ 255 → ∃ y, cs'[j]? = some (.int .u8 y) ∧ 0 ≤ y ∧ y ≤ 255) := by
  rcases h.blk k (Array.getElem?_eq_some_iff.1 hc).1 with e | ⟨_, _, t', cur, cur', hp, e, e2, e3, e4⟩
  · exact ⟨cs, e.trans hc, rfl, fun _ j x hx h1 h2 => ⟨x, hx, h1, h2⟩⟩
  · rw [hc] at e
    cases e
    exact ⟨cur', e2, e3, e4⟩
theorem Turn.set (h : Turn base lim W V) {k : Nat} {cs : Array Value} {t : TypeId} (hc : W.heap[k]? = some (.cells cs t (0, 0))) (hp : Plain3 t) (h1 : base ≤ k) (h2 : k < lim) (j : Nat) (v : Value) (hv : t = 5 → ∃ y, v = .int .u8 y ∧ 0 ≤ y ∧ y ≤ 255) : Turn base lim W (V.setCell ⟨k, j, none⟩ v) := by
  have hg := grown_set2 V k j v
  refine ⟨hg.os.trans h.os, hg.tape.trans h.tape, hg.output.trans h.output, Nat.le_trans h.size hg.size, fun i hi => ?_⟩
  by_cases hik : i = k
  · subst hik
    obtain ⟨cs', e1, e2, e3⟩ := h.plain hc
    refine .inr ⟨h1, h2, t, cs, _, hp, hc, set_at (i := j) e1 v, by simp [e2], fun ht j' x hx hx0 hx1 => ?_⟩
    obtain ⟨y, hy, hy0, hy1⟩ := e3 ht j' x hx hx0 hx1
    rw [Array.getElem?_setIfInBounds]
    split
    · obtain ⟨y', rfl, h0, h9⟩ := hv ht
      rename_i hjj
      have := (Array.getElem?_eq_some_iff.1 hy).1
      rw [if_pos (by omega)]
      exact ⟨y', rfl, h0, h9⟩
    · exact ⟨y, hy, hy0, hy1⟩
  · rw [Below.heap_setCell V ⟨k, j, none⟩ v i (fun e => hik e)]
    exact h.blk i hi
end
/-- A row of texts of a call's own, while plain cells are written over: its cells, and its texts' bytes. -/
theorem OwnW.bytes {b0 : Nat} {W W6 : World} (hb : Below W.heap.size W W6) {wss : List (List Int)} {a : Option Addr} {n c : Nat} (ho : OwnW W b0 (.slice a n c) wss) {i : Nat} (hi : i < n) :
    ∃ (g : Nat) (a' : Option Addr) (l c' : Nat) (x : List Int), a = some ⟨g, 0, none⟩ ∧ wss[i]? = some x ∧ x.length = l ∧ l ≤ c' ∧ (∀ (base lim : Nat) (V : World), Turn base lim W6 V → V.cell? ⟨g, i, none⟩ = some (.slice a' l c')) ∧
      ∀ j, j < l → ∃ (q : Nat) (cs : Array Value), a' = some ⟨q, 0, none⟩ ∧ b0 ≤ q ∧ q < W.heap.size ∧ W6.heap[q]? = some (.cells cs 5 (0, 0)) ∧ ∀ (base lim : Nat) (V : World), Turn base lim W6 V → ∃ y : Nat, y < 256 ∧ V.cell? ⟨q, j, none⟩ = some (.int .u8 (y : Int)) ∧ V.frozen? ⟨q, j, none⟩ = false := by
  obtain ⟨es, h1, h2, h3⟩ := ho
  rcases h1.2 with ⟨e, _⟩ | ⟨g, cap, cur, e, hg0, hgb, hn, _, hcs, hcur⟩
  · cases e; omega
  · cases e
    have hl := h1.1
    obtain ⟨e, he⟩ : ∃ e, es[i]? = some e := ⟨_, List.getElem?_eq_getElem (by omega)⟩
    obtain ⟨x, hx⟩ : ∃ x, wss[i]? = some x := ⟨_, List.getElem?_eq_getElem (by omega)⟩
    obtain ⟨hob, hbt⟩ := h3 i e x he hx
    obtain ⟨a', c', rfl, hlc, hby⟩ := own_bys hob hbt
    have hgl := (Array.getElem?_eq_some_iff.1 hgb).1
    have hg6 := (hb.block g hgl).trans hgb
    have hce : cur[i]? = some (Value.slice a' x.length c') := by
      rw [← hcur, List.getElem?_take] at he
      split at he
      · simpa using he
      · cases he
    refine ⟨g, a', x.length, c', x, rfl, hx, rfl, hlc, fun base lim V hT => ?_, fun j hj => ?_⟩
    · have hVg := hT.same hg6 (by unfold Plain3; exact of_decide_eq_true (by kernel_rfl))
      simp [World.cell?, hVg, hce]
    · rcases hob.2 with ⟨e', h0⟩ | ⟨q, cp, cs, e', hq0, hqb, hn', _, hcs', hcur'⟩
      · omega
      · cases e'
        have hql := (Array.getElem?_eq_some_iff.1 hqb).1
        have hq6 := (hb.block q hql).trans hqb
        obtain ⟨z, hz⟩ : ∃ z, x[j]? = some z := ⟨_, List.getElem?_eq_getElem hj⟩
        have hcj : cs[j]? = some (Value.int .u8 z) := by
          have h8 : (x.map (Value.int .u8))[j]? = some (.int .u8 z) := by simp [hz]
          rw [← hcur', List.getElem?_take] at h8
          split at h8
          · simpa using h8
          · cases h8
        obtain ⟨z0, z1⟩ := hbt z (List.mem_of_getElem? hz)
        refine ⟨q, cs, rfl, hq0, hql, hq6, fun base lim V hT => ?_⟩
        obtain ⟨cs', f1, f2, f3⟩ := hT.plain hq6
        obtain ⟨y, hy, hy0, hy1⟩ := f3 rfl j z hcj z0 z1
        obtain ⟨y, rfl⟩ : ∃ n : Nat, y = (n : Int) := ⟨y.toNat, by omega⟩
        exact ⟨y, by omega, by simp [World.cell?, f1, hy], by simp [World.frozen?, f1]⟩
/-- .. a row of plain cells of a call's own. -/
theorem row_cells {b0 size n : Nat} {W W6 : World} {t : TypeId} (hb : Below W.heap.size W W6) {a : Option Addr} {m c : Nat} {xs : List Value} (ho : W.ownsRow b0 t size (.slice a m c) n xs) {i : Nat} (hi : i < n * size) :
    m = n ∧ ∃ (g : Nat) (cs : Array Value), a = some ⟨g, 0, none⟩ ∧ b0 ≤ g ∧ g < W.heap.size ∧ W6.heap[g]? = some (.cells cs t (0, 0)) ∧ ∀ (base lim : Nat) (V : World), Turn base lim W6 V → ∃ v, V.cell? ⟨g, i, none⟩ = some v ∧ V.frozen? ⟨g, i, none⟩ = false := by
  rcases ho.2 with ⟨e, h0⟩ | ⟨g, cap, cur, e, hg0, hgb, hn, _, hcs, hcur⟩
  · subst h0; simp at hi
  · cases e
    have hgl := (Array.getElem?_eq_some_iff.1 hgb).1
    have hg6 := (hb.block g hgl).trans hgb
    refine ⟨rfl, g, cur, rfl, hg0, hgl, hg6, fun base lim V hT => ?_⟩
    obtain ⟨cs', f1, f2, _⟩ := hT.plain hg6
    have hi2 : i < cs'.size := by
      rw [f2, hcs]
      exact Nat.lt_of_lt_of_le hi (Nat.mul_le_mul_right _ hn)
    exact ⟨cs'[i], by simp [World.cell?, f1, hi2], by simp [World.frozen?, f1]⟩
end Go.Proofs.YtbiinfnekhhfkaaGreat

/- The law MachineStays (layer 13): walked. Printed by gen_ms.py and exp.py. -/



namespace Go.Proofs.YtbiinfnekhhfkaaGreat
open Go.RowKit Go.Sort
set_option linter.unusedVariables false
set_option linter.unusedSimpArgs false

set_option maxRecDepth 100000 in
set_option maxHeartbeats 16000000 in
theorem machineStays_walk (fold : Bool) (a : Option Addr) (la ca : Nat) (node : Int) (b : Option Addr) (lb cb : Nat) (text : List Int) (wss : List (List Int)) (w : World) (hA : Wds w a la wss) (hX : Bys w b lb text) (hcb : lb ≤ cb) :
    Calls Tryz.prog 6 #[.agg (setV fold a la ca), .int .i64 node, .slice b lb cb] w fun e w' => e = .returned (.bool true) ∧ Below w.heap.size w w' := by
  have HL := Lib.hid hA.len
  obtain ⟨W, hW⟩ : ∃ W, W = w.alloc (.cells (setV fold a la ca) 24) := ⟨_, rfl⟩
  have hB : Below w.heap.size w W := by rw [hW]; exact below_alloc _ _
  have hO : Bx w.heap.size [.cells (setV fold a la ca) 24] W := by rw [hW]; exact (Bx.nil _ w).snoc _ rfl
  have s0 : W.cell? ⟨w.heap.size, 0, none⟩ = some (.bool fold) := hO.cell (i := 0) rfl rfl
  have s1 : W.cell? ⟨w.heap.size, 1, none⟩ = some (.slice a la ca) := hO.cell (i := 0) rfl rfl
  have hg := great5_any fold a la ca wss W (hA.below hB)
  obtain ⟨G, hG⟩ : ∃ G, greatP wss = G := ⟨_, rfl⟩
  rw [hG] at hg
  have HG := Lib.hid hg
  have HA := Lib.hid hA
  have HX := Lib.hid hX
  clear hX
  clear hg hA
  go_enter Tryz.func6, Tryz.ntmps6
  go_upto_region 1 with fail
  rw [← hW]
  clear hW
  go_wp2_with fail
  refine HG.out.mono ?_
  rintro e w1 ⟨rfl, hb1⟩
  have hB1 := hB.trans (hb1.mono hB.size)
  have hO1 := hO.below hb1
  clear s0 s1 hO hB hb1 HG
  cases G with
  | true =>
    go_wp2_with fail
    refine (wakes13 _).mono ?_
    rintro e w2 ⟨rfl, hb2⟩
    have hB2 := hB1.trans (hb2.mono hB1.size)
    go_wp2
    go_ret
    exact ⟨rfl, hB2⟩
  | false =>
    obtain ⟨g1, g2, g3⟩ := gr8_bd hG fold
    rw [HL.out] at g1
    have s0 : w1.cell? ⟨w.heap.size, 0, none⟩ = some (.bool fold) := hO1.cell (i := 0) rfl rfl
    have s1 : w1.cell? ⟨w.heap.size, 1, none⟩ = some (.slice a la ca) := hO1.cell (i := 0) rfl rfl
    have hR := rright_any fold a la ca wss w1 (HA.out.below hB1) (by omega) (fun x hx => by have := g2 x hx; omega)
    rw [← right_eq] at hR
    have HR := Lib.hid hR
    clear hR
    cases hr : rightP fold wss with
    | false =>
      rw [hr] at HR
      clear hr g1 g2 g3
      go_wp2_with fail
      refine HR.out.mono ?_
      rintro e w2 ⟨rfl, hb2⟩
      have hB2 := hB1.trans (hb2.mono hB1.size)
      clear s0 s1
      go_wp2_with fail
      refine (wakes13 _).mono ?_
      rintro e w3 ⟨rfl, hb3⟩
      have hB3 := hB2.trans (hb3.mono hB2.size)
      go_wp2
      go_ret
      exact ⟨rfl, hB3⟩
    | true =>
      rw [hr] at HR
      have HRT : Hid (rightP fold wss = true) := hr
      have HLE : Hid (∀ v ∈ wss, v.length ≤ 1000000) := fun v hv => by have := g2 v hv; omega
      have HMC := Lib.hid (fun V (hV : Below w.heap.size w V) => compile13_use fold a la ca wss V (HA.out.below hV) (by omega) HLE.out (by omega) hr)
      have HBG : Hid ((begL fold wss).length ≤ 1000000) := by rw [Hid]; omega
      have hla80 : la ≤ 80 := g1
      clear hr hG g1 g2 g3
      go_wp2_with fail
      refine HR.out.mono ?_
      rintro e w2 ⟨rfl, hb2⟩
      have hB2 := hB1.trans (hb2.mono hB1.size)
      have hO2 := hO1.below hb2
      clear s0 s1 hb2 HR hO1 hB1
      by_cases hbd : lb ≤ 300
      · have d1 : decide ((300 : Int) < (lb : Int)) = false := by simp; omega
        have d1' : decide (300 < lb) = false := by simp; omega
        have s0 : w2.cell? ⟨w.heap.size, 0, none⟩ = some (.bool fold) := hO2.cell (i := 0) rfl rfl
        have s1 : w2.cell? ⟨w.heap.size, 1, none⟩ = some (.slice a la ca) := hO2.cell (i := 0) rfl rfl
        have HB2 := Lib.hid hB2
        have KS : Hid (∀ V, RowKit.Below w2.heap.size w2 V → V.cell? ⟨w.heap.size, 0, none⟩ = some (.bool fold) ∧ V.cell? ⟨w.heap.size, 1, none⟩ = some (.slice a la ca)) := fun V hV => by
          have h := hO2.below hV
          exact ⟨h.cell (i := 0) rfl rfl, h.cell (i := 0) rfl rfl⟩
        have HOW := Lib.hid (rown5_any fold a la ca wss w2 (HA.out.below hB2) (by omega) HLE.out)
        clear HMC hB2 hO2
        go_upto_region 4 with (go_at_call 38; refine HOW.out.mono ?_; rintro e w3 ⟨v, rfl, hown, hb3⟩; obtain ⟨a3, c3, rfl, hc3, hw3⟩ := hown.wds)
        rw [HL.out] at hown hc3 hw3 ⊢
        obtain ⟨W4, hW4⟩ : ∃ X, X = w3.alloc (.cells #[.bool fold, .slice a3 la c3] 24) := ⟨_, rfl⟩
        have hb34 : RowKit.Below w3.heap.size w3 W4 := by rw [hW4]; exact below_alloc _ _
        have hM4 : W4.heap[w3.heap.size]? = some (.cells #[.bool fold, .slice a3 la c3] 24 (0, 0)) := by rw [hW4]; exact World.alloc_heap_new _ _
        rw [← hW4]
        clear hW4
        have hown4 := hown.below hb34
        have hB24 : RowKit.Below w2.heap.size w2 W4 := hb3.trans (hb34.mono hb3.size)
        have H4 := Lib.hid (compile13_far fold a3 la c3 wss W4 (hw3.below hb34) (by omega) HLE.out HBG.out HRT.out)
        obtain ⟨Q, hQ⟩ : ∃ Q, w3.heap.size = Q := ⟨_, rfl⟩
        rw [hQ] at hM4 ⊢
        have m0 : W4.cell? ⟨Q, 0, none⟩ = some (.bool fold) := by simp [World.cell?, hM4]
        have m1 : W4.cell? ⟨Q, 1, none⟩ = some (.slice a3 la c3) := by simp [World.cell?, hM4]
        clear hQ hown hw3 hb3 hb34 HOW s0 s1
        go_upto_region 5 with (go_at_call 17; refine H4.out.mono ?_; rintro e w5 ⟨B1, rfl, hF1, hb5⟩)
        have hB25 := hB24.trans (hb5.mono hB24.size)
        obtain ⟨s0, s1⟩ := KS.out w5 hB25
        have H5 := Lib.hid (compile13_far fold a la ca wss w5 (HA.out.below (HB2.out.trans (hB25.mono HB2.out.size))) (by omega) HLE.out HBG.out HRT.out)
        clear m0 m1 H4
        go_upto_region 6 with (go_at_call 17; refine H5.out.mono ?_; rintro e w6 ⟨B2, rfl, hF2, hb6⟩)
        have hB46 : RowKit.Below W4.heap.size W4 w6 := hb5.trans (hb6.mono hb5.size)
        have hB26 := hB24.trans (hB46.mono hB24.size)
        have hQl : Q < W4.heap.size := (Array.getElem?_eq_some_iff.1 hM4).1
        have hM6 := (hB46.block Q hQl).trans hM4
        have HF1 : Hid (MUseF W4.heap.size B1 fold wss w6) := hF1.kept (CKept.of_below hb6)
        have HF2 : Hid (MUseF W4.heap.size B2 fold wss w6) := by
          obtain ⟨⟨R, la, ca, wc, a, wa, g1, g2, g7⟩, g3, g4, g5, g6⟩ := hF2
          have hq := hb5.size
          obtain ⟨vs, h1, h2, h3, h4⟩ := g7.rows
          exact ⟨⟨R, la, ca, wc, a, wa, g1, g2, Nat.le_trans hq g7.b, Nat.le_trans hq g7.r, g7.own.lower hq, vs, h1, h2, fun i v xs hv hx => ⟨(h3 i v xs hv hx).1, (h3 i v xs hv hx).2.1, fun p hp => Nat.le_trans hq ((h3 i v xs hv hx).2.2 p hp)⟩, fun p hp => Nat.le_trans hq (h4 p hp)⟩, g3, g4, g5, g6⟩
        have HBY := Lib.hid (fun i (hi : i < la) => OwnW.bytes hB46 hown4 hi)
        have KQ : Hid (∀ V, Turn w2.heap.size W4.heap.size w6 V → V.cell? ⟨Q, 0, none⟩ = some (.bool fold) ∧ V.cell? ⟨Q, 1, none⟩ = some (.slice a3 la c3) ∧ Q < V.heap.size) := fun V hV => by
          have h := hV.same hM6 (by unfold Plain3; exact of_decide_eq_true (by kernel_rfl))
          exact ⟨by simp [World.cell?, h], by simp [World.cell?, h], (Array.getElem?_eq_some_iff.1 h).1⟩
        have HB26 := Lib.hid hB26
        have hlim : Hid (w2.heap.size ≤ w6.heap.size) := hB26.size
        clear H5 s0 s1 hF1 hF2 hb5 hb6 hB46 hB25 hB24 hM4 hM6 hown4 hB26 hQl
        obtain ⟨lim, hlm⟩ : ∃ l, W4.heap.size = l := ⟨_, rfl⟩
        rw [hlm] at HF1 HF2 KQ
        have HLM := Lib.hid hlm
        obtain ⟨base, hbs⟩ : ∃ l, w2.heap.size = l := ⟨_, rfl⟩
        rw [hbs] at KQ hlim HBY
        rw [hlm] at HBY
        have HBS := Lib.hid hbs
        clear hlm hbs
        go_upto_region 9 with fail
        go_loopw [12] (fun s12 wr => ∃ i : Nat, i ≤ la ∧ s12 = .int .i64 (i : Int) ∧ Hid (Turn base lim w6 wr)) (fun s _ => la - (intOf s).toNat)
        case atStart => exact ⟨0, Nat.zero_le _, rfl, Turn.refl _ _ _⟩
        case round =>
          obtain ⟨i, hi, rfl, HT⟩ := hrel
          obtain ⟨m0, m1, m2⟩ := KQ.out wr HT.out
          by_cases hil : i < la
          · have hd : decide ((i : Int) < (la : Int)) = true := by simp; omega
            obtain ⟨g, a', l, c', x, rfl, hx, hxl, hlc, hce, hby⟩ := HBY.out i hil
            have hl6 : l ≤ 1000000 := by rw [← hxl]; exact HLE.out x (List.mem_of_getElem? hx)
            have HCE := Lib.hid hce
            have HBB := Lib.hid hby
            have i1 : (0 : Int) ≤ (i : Int) := by omega
            have i2 : (i : Int) < (la : Int) := by omega
            clear hx hxl hce hby
            go_wp2_with fail
            clear m0 m1 m2
            go_loopw [13] (fun s13 wq => ∃ j : Nat, j ≤ l ∧ s13 = .int .i64 (j : Int) ∧ Hid (Turn base lim w6 wq)) (fun s _ => l - (intOf s).toNat)
            case atStart => exact ⟨0, Nat.zero_le _, rfl, HT⟩
            case round =>
              clear HT
              obtain ⟨j, hj, rfl, HT⟩ := hrel
              have HTD : Hid (Turn base lim w6 wr.drew) := HT.out.grow (bel_drewN wr 1)
              obtain ⟨m0, m1, m2⟩ := KQ.out wr HT.out
              have m3 := HCE.out _ _ wr HT.out
              by_cases hjl : j < l
              · have hdj : decide ((j : Int) < (l : Int)) = true := by simp; omega
                obtain ⟨q, cs, rfl, hq0, hq1, hq6, hq7⟩ := HBB.out j hjl
                obtain ⟨y, hy, n0, n1⟩ := hq7 _ _ wr HT.out
                have HQ6 := Lib.hid hq6
                have j1 : (0 : Int) ≤ (j : Int) := by omega
                have j2 : (j : Int) < (l : Int) := by omega
                go_upto_region 14 with fail
                go_region
                have HTN := Lib.hid ((HT.out.set HQ6.out (Or.inl rfl) hq0 hq1 j (.int .u8 (bits BinOp.xor IntKind.u8 (y : Int) 255)) (fun _ => ⟨_, rfl, (bits_within _ _ _ _).1, (bits_within _ _ _ _).2⟩)).grow (bel_drewN _ 1))
                obtain ⟨wn, hwn⟩ : ∃ X, X = (wr.setCell ⟨q, j, none⟩ (.int .u8 (bits BinOp.xor IntKind.u8 (y : Int) 255))).drew := ⟨_, rfl⟩
                have e9 : (wr.setCell ⟨q, j, none⟩ (.int .u8 (bits BinOp.xor IntKind.u8 (y : Int) 255))).drewN 1 = wn := hwn.symm
                rw [e9] at HTN
                rw [← hwn]
                clear e9 hwn m0 m1 m2 m3 n0 n1 hq7 hq6 HQ6 HT HTD
                go_wp2
                go_roundw
                case rel => exact ⟨j + 1, by omega, by go_num, HTN⟩
                case measure => simp [intOf]; omega
              · obtain rfl : j = l := by omega
                have hdj : decide ((j : Int) < (j : Int)) = false := by simp
                go_wp2_with fail
                go_roundw
                case rel => exact ⟨i + 1, by omega, by go_num, HT⟩
                case measure => simp [intOf]; omega
          · obtain rfl : la = i := by omega
            have hd : decide ((la : Int) < (la : Int)) = false := by simp
            have hBr : RowKit.Below base w6 wr := HT.out.below' hlim.out
            have hB2r : RowKit.Below w2.heap.size w2 wr := HB26.out.trans (by rw [HBS.out]; exact hBr)
            have HU1 := Lib.hid (HF1.out.kept (HT.out.kept (Nat.le_refl _))).use
            have HU2 := Lib.hid (HF2.out.kept (HT.out.kept (Nat.le_refl _))).use
            have HBW : Hid (∀ V, RowKit.Below wr.heap.size wr V → RowKit.Below w.heap.size w V ∧ RowKit.Below w2.heap.size w2 V) := fun V hV => by
              have h := hB2r.trans (hV.mono hB2r.size)
              exact ⟨HB2.out.trans (h.mono HB2.out.size), h⟩
            go_upto_region 15 with fail
            obtain ⟨W0, hW0⟩ : ∃ X, X = wr := ⟨_, rfl⟩
            subst hW0
            clear m0 m1 m2 HT hBr hB2r KQ HBY HF1 HF2 HB26 hlim HLM HBS hi hd
            obtain ⟨hnd, hfo⟩ := right_nodup HRT.out
            have h0 : ∀ x ∈ wss, x.length ≠ 0 := fun x hx => ((right_spec HRT.out).2.2.1 x hx).1
            have hi6 := words13_i64 (by rw [HL.out]; omega) hnd h0 node
            have HXL : Hid ((words13 wss node).length ≤ 1000000) := words13_le wss node HU1.out.nod
            obtain ⟨xs, hxs⟩ : ∃ xs, words13 wss node = xs := ⟨_, rfl⟩
            obtain ⟨n, hn⟩ : ∃ n, xs.length = n := ⟨_, rfl⟩
            obtain ⟨D, hD⟩ : ∃ D, xs.map (fun x => ((1 : Int), x)) = D := ⟨_, rfl⟩
            have hDl : D.length = n := by rw [← hD, List.length_map, hn]
            rw [hxs, hn] at HXL
            have hn6 : n ≤ 1000000 := HXL.out
            obtain ⟨z, hz⟩ : ∃ z, nodeI wss (lsf (nodesL wss) (foldL fold text)) = z := ⟨_, rfl⟩
            have KW : Hid (∀ (B : Nat) V, MUse W0 B fold wss V → Calls Tryz.prog 24 #[.pointer (some ⟨B, 0, none⟩), .int .i64 node] V fun e w' => ∃ (a : Option Addr) (c : Nat), e = .returned (.slice a n c) ∧ Sl1 (Value.int .i64) w' a n xs ∧ w'.ownsRow V.heap.size 3 1 (.slice a n c) n (xs.map (Value.int .i64)) ∧ Below V.heap.size V w') := fun B V hV => by
              have h := hV.words node
              rw [hxs, hn] at h
              refine h.mono fun e w' ⟨a, c, h1, h2, h3, h4⟩ => ⟨a, c, h1, h2, ?_, h4⟩
              unfold OwnI at h3
              rw [hn] at h3
              exact h3
            have KH : Hid (∀ (B : Nat) V, MUse W0 B fold wss V → Calls Tryz.prog 26 #[.pointer (some ⟨B, 0, none⟩), .int .i64 node, .int .i64 1] V fun e w' => ∃ (a : Option Addr) (c : Nat), e = .returned (.slice a n c) ∧ Hts w' a n D ∧ w'.ownsRow V.heap.size 61 2 (.slice a n c) n (hcells D) ∧ Below V.heap.size V w') := fun B V hV => by
              have h := hV.hits node 1 (by unfold I64; decide) hi6
              rw [hxs, hn, hD] at h
              refine h.mono fun e w' ⟨a, c, h1, h2, h3, h4⟩ => ⟨a, c, h1, h2, ?_, h4⟩
              unfold OwnH at h3
              rw [hDl] at h3
              exact h3
            have KSe : Hid (∀ (B : Nat) V, MUse W0 B fold wss V → Calls Tryz.prog 29 #[.pointer (some ⟨B, 0, none⟩)] V fun e w' => ∃ (a : Option Addr) (c : Nat), e = .returned (.agg (setV fold a la c)) ∧ Wds w' a la wss ∧ OwnW w' V.heap.size (.slice a la c) wss ∧ Below V.heap.size V w') := fun B V hV => by
              have h := hV.set
              rw [HL.out] at h
              exact h.mono fun e w' ⟨a, c, h1, _, h2, h3, h4⟩ => ⟨a, c, h1, h2, h3, h4⟩
            have KA : Hid (∀ (B : Nat) V, MUse W0 B fold wss V → Calls Tryz.prog 35 #[.pointer (some ⟨B, 0, none⟩), .slice b lb cb] V fun e w' => e = .returned (.int .i64 z) ∧ Below V.heap.size V w') := fun B V hV => by
              have h := hV.after text b lb cb (HX.out.below (HBW.out V hV.bel).1) (by omega)
              rw [hz] at h
              exact h
            have H15 := Lib.hid (KW.out B1 W0 HU1.out)
            have H16 := Lib.hid (fun V (hV : RowKit.Below W0.heap.size W0 V) => KH.out B1 V (HU1.out.below hV))
            have H17 := Lib.hid (fun V (hV : RowKit.Below W0.heap.size W0 V) => KSe.out B1 V (HU1.out.below hV))
            clear hnd hfo h0 hi6 hxs hn hD hz
            go_upto_region 16 with (first
              | (go_at_call 24; refine H15.out.mono ?_; rintro e w7 ⟨a7, c7, rfl, hs7, ho7, hb7⟩)
              | (go_at_call 26; refine (H16.out w7 hb7).mono ?_; rintro e w8 ⟨a8, c8, rfl, hs8, ho8, hb8⟩; have hb78 := hb7.trans (hb8.mono hb7.size))
              | (go_at_call 29; refine (H17.out w8 hb78).mono ?_; rintro e w9 ⟨a9, c9, rfl, hs9, ho9, hb9⟩))
            obtain ⟨W9, hW9⟩ : ∃ X, X = w9.alloc (.cells (setV fold a9 la c9) 24) := ⟨_, rfl⟩
            have hb99 : RowKit.Below w9.heap.size w9 W9 := by rw [hW9]; exact below_alloc _ _
            have hM9 : W9.heap[w9.heap.size]? = some (.cells (setV fold a9 la c9) 24 (0, 0)) := by rw [hW9]; exact World.alloc_heap_new _ _
            rw [← hW9]
            clear hW9
            have hb89 := hb9.trans (hb99.mono hb9.size)
            have hb79 := hb8.trans (hb89.mono hb8.size)
            have hbr9 := hb7.trans (hb79.mono hb7.size)
            obtain ⟨Q9, hQ9⟩ : ∃ Q, w9.heap.size = Q := ⟨_, rfl⟩
            rw [hQ9] at hM9 ⊢
            have HR7 := Lib.hid (fun i (hi : i < n * 1) => (row_cells hb79 ho7 hi).2)
            have HR8 := Lib.hid (fun i (hi : i < n * 2) => (row_cells hb89 ho8 hi).2)
            have HR9 := Lib.hid (fun i (hi : i < la) => OwnW.bytes hb99 ho9 hi)
            have HL7 : Hid (w7.heap.size ≤ W9.heap.size ∧ w8.heap.size ≤ W9.heap.size ∧ w9.heap.size ≤ W9.heap.size ∧ W0.heap.size ≤ w7.heap.size ∧ W0.heap.size ≤ w8.heap.size) := ⟨hb79.size, hb89.size, hb99.size, hb7.size, hb78.size⟩
            have KQ : Hid (∀ V, Turn W0.heap.size W9.heap.size W9 V → V.cell? ⟨Q9, 0, none⟩ = some (.bool fold) ∧ V.cell? ⟨Q9, 1, none⟩ = some (.slice a9 la c9) ∧ Q9 < V.heap.size) := fun V hV => by
              have h := hV.same hM9 (by unfold Plain3; exact of_decide_eq_true (by kernel_rfl))
              exact ⟨by simp [World.cell?, h], by simp [World.cell?, h], (Array.getElem?_eq_some_iff.1 h).1⟩
            have HTB : Hid (∀ V, Turn W0.heap.size W9.heap.size W9 V → RowKit.Below W0.heap.size W0 V) := fun V hV => hbr9.trans (hV.below' hbr9.size)
            clear H15 H16 H17 hs7 hs8 hs9 ho7 ho8 ho9 hb7 hb8 hb9 hb78 hb99 hM9 hb89 hb79 hbr9 hQ9
            obtain ⟨b2, hb2⟩ : ∃ l, W0.heap.size = l := ⟨_, rfl⟩
            rw [hb2] at KQ HTB HL7
            have HB2S := Lib.hid hb2
            clear hb2
            go_upto_region 17 with fail
            go_loopw [17] (fun s17 wq => ∃ j : Nat, j ≤ n ∧ s17 = .int .i64 (j : Int) ∧ Hid (Turn b2 W9.heap.size W9 wq)) (fun s _ => n - (intOf s).toNat)
            case atStart => exact ⟨0, Nat.zero_le _, rfl, Turn.refl _ _ _⟩
            case round =>
              obtain ⟨j, hj, rfl, HT⟩ := hrel
              by_cases hjn : j < n
              · have hdj : decide ((j : Int) < (n : Int)) = true := by simp; omega
                obtain ⟨g, cs, rfl, hg0, hg1, hg9, hgv⟩ := HR7.out j (by omega)
                obtain ⟨v, n0, n1⟩ := hgv _ _ wr HT.out
                obtain ⟨l1, l2, l3, l4, l5⟩ := HL7.out
                have HTN := Lib.hid (HT.out.set hg9 (Or.inr (Or.inl rfl)) (by have := HB2S.out; omega) (by omega) j (.int .i64 (-1)) (fun h => absurd h (of_decide_eq_true (by kernel_rfl))))
                have j1 : (0 : Int) ≤ (j : Int) := by omega
                have j2 : (j : Int) < (n : Int) := by omega
                clear l1 l2 l3 l4 l5 hg9 hgv HT
                go_wp2_with fail
                go_roundw
                case rel => exact ⟨j + 1, by omega, by go_num, HTN⟩
                case measure => simp [intOf]; omega
              · obtain rfl : n = j := by omega
                have hdj : decide ((n : Int) < (n : Int)) = false := by simp
                go_upto_region 21 with fail
                have HT3 := HT
                clear HT HR7
                go_loopw [18] (fun s18 wq => ∃ j : Nat, j ≤ n ∧ s18 = .int .i64 (j : Int) ∧ Hid (Turn b2 W9.heap.size W9 wq)) (fun s _ => n - (intOf s).toNat)
                case atStart => exact ⟨0, Nat.zero_le _, rfl, HT3⟩
                case round =>
                  clear HT3
                  obtain ⟨j, hj, rfl, HT⟩ := hrel
                  by_cases hjn : j < n
                  · have hdj : decide ((j : Int) < (n : Int)) = true := by simp; omega
                    obtain ⟨g, cs, rfl, hg0, hg1, hg9, hgv⟩ := HR8.out (j * 2) (by omega)
                    obtain ⟨g', cs', e', hg0', hg1', hg9', hgv'⟩ := HR8.out (j * 2 + 1) (by omega)
                    cases e'
                    obtain ⟨v, n0, n1⟩ := hgv _ _ wr HT.out
                    obtain ⟨v', n0', n1'⟩ := hgv' _ _ wr HT.out
                    obtain ⟨l1, l2, l3, l4, l5⟩ := HL7.out
                    have HTN := Lib.hid ((HT.out.set hg9 (Or.inr (Or.inr rfl)) (by have := HB2S.out; omega) (by omega) (j * 2) (.int .i64 0) (fun h => absurd h (of_decide_eq_true (by kernel_rfl)))).set hg9 (Or.inr (Or.inr rfl)) (by have := HB2S.out; omega) (by omega) (j * 2 + 1) (.int .i64 0) (fun h => absurd h (of_decide_eq_true (by kernel_rfl))))
                    have j1 : (0 : Int) ≤ (j : Int) := by omega
                    have j2 : (j : Int) < (n : Int) := by omega
                    clear l1 l2 l3 l4 l5 hg9 hgv hgv' hg9' HT
                    go_wp2_with fail
                    go_roundw
                    case rel => exact ⟨j + 1, by omega, by go_num, HTN⟩
                    case measure => simp [intOf]; omega
                  · obtain rfl : n = j := by omega
                    have hdj : decide ((n : Int) < (n : Int)) = false := by simp
                    go_upto_region 25 with fail
                    have HT4 := HT
                    clear HT HR8
                    go_loopw [19] (fun s19 wq => ∃ i : Nat, i ≤ la ∧ s19 = .int .i64 (i : Int) ∧ Hid (Turn b2 W9.heap.size W9 wq)) (fun s _ => la - (intOf s).toNat)
                    case atStart => exact ⟨0, Nat.zero_le _, rfl, HT4⟩
                    case round =>
                      clear HT4
                      obtain ⟨i, hi, rfl, HT⟩ := hrel
                      obtain ⟨m0, m1, m2⟩ := KQ.out wr HT.out
                      by_cases hil : i < la
                      · have hd : decide ((i : Int) < (la : Int)) = true := by simp; omega
                        obtain ⟨g, a', l, c', x, rfl, hx, hxl, hlc, hce, hby⟩ := HR9.out i hil
                        have hl6 : l ≤ 1000000 := by rw [← hxl]; exact HLE.out x (List.mem_of_getElem? hx)
                        have HCE := Lib.hid hce
                        have HBB := Lib.hid hby
                        have i1 : (0 : Int) ≤ (i : Int) := by omega
                        have i2 : (i : Int) < (la : Int) := by omega
                        clear hx hxl hce hby
                        go_wp2_with fail
                        clear m0 m1 m2
                        go_loopw [20] (fun s20 wq => ∃ j : Nat, j ≤ l ∧ s20 = .int .i64 (j : Int) ∧ Hid (Turn b2 W9.heap.size W9 wq)) (fun s _ => l - (intOf s).toNat)
                        case atStart => exact ⟨0, Nat.zero_le _, rfl, HT⟩
                        case round =>
                          clear HT
                          obtain ⟨j, hj, rfl, HT⟩ := hrel
                          obtain ⟨m0, m1, m2⟩ := KQ.out wr HT.out
                          have m3 := HCE.out _ _ wr HT.out
                          by_cases hjl : j < l
                          · have hdj : decide ((j : Int) < (l : Int)) = true := by simp; omega
                            obtain ⟨q, cs, rfl, hq0, hq1, hq6, hq7⟩ := HBB.out j hjl
                            obtain ⟨y, hy, n0, n1⟩ := hq7 _ _ wr HT.out
                            obtain ⟨l1, l2, l3, l4, l5⟩ := HL7.out
                            have HTN := Lib.hid (HT.out.set hq6 (Or.inl rfl) (by have := HB2S.out; omega) (by omega) j (.int .u8 0) (fun _ => ⟨_, rfl, by decide, by decide⟩))
                            have j1 : (0 : Int) ≤ (j : Int) := by omega
                            have j2 : (j : Int) < (l : Int) := by omega
                            clear l1 l2 l3 l4 l5 hq6 hq7 HT
                            go_wp2_with fail
                            go_roundw
                            case rel => exact ⟨j + 1, by omega, by go_num, HTN⟩
                            case measure => simp [intOf]; omega
                          · obtain rfl : j = l := by omega
                            have hdj : decide ((j : Int) < (j : Int)) = false := by simp
                            go_wp2_with fail
                            go_roundw
                            case rel => exact ⟨i + 1, by omega, by go_num, HT⟩
                            case measure => simp [intOf]; omega
                      · obtain rfl : la = i := by omega
                        have hd : decide ((la : Int) < (la : Int)) = false := by simp
                        go_upto_region 31 with fail
                        have hBz : RowKit.Below W0.heap.size W0 wr := by have h := HTB.out wr HT.out; rw [← HB2S.out] at h; exact h
                        clear m0 m1 m2 HT KQ HR9 HTB hd hi
                        have KS9 : Hid (∀ V, RowKit.Below W0.heap.size W0 V → V.cell? ⟨w.heap.size, 0, none⟩ = some (.bool fold) ∧ V.cell? ⟨w.heap.size, 1, none⟩ = some (.slice a la ca)) := fun V hV => KS.out V (HBW.out V hV).2
                        clear KS
                        refine wp_region_noPanic ?_
                        refine wp_region_held_drew (S := RowKit.Below W0.heap.size W0) (by kernel_rfl) (hBz.trans ((bel_drewN wr 1).mono hBz.size)) (fun hS => ?_)
                        obtain ⟨w11, hw11⟩ : ∃ X, X = wr.drew := ⟨_, rfl⟩
                        rw [← hw11] at hS ⊢
                        clear hw11 hBz
                        change wpAnyH _ _ _ _ _ 35 _ _ _
                        refine tkW 0 (v := ?_) ?_ ?_
                        rotate_left
                        · intro V hV
                          first | (go_simp; done) | (go_simp; with_reducible rfl)
                        try simp only [Act.put, pA, pB, pC]
                        refine tkW 2 (v := ?_) ?_ ?_
                        rotate_left
                        · intro V hV
                          obtain ⟨q0, q1⟩ := KS9.out V hV
                          first | (go_simp; done) | (go_simp; with_reducible rfl)
                        try simp only [Act.put, pA, pB, pC]
                        refine rdy 1 (fun K hK => ?_)
                        go_simp
                        go_at_call 29; refine (KSe.out B1 w11 (HU1.out.below hS)).mono ?_; rintro e w12 ⟨a12, c12, rfl, hs12, _, hb12⟩
                        refine hK.out _ _ (hS.trans (hb12.mono hS.size)) (fun hS12 => ?_)
                        clear hK K
                        try simp only [Act.put, pA, pB, pC]
                        refine rdy 3 (fun K hK => ?_)
                        go_simp
                        go_at_call 28; refine (rsames_any fold fold a12 a la c12 la ca wss wss w12 hs12 (HA.out.below (HBW.out w12 hS12).1) (by omega)).mono ?_; rintro e w13 ⟨rfl, hb13⟩; simp only [sameS, beq_self_eq_true, decide_true, Bool.and_self]
                        refine hK.out _ _ (hS12.trans (hb13.mono hS12.size)) (fun hS13 => ?_)
                        clear hK K
                        try simp only [Act.put, pA, pB, pC]
                        iterate 3 (refine tkF 34 (v := ?_) ?_ ?_; rotate_left; (· intro V hV; first | (go_simp; done) | (go_simp; with_reducible rfl)); try simp only [Act.put, pA, pB, pC])
                        iterate 2 (refine tkF 35 (v := ?_) ?_ ?_; rotate_left; (· intro V hV; first | (go_simp; done) | (go_simp; with_reducible rfl)); try simp only [Act.put, pA, pB, pC])
                        refine rdy 7 (fun K hK => ?_)
                        go_simp
                        go_at_call 24; refine (KW.out B1 w13 (HU1.out.below hS13)).mono ?_; rintro e w14 ⟨a14, c14, rfl, hs14, _, hb14⟩
                        refine hK.out _ _ (hS13.trans (hb14.mono hS13.size)) (fun hS14 => ?_)
                        clear hK K
                        try simp only [Act.put, pA, pB, pC]
                        refine rdy 10 (fun K hK => ?_)
                        go_simp
                        go_at_call 24; refine (KW.out B2 w14 (HU2.out.below hS14)).mono ?_; rintro e w15 ⟨a15, c15, rfl, hs15, _, hb15⟩
                        refine hK.out _ _ (hS14.trans (hb15.mono hS14.size)) (fun hS15 => ?_)
                        clear hK K
                        try simp only [Act.put, pA, pB, pC]
                        refine rdy 11 (fun K hK => ?_)
                        go_simp
                        go_at_call 23; refine (rints_any a14 a15 n c14 n c15 xs xs w15 (hs14.below hb15) hs15 (by omega)).mono ?_; rintro e w16 ⟨rfl, hb16⟩; simp only [decide_true]
                        refine hK.out _ _ (hS15.trans (hb16.mono hS15.size)) (fun hS16 => ?_)
                        clear hK K
                        try simp only [Act.put, pA, pB, pC]
                        iterate 4 (refine tkF 34 (v := ?_) ?_ ?_; rotate_left; (· intro V hV; first | (go_simp; done) | (go_simp; with_reducible rfl)); try simp only [Act.put, pA, pB, pC])
                        iterate 2 (refine tkF 35 (v := ?_) ?_ ?_; rotate_left; (· intro V hV; first | (go_simp; done) | (go_simp; with_reducible rfl)); try simp only [Act.put, pA, pB, pC])
                        refine rdy 16 (fun K hK => ?_)
                        go_simp
                        go_at_call 26; refine (KH.out B1 w16 (HU1.out.below hS16)).mono ?_; rintro e w17 ⟨a17, c17, rfl, hs17, _, hb17⟩
                        refine hK.out _ _ (hS16.trans (hb17.mono hS16.size)) (fun hS17 => ?_)
                        clear hK K
                        try simp only [Act.put, pA, pB, pC]
                        refine rdy 19 (fun K hK => ?_)
                        go_simp
                        go_at_call 26; refine (KH.out B2 w17 (HU2.out.below hS17)).mono ?_; rintro e w18 ⟨a18, c18, rfl, hs18, _, hb18⟩
                        refine hK.out _ _ (hS17.trans (hb18.mono hS17.size)) (fun hS18 => ?_)
                        clear hK K
                        try simp only [Act.put, pA, pB, pC]
                        refine rdy 20 (fun K hK => ?_)
                        go_simp
                        go_at_call 25; refine (rsame13_any a17 a18 n c17 n c18 D D w18 (hs17.below hb18) hs18 (by omega)).mono ?_; rintro e w19 ⟨rfl, hb19⟩; simp only [decide_true]
                        refine hK.out _ _ (hS18.trans (hb19.mono hS18.size)) (fun hS19 => ?_)
                        clear hK K
                        try simp only [Act.put, pA, pB, pC]
                        iterate 4 (refine tkF 34 (v := ?_) ?_ ?_; rotate_left; (· intro V hV; first | (go_simp; done) | (go_simp; with_reducible rfl)); try simp only [Act.put, pA, pB, pC])
                        iterate 2 (refine tkF 35 (v := ?_) ?_ ?_; rotate_left; (· intro V hV; first | (go_simp; done) | (go_simp; with_reducible rfl)); try simp only [Act.put, pA, pB, pC])
                        refine rdy 25 (fun K hK => ?_)
                        go_simp
                        go_at_call 35; refine (KA.out B1 w19 (HU1.out.below hS19)).mono ?_; rintro e w20 ⟨rfl, hb20⟩
                        refine hK.out _ _ (hS19.trans (hb20.mono hS19.size)) (fun hS20 => ?_)
                        clear hK K
                        try simp only [Act.put, pA, pB, pC]
                        refine rdy 28 (fun K hK => ?_)
                        go_simp
                        go_at_call 35; refine (KA.out B2 w20 (HU2.out.below hS20)).mono ?_; rintro e w21 ⟨rfl, hb21⟩
                        refine hK.out _ _ (hS20.trans (hb21.mono hS20.size)) (fun hS21 => ?_)
                        clear hK K
                        try simp only [Act.put, pA, pB, pC]
                        iterate 3 (refine tkF 34 (v := ?_) ?_ ?_; rotate_left; (· intro V hV; first | (go_simp; done) | (go_simp; with_reducible rfl)); try simp only [Act.put, pA, pB, pC])
                        refine rdy 32 (fun K hK => ?_)
                        go_simp
                        go_at_call 16; refine (wakes13 w21).mono ?_; rintro e w22 ⟨rfl, hb22⟩
                        refine hK.out _ _ (hS21.trans (hb22.mono hS21.size)) (fun hS22 => ?_)
                        clear hK K
                        try simp only [Act.put, pA, pB, pC]
                        iterate 2 (refine tkF 34 (v := ?_) ?_ ?_; rotate_left; (· intro V hV; first | (go_simp; done) | (go_simp; with_reducible rfl)); try simp only [Act.put, pA, pB, pC])
                        refine wpAnyH_done (by kernel_rfl) ?_ _
                        refine NoPanic.normal ?_
                        go_wp2
                        go_ret
                        exact ⟨rfl, (HBW.out w22 hS22).1⟩
      · have d1 : decide ((300 : Int) < (lb : Int)) = true := by simp; omega
        have d1' : decide (300 < lb) = true := by simp; omega
        go_wp2_with fail
        refine (wakes13 _).mono ?_
        rintro e w3 ⟨rfl, hb3⟩
        have hB3 := hB2.trans (hb3.mono hB2.size)
        go_wp2
        go_ret
        exact ⟨rfl, hB3⟩
end Go.Proofs.YtbiinfnekhhfkaaGreat
