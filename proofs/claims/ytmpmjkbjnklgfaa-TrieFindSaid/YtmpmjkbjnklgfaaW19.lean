/- Parts of the proof, one behind the other: VA, VB, VC. No condition but what each theorem states. -/
import Derived.Test.YtmpmjkbjnklgfaaW12
import Derived.Test.YtmpmjkbjnklgfaaW18

/- The law that a trie tells its words (layer 7), walked. Printed by gen_va.py. -/


namespace Go.Proofs.Ytmpmjkbjnklgfaa
open Go.RowKit Go.Sort
set_option linter.unusedVariables false
set_option linter.unusedSimpArgs false

set_option maxRecDepth 100000 in
set_option maxHeartbeats 8000000 in
theorem trieWords_walk (fold : Bool) (a : Option Addr) (la ca : Nat) (wss : List (List Int)) (w : World) (hA : Wds w a la wss) :
    Calls Try.prog 9 #[.agg (setV fold a la ca)] w fun e w' => e = .returned (.bool true) ∧ Below w.heap.size w w' := by
  obtain ⟨W1, hW1⟩ : ∃ W1, W1 = w.alloc (.cells (setV fold a la ca) 39) := ⟨_, rfl⟩
  have hB1 : Below w.heap.size w W1 := by rw [hW1]; exact below_alloc _ _
  have hO1 : Bx w.heap.size [.cells (setV fold a la ca) 39] W1 := by rw [hW1]; exact (Bx.nil _ w).snoc _ rfl
  have HGC := Lib.hid (great5_any fold a la ca wss W1 (hA.below hB1))
  have c0 : W1.cell? ⟨w.heap.size, 0, none⟩ = some (.bool fold) := hO1.cell (i := 0) rfl rfl
  have c1 : W1.cell? ⟨w.heap.size, 1, none⟩ = some (.slice a la ca) := hO1.cell (i := 0) rfl rfl
  cases hg : greatP wss with
  | true =>
    have HG := Lib.hid hg
    clear hg
    go_enter Try.func9, Try.ntmps9
    go_wp2_with fail
    rw [← hW1]
    refine HGC.out.mono ?_
    rintro e w2 ⟨rfl, hb⟩
    rw [HG.out]
    have hB2 : RowKit.Below w.heap.size w w2 := hB1.trans (hb.mono hB1.size)
    clear c0 c1 hb
    go_wp2_with fail
    refine (wakes7 w2).mono ?_
    rintro e w9 ⟨rfl, hb9⟩
    go_wp2
    go_ret
    exact ⟨rfl, hB2.trans (hb9.mono hB2.size)⟩
  | false =>
    obtain ⟨g1, g2, g3⟩ := great_bd hg fold
    have HG := Lib.hid hg
    have HWL := Lib.hid hA.len
    have hla : la ≤ 1000 := by rw [← hA.len]; omega
    have HM := Lib.hid (show ∀ x ∈ wss, x.length ≤ 1000000 from fun z hz => by have := g2 z hz; omega)
    have hBL : (begL fold wss).length ≤ 1000000 := by omega
    clear hg g2 g3
    cases hr : rightR fold wss with
    | false =>
      have HR := Lib.hid hr
      clear hr
      go_enter Try.func9, Try.ntmps9
      go_wp2_with fail
      rw [← hW1]
      refine HGC.out.mono ?_
      rintro e w2 ⟨rfl, hb⟩
      rw [HG.out]
      have hB2 : RowKit.Below w.heap.size w w2 := hB1.trans (hb.mono hB1.size)
      have hO2 := hO1.below hb
      clear c0 c1 hb
      have c0 : w2.cell? ⟨w.heap.size, 0, none⟩ = some (.bool fold) := hO2.cell (i := 0) rfl rfl
      have c1 : w2.cell? ⟨w.heap.size, 1, none⟩ = some (.slice a la ca) := hO2.cell (i := 0) rfl rfl
      go_wp2_with fail
      refine (rright_any fold a la ca wss w2 (hA.below hB2) (by omega) HM.out).mono ?_
      rintro e w3 ⟨rfl, hb⟩
      rw [HR.out]
      have hB3 : RowKit.Below w.heap.size w w3 := hB2.trans (hb.mono hB2.size)
      clear c0 c1 hb hO2
      go_wp2_with fail
      refine (wakes7 w3).mono ?_
      rintro e w9 ⟨rfl, hb9⟩
      go_wp2
      go_ret
      exact ⟨rfl, hB3.trans (hb9.mono hB3.size)⟩
    | true =>
      have HR := Lib.hid hr
      have hrp : rightP fold wss = true := by rw [right_eq]; exact hr
      have hr0 := right_false hrp
      have HR0 := Lib.hid hr0
      have HRP := Lib.hid hrp
      have hn2 := nodes_two hr0
      have hn4 := (right_nodes hr0).2
      have hwn := words_lt hr0
      have hlw : wss.length = la := hA.len
      obtain ⟨n, hn⟩ : ∃ n, n = (nodesL wss).length := ⟨_, rfl⟩
      have HN := Lib.hid hn
      rw [← hn] at hn2 hn4 hwn
      have hlan : la < n := by omega
      clear hr hn hwn hlw hrp hr0
      go_enter Try.func9, Try.ntmps9
      go_wp2_with fail
      rw [← hW1]
      refine HGC.out.mono ?_
      rintro e w2 ⟨rfl, hb⟩
      rw [HG.out]
      have hB2 : RowKit.Below w.heap.size w w2 := hB1.trans (hb.mono hB1.size)
      have hO2 := hO1.below hb
      clear c0 c1 hb hO1 hB1 hW1
      have c0 : w2.cell? ⟨w.heap.size, 0, none⟩ = some (.bool fold) := hO2.cell (i := 0) rfl rfl
      have c1 : w2.cell? ⟨w.heap.size, 1, none⟩ = some (.slice a la ca) := hO2.cell (i := 0) rfl rfl
      go_wp2_with fail
      refine (rright_any fold a la ca wss w2 (hA.below hB2) (by omega) HM.out).mono ?_
      rintro e w3 ⟨rfl, hb⟩
      rw [HR.out]
      have hB3 : RowKit.Below w.heap.size w w3 := hB2.trans (hb.mono hB2.size)
      have hO3 := hO2.below hb
      clear c0 c1 hb hO2 hB2
      have c0 : w3.cell? ⟨w.heap.size, 0, none⟩ = some (.bool fold) := hO3.cell (i := 0) rfl rfl
      have c1 : w3.cell? ⟨w.heap.size, 1, none⟩ = some (.slice a la ca) := hO3.cell (i := 0) rfl rfl
      go_wp2_with fail
      refine (make7_yes fold a la ca wss w3 (hA.below hB3) (by omega) HM.out hBL HRP.out).mono ?_
      rintro e w4 ⟨t, rfl, hT4, hb⟩
      have hB4 : RowKit.Below w.heap.size w w4 := hB3.trans (hb.mono hB3.size)
      have hO4 := hO3.below hb
      obtain ⟨l1, l2, l3, l4⟩ := trie_lens (ws := wss)
      have htl : n = t.un ∧ n = t.dn ∧ n = t.xn ∧ n = t.bn := by
        have q0 := HN.out
        have q1 := hT4.up.1; have q2 := hT4.dep.1; have q3 := hT4.wrd.1; have q4 := hT4.byt.1.1
        omega
      obtain ⟨ua, un, uc, da, dn, dc, xa, xn, xc, ba, bn, bc⟩ := t
      dsimp only at htl
      obtain ⟨m1, m2, m3, m4⟩ := htl
      subst m1 m2 m3 m4
      clear c0 c1 hb hO3 hB3 l1 l2 l3 l4
      go_upto_region 4 with fail
      obtain ⟨w5, hw5⟩ : ∃ w5, w5 = w4.alloc (.cells #[.slice ua n uc, .slice da n dc, .slice xa n xc, .slice ba n bc] 62) := ⟨_, rfl⟩
      have hP : w5.heap[w4.heap.size]? = some (.cells #[.slice ua n uc, .slice da n dc, .slice xa n xc, .slice ba n bc] 62 (0, 0)) := by rw [hw5]; exact World.alloc_heap_new _ _
      have hb5 : RowKit.Below w4.heap.size w4 w5 := by rw [hw5]; exact below_alloc _ _
      rw [← hw5]
      clear hw5
      have hB5 := hB4.trans (hb5.mono hB4.size)
      have hO5 := hO4.below hb5
      have hT5 := hT4.below hb5
      obtain ⟨p, hp⟩ : ∃ p, w4.heap.size = p := ⟨_, rfl⟩
      rw [hp] at hP ⊢
      clear hp hb5 hB4 hO4 hT4
      have HC : Hid (∀ V, RowKit.Below w5.heap.size w5 V → (V.cell? ⟨w.heap.size, 0, none⟩ = some (.bool fold) ∧ V.cell? ⟨w.heap.size, 1, none⟩ = some (.slice a la ca)) ∧ V.cell? ⟨p, 0, none⟩ = some (.slice ua n uc) ∧ V.cell? ⟨p, 1, none⟩ = some (.slice da n dc) ∧ V.cell? ⟨p, 2, none⟩ = some (.slice xa n xc) ∧ V.cell? ⟨p, 3, none⟩ = some (.slice ba n bc)) := fun V hV => by
        have e := (hV.block _ (Array.getElem?_eq_some_iff.1 hP).1).trans hP
        have hO := hO5.below hV
        exact ⟨⟨hO.cell (i := 0) rfl rfl, hO.cell (i := 0) rfl rfl⟩, by simp [World.cell?, e]⟩
      have hA5 := hA.below hB5
      have HA5 := Lib.hid hA5
      have HT5 := Lib.hid hT5
      have HB5 := Lib.hid hB5
      clear hP hO5 hA5 hT5 hB5
      have f0 : ∀ d os, (grow (redrawn w5 d) os).cell? ⟨w.heap.size, 0, none⟩ = some (.bool fold) := fun d os => (HC.out _ (below_regrown w5 d os)).1.1
      have f1 : ∀ d os, (grow (redrawn w5 d) os).cell? ⟨w.heap.size, 1, none⟩ = some (.slice a la ca) := fun d os => (HC.out _ (below_regrown w5 d os)).1.2
      have f2 : ∀ d os, (grow (redrawn w5 d) os).cell? ⟨p, 0, none⟩ = some (.slice ua n uc) := fun d os => (HC.out _ (below_regrown w5 d os)).2.1
      have f3 : ∀ d os, (grow (redrawn w5 d) os).cell? ⟨p, 1, none⟩ = some (.slice da n dc) := fun d os => (HC.out _ (below_regrown w5 d os)).2.2.1
      have f4 : ∀ d os, (grow (redrawn w5 d) os).cell? ⟨p, 2, none⟩ = some (.slice xa n xc) := fun d os => (HC.out _ (below_regrown w5 d os)).2.2.2.1
      have f5 : ∀ d os, (grow (redrawn w5 d) os).cell? ⟨p, 3, none⟩ = some (.slice ba n bc) := fun d os => (HC.out _ (below_regrown w5 d os)).2.2.2.2
      have HRD := Lib.hid (readP_trie HR0.out)
      have s1 := fun d os => tright_any ⟨ua, n, uc, da, n, dc, xa, n, xc, ba, n, bc⟩ (trieP wss) (grow (redrawn w5 d) os) (HT5.out.below (below_regrown w5 d os)) (by dsimp only; omega)
      have s2 := fun d os => tmany_any ⟨ua, n, uc, da, n, dc, xa, n, xc, ba, n, bc⟩ (trieP wss) (grow (redrawn w5 d) os) (HT5.out.below (below_regrown w5 d os)) (by dsimp only; omega)
      have s3 := fun d os => rnodes_any fold a la ca wss (grow (redrawn w5 d) os) (HA5.out.below (below_regrown w5 d os)) (by omega) HM.out
      have e1 : rightT (trieP wss) = true := by unfold rightT; rw [HRD.out]; rfl
      have e2 : manyT (trieP wss) = (n : Int) := by unfold manyT; rw [HRD.out]; dsimp only; rw [trie_lens.1, ← HN.out]
      have e3 : nodesR fold wss = (n : Int) := by rw [HN.out]; exact (nodesL_count fold (right_nodup HRP.out).2).symm
      rw [e1] at s1
      rw [e2] at s2
      rw [e3] at s3
      clear e1 e2 e3
      refine wp_region_quiet_below mixed (by kernel_rfl) ?_
      repeat (go_big_quiet_step (first | (go_at_call 46; exact grown_below (s1 _ _)) | (go_at_call 47; exact grown_below (s2 _ _)) | (go_at_call 48; exact grown_below (s3 _ _))))
      refine wpQuiet_nil ?_
      rintro _ ⟨⟨dq, osq⟩, rfl⟩
      have hBq := below_regrown w5 dq osq
      obtain ⟨w6, hw6⟩ : ∃ w6, w6 = grow (redrawn w5 dq) osq := ⟨_, rfl⟩
      rw [← hw6] at hBq ⊢
      clear hw6 s1 s2 s3 f0 f1 f2 f3 f4 f5
      obtain ⟨⟨c0, c1⟩, c2, c3, c4, c5⟩ := HC.out w6 hBq
      go_wp2
      clear c0 c1 c2 c3 c4 c5
      go_loopw [5, 6, 7] (fun s5 _ _ wr => ∃ k : Nat, k ≤ la ∧ s5 = .int .i64 k ∧ RowKit.Below w5.heap.size w5 wr) (fun s5 _ _ _ => la - (intOf s5).toNat)
      case atStart => exact ⟨0, Nat.zero_le _, rfl, hBq⟩
      case round =>
        clear hBq
        obtain ⟨k, hk, rfl, hBr⟩ := hrel
        by_cases hkl : k < la
        · have hdk : decide ((k : Int) < la) = true := by simp; omega
          obtain ⟨bb, off, aw, lw, cw, x, hbb, hbl, hcell, hx, hX, hlc⟩ := (HA5.out.below hBr).at_ hkl
          subst hbb
          obtain ⟨j, j1, j2, j3, j4⟩ := word_find HR0.out hx
          rw [← HN.out] at j2
          have HBR := Lib.hid hBr
          have hBg : ∀ d os, RowKit.Below w5.heap.size w5 (grow (redrawn wr d) os) := fun d os => hBr.trans ((below_regrown wr d os).mono hBr.size)
          obtain ⟨⟨c0, c1⟩, c2, c3, c4, c5⟩ := HC.out wr hBr
          have f1 : ∀ d os, (grow (redrawn wr d) os).cell? ⟨w.heap.size, 1, none⟩ = some (.slice (some ⟨bb, off, none⟩) la ca) := fun d os => (HC.out _ (hBg d os)).1.2
          have f2 : ∀ d os, (grow (redrawn wr d) os).cell? ⟨p, 0, none⟩ = some (.slice ua n uc) := fun d os => (HC.out _ (hBg d os)).2.1
          have f3 : ∀ d os, (grow (redrawn wr d) os).cell? ⟨p, 1, none⟩ = some (.slice da n dc) := fun d os => (HC.out _ (hBg d os)).2.2.1
          have f4 : ∀ d os, (grow (redrawn wr d) os).cell? ⟨p, 2, none⟩ = some (.slice xa n xc) := fun d os => (HC.out _ (hBg d os)).2.2.2.1
          have f5 : ∀ d os, (grow (redrawn wr d) os).cell? ⟨p, 3, none⟩ = some (.slice ba n bc) := fun d os => (HC.out _ (hBg d os)).2.2.2.2
          have f6 : ∀ d os, (grow (redrawn wr d) os).cell? ⟨bb, off + k, none⟩ = some (.slice aw lw cw) := fun d os => ((below_regrown wr d os).cell (p := ⟨bb, off + k, none⟩) hbl).trans hcell
          have s49 := fun d os => tfind_any ⟨ua, n, uc, da, n, dc, xa, n, xc, ba, n, bc⟩ (trieP wss) aw lw cw x (grow (redrawn wr d) os) (HT5.out.below (hBg d os)) (by dsimp only; omega) (hX.below (below_regrown wr d os))
          have e : findT (trieP wss) x = ((j : Int), true) := by unfold findT; rw [HRD.out]; exact j3
          rw [e] at s49
          have HJ4 := Lib.hid j4
          have i1 : (0 : Int) ≤ (k : Int) := by omega
          have i2 : (k : Int) < (la : Int) := by omega
          clear e j3 j4 hx hX hcell hlc hBr hBg
          go_wp2
          clear c0 c1 c2 c3 c4 c5
          refine wp_region_quiet_below mixed (by kernel_rfl) ?_
          repeat (go_big_quiet_step ((go_at_call 49; exact grown_below (s49 _ _))))
          refine wpQuiet_nil ?_
          rintro _ ⟨⟨dq, osq⟩, rfl⟩
          have hBq : RowKit.Below w5.heap.size w5 (grow (redrawn wr dq) osq) := HBR.out.trans ((below_regrown wr dq osq).mono HBR.out.size)
          obtain ⟨w7, hw7⟩ : ∃ w7, w7 = grow (redrawn wr dq) osq := ⟨_, rfl⟩
          rw [← hw7] at hBq ⊢
          clear hw7 s49 f1 f2 f3 f4 f5 f6
          obtain ⟨⟨c0, c1⟩, c2, c3, c4, c5⟩ := HC.out w7 hBq
          obtain ⟨b3, o3, y, e3, hl3, cy, hy⟩ := sl1_at (HT5.out.wrd.below hBq) (k := j) j2
          subst e3
          obtain rfl : y = (k : Int) := by
            have h := HJ4.out
            rw [hy] at h
            exact Option.some.inj h
          have i3 : (0 : Int) ≤ (j : Int) := by omega
          have i4 : (j : Int) < (n : Int) := by omega
          have d1 : decide ((j : Int) < 1) = false := by simp; omega
          have d2 : decide ((n : Int) ≤ (j : Int)) = false := by simp; omega
          clear hy
          go_wp2
          go_roundw
          case rel => exact ⟨k + 1, by omega, by go_num, hBq⟩
          case measure => simp [intOf]; omega
        · obtain rfl : k = la := by omega
          have hdk : decide ((k : Int) < k) = false := by simp
          obtain ⟨⟨c0, c1⟩, c2, c3, c4, c5⟩ := HC.out wr hBr
          go_upto_region 12 with fail
          obtain ⟨V, hV⟩ : ∃ V, V = wr := ⟨_, rfl⟩
          subst hV
          have HSK : Hid (∀ W, RowKit.Below V.heap.size V W → W.cell? ⟨w.heap.size, 1, none⟩ = some (.slice a k ca) ∧ (W.cell? ⟨p, 0, none⟩ = some (.slice ua n uc) ∧ W.cell? ⟨p, 1, none⟩ = some (.slice da n dc) ∧ W.cell? ⟨p, 2, none⟩ = some (.slice xa n xc) ∧ W.cell? ⟨p, 3, none⟩ = some (.slice ba n bc)) ∧ RowKit.Below V.heap.size V W) := fun W hW => by
            obtain ⟨⟨h0, h1⟩, h2⟩ := HC.out W (hBr.trans (hW.mono hBr.size))
            exact ⟨h1, h2, hW⟩
          have H1 : Hid (∀ W, RowKit.Below V.heap.size V W → Calls Try.prog 51 #[.agg #[.slice ua n uc, .slice da n dc, .slice xa n xc, .slice ba n bc]] W fun e w' => ∃ b c, e = .returned (.slice b k c) ∧ Wds w' b k wss ∧ RowKit.Below V.heap.size V w') := fun W hW => by
            have ew : wordsT (trieP wss) = wss := by unfold wordsT; rw [HRD.out]
            have h := twords_any ⟨ua, n, uc, da, n, dc, xa, n, xc, ba, n, bc⟩ (trieP wss) W (HT5.out.below (hBr.trans (hW.mono hBr.size))) (by dsimp only; omega)
            rw [ew, HWL.out] at h
            exact h.mono fun e w' ⟨b, c, e1, e2, _, e4⟩ => ⟨b, c, e1, e2, hW.trans (e4.mono hW.size)⟩
          have H2 : Hid (∀ W b c, RowKit.Below V.heap.size V W → Wds W b k wss → Calls Try.prog 50 #[.agg #[.bool false, .slice b k c], .agg #[.bool false, .slice a k ca]] W fun e w' => e = .returned (.bool true) ∧ RowKit.Below V.heap.size V w') := fun W b c hW hb =>
            (rsames_any false false b a k c k ca wss wss W hb (HA5.out.below (hBr.trans (hW.mono hBr.size))) (by omega)).mono fun e w' ⟨e1, e2⟩ => ⟨by rw [e1]; simp [sameS], hW.trans (e2.mono hW.size)⟩
          have H3 : Hid (∀ W, RowKit.Below V.heap.size V W → Calls Try.prog 44 #[] W fun e w' => e = .returned (.bool true) ∧ RowKit.Below V.heap.size V w') := fun W hW =>
            (wakes7 W).mono fun e w' ⟨e1, e2⟩ => ⟨e1, hW.trans (e2.mono hW.size)⟩
          have hBel := RowKit.Below.refl V.heap.size V
          have hBeld : RowKit.Below V.heap.size V V.drew := hBel.drew
          have HBF : Hid (RowKit.Below w.heap.size w V) := HB5.out.trans (hBr.mono HB5.out.size)
          clear c0 c2 c3 c4 c5 hBr
          obtain ⟨c1, ⟨c2, c3, c4, c5⟩, _⟩ := HSK.out V hBel
          go_region_held3 (fun W => W.cell? ⟨w.heap.size, 1, none⟩ = some (.slice a k ca) ∧ (W.cell? ⟨p, 0, none⟩ = some (.slice ua n uc) ∧ W.cell? ⟨p, 1, none⟩ = some (.slice da n dc) ∧ W.cell? ⟨p, 2, none⟩ = some (.slice xa n xc) ∧ W.cell? ⟨p, 3, none⟩ = some (.slice ba n bc)) ∧ RowKit.Below V.heap.size V W) (first | (go_keep; done) | exact HSK.out _ (by assumption)) (first
            | (go_at_call 51
               with_reducible refine (H1.out _ (by assumption)).mono ?_
               rintro e w' ⟨xb, xc2, rfl, hxw, hbw⟩)
            | (go_at_call 50
               with_reducible refine (H2.out _ xb xc2 (by assumption) hxw).mono ?_
               rintro e w2' ⟨rfl, hbw⟩)
            | (go_at_call 44
               with_reducible refine (H3.out _ (by assumption)).mono ?_
               rintro e w3' ⟨rfl, hbw⟩))
          all_goals
            go_wp2
            go_ret
            exact ⟨rfl, HBF.out.trans (hbw.mono HBF.out.size)⟩

end Go.Proofs.Ytmpmjkbjnklgfaa

/- The law that just the beginnings are found (layer 7), walked. Printed by gen_vb.py. -/


namespace Go.Proofs.Ytmpmjkbjnklgfaa
open Go.RowKit Go.Sort
set_option linter.unusedVariables false
set_option linter.unusedSimpArgs false

set_option maxRecDepth 100000 in
set_option maxHeartbeats 8000000 in
theorem trieFind_walk (fold : Bool) (a b : Option Addr) (la ca lb cb : Nat) (x : List Int) (wss : List (List Int)) (w : World) (hA : Wds w a la wss) (hX : Bys w b lb x) (hcb : lb ≤ cb) :
    Calls Try.prog 11 #[.agg (setV fold a la ca), .slice b lb cb] w fun e w' => e = .returned (.bool true) ∧ Below w.heap.size w w' := by
  obtain ⟨W1, hW1⟩ : ∃ W1, W1 = w.alloc (.cells (setV fold a la ca) 39) := ⟨_, rfl⟩
  have hB1 : Below w.heap.size w W1 := by rw [hW1]; exact below_alloc _ _
  have hO1 : Bx w.heap.size [.cells (setV fold a la ca) 39] W1 := by rw [hW1]; exact (Bx.nil _ w).snoc _ rfl
  have HGC := Lib.hid (great5_any fold a la ca wss W1 (hA.below hB1))
  have c0 : W1.cell? ⟨w.heap.size, 0, none⟩ = some (.bool fold) := hO1.cell (i := 0) rfl rfl
  have c1 : W1.cell? ⟨w.heap.size, 1, none⟩ = some (.slice a la ca) := hO1.cell (i := 0) rfl rfl
  cases hg : greatP wss with
  | true =>
    have HG := Lib.hid hg
    clear hg
    go_enter Try.func11, Try.ntmps11
    go_wp2_with fail
    rw [← hW1]
    refine HGC.out.mono ?_
    rintro e w2 ⟨rfl, hb⟩
    rw [HG.out]
    have hB2 : RowKit.Below w.heap.size w w2 := hB1.trans (hb.mono hB1.size)
    clear c0 c1 hb
    go_wp2_with fail
    refine (wakes7 w2).mono ?_
    rintro e w9 ⟨rfl, hb9⟩
    go_wp2
    go_ret
    exact ⟨rfl, hB2.trans (hb9.mono hB2.size)⟩
  | false =>
    obtain ⟨g1, g2, g3⟩ := great_bd hg fold
    have HG := Lib.hid hg
    have HWL := Lib.hid hA.len
    have hla : la ≤ 1000 := by rw [← hA.len]; omega
    have HM := Lib.hid (show ∀ x ∈ wss, x.length ≤ 1000000 from fun z hz => by have := g2 z hz; omega)
    have hBL : (begL fold wss).length ≤ 1000000 := by omega
    clear hg g2 g3
    cases hr : rightR fold wss with
    | false =>
      have HR := Lib.hid hr
      clear hr
      go_enter Try.func11, Try.ntmps11
      go_wp2_with fail
      rw [← hW1]
      refine HGC.out.mono ?_
      rintro e w2 ⟨rfl, hb⟩
      rw [HG.out]
      have hB2 : RowKit.Below w.heap.size w w2 := hB1.trans (hb.mono hB1.size)
      have hO2 := hO1.below hb
      clear c0 c1 hb
      have c0 : w2.cell? ⟨w.heap.size, 0, none⟩ = some (.bool fold) := hO2.cell (i := 0) rfl rfl
      have c1 : w2.cell? ⟨w.heap.size, 1, none⟩ = some (.slice a la ca) := hO2.cell (i := 0) rfl rfl
      go_wp2_with fail
      refine (rright_any fold a la ca wss w2 (hA.below hB2) (by omega) HM.out).mono ?_
      rintro e w3 ⟨rfl, hb⟩
      rw [HR.out]
      have hB3 : RowKit.Below w.heap.size w w3 := hB2.trans (hb.mono hB2.size)
      clear c0 c1 hb hO2
      go_wp2_with fail
      refine (wakes7 w3).mono ?_
      rintro e w9 ⟨rfl, hb9⟩
      go_wp2
      go_ret
      exact ⟨rfl, hB3.trans (hb9.mono hB3.size)⟩
    | true =>
      have HR := Lib.hid hr
      have hrp : rightP fold wss = true := by rw [right_eq]; exact hr
      have hr0 := right_false hrp
      have HR0 := Lib.hid hr0
      have HRP := Lib.hid hrp
      have hn2 := nodes_two hr0
      have hn4 := (right_nodes hr0).2
      have hwn := words_lt hr0
      have hlw : wss.length = la := hA.len
      obtain ⟨n, hn⟩ : ∃ n, n = (nodesL wss).length := ⟨_, rfl⟩
      have HN := Lib.hid hn
      rw [← hn] at hn2 hn4 hwn
      have hlan : la < n := by omega
      clear hr hn hwn hlw hrp hr0
      by_cases h60 : lb ≤ 60
      rotate_left
      · have d60 : decide (60 < (lb : Int)) = true := by simp; omega
        go_enter Try.func11, Try.ntmps11
        go_wp2_with fail
        rw [← hW1]
        refine HGC.out.mono ?_
        rintro e w2 ⟨rfl, hb⟩
        rw [HG.out]
        have hB2 : RowKit.Below w.heap.size w w2 := hB1.trans (hb.mono hB1.size)
        have hO2 := hO1.below hb
        clear c0 c1 hb
        have c0 : w2.cell? ⟨w.heap.size, 0, none⟩ = some (.bool fold) := hO2.cell (i := 0) rfl rfl
        have c1 : w2.cell? ⟨w.heap.size, 1, none⟩ = some (.slice a la ca) := hO2.cell (i := 0) rfl rfl
        go_wp2_with fail
        refine (rright_any fold a la ca wss w2 (hA.below hB2) (by omega) HM.out).mono ?_
        rintro e w3 ⟨rfl, hb⟩
        rw [HR.out]
        have hB3 : RowKit.Below w.heap.size w w3 := hB2.trans (hb.mono hB2.size)
        clear c0 c1 hb hO2
        go_wp2_with fail
        refine (wakes7 w3).mono ?_
        rintro e w9 ⟨rfl, hb9⟩
        go_wp2
        go_ret
        exact ⟨rfl, hB3.trans (hb9.mono hB3.size)⟩
      have d60 : decide (60 < (lb : Int)) = false := by simp; omega
      go_enter Try.func11, Try.ntmps11
      go_wp2_with fail
      rw [← hW1]
      refine HGC.out.mono ?_
      rintro e w2 ⟨rfl, hb⟩
      rw [HG.out]
      have hB2 : RowKit.Below w.heap.size w w2 := hB1.trans (hb.mono hB1.size)
      have hO2 := hO1.below hb
      clear c0 c1 hb hO1 hB1 hW1
      have c0 : w2.cell? ⟨w.heap.size, 0, none⟩ = some (.bool fold) := hO2.cell (i := 0) rfl rfl
      have c1 : w2.cell? ⟨w.heap.size, 1, none⟩ = some (.slice a la ca) := hO2.cell (i := 0) rfl rfl
      go_wp2_with fail
      refine (rright_any fold a la ca wss w2 (hA.below hB2) (by omega) HM.out).mono ?_
      rintro e w3 ⟨rfl, hb⟩
      rw [HR.out]
      have hB3 : RowKit.Below w.heap.size w w3 := hB2.trans (hb.mono hB2.size)
      have hO3 := hO2.below hb
      clear c0 c1 hb hO2 hB2
      have c0 : w3.cell? ⟨w.heap.size, 0, none⟩ = some (.bool fold) := hO3.cell (i := 0) rfl rfl
      have c1 : w3.cell? ⟨w.heap.size, 1, none⟩ = some (.slice a la ca) := hO3.cell (i := 0) rfl rfl
      go_wp2_with fail
      refine (make7_yes fold a la ca wss w3 (hA.below hB3) (by omega) HM.out hBL HRP.out).mono ?_
      rintro e w4 ⟨t, rfl, hT4, hb⟩
      have hB4 : RowKit.Below w.heap.size w w4 := hB3.trans (hb.mono hB3.size)
      have hO4 := hO3.below hb
      obtain ⟨l1, l2, l3, l4⟩ := trie_lens (ws := wss)
      have htl : n = t.un ∧ n = t.dn ∧ n = t.xn ∧ n = t.bn := by
        have q0 := HN.out
        have q1 := hT4.up.1; have q2 := hT4.dep.1; have q3 := hT4.wrd.1; have q4 := hT4.byt.1.1
        omega
      obtain ⟨ua, un, uc, da, dn, dc, xa, xn, xc, ba, bn, bc⟩ := t
      dsimp only at htl
      obtain ⟨m1, m2, m3, m4⟩ := htl
      subst m1 m2 m3 m4
      clear c0 c1 hb hO3 hB3 l1 l2 l3 l4
      go_upto_region 4 with fail
      obtain ⟨w5, hw5⟩ : ∃ w5, w5 = w4.alloc (.cells #[.slice ua n uc, .slice da n dc, .slice xa n xc, .slice ba n bc] 62) := ⟨_, rfl⟩
      have hP : w5.heap[w4.heap.size]? = some (.cells #[.slice ua n uc, .slice da n dc, .slice xa n xc, .slice ba n bc] 62 (0, 0)) := by rw [hw5]; exact World.alloc_heap_new _ _
      have hb5 : RowKit.Below w4.heap.size w4 w5 := by rw [hw5]; exact below_alloc _ _
      rw [← hw5]
      clear hw5
      have hB5 := hB4.trans (hb5.mono hB4.size)
      have hO5 := hO4.below hb5
      have hT5 := hT4.below hb5
      obtain ⟨p, hp⟩ : ∃ p, w4.heap.size = p := ⟨_, rfl⟩
      rw [hp] at hP ⊢
      clear hp hb5 hB4 hO4 hT4
      have HC : Hid (∀ V, RowKit.Below w5.heap.size w5 V → (V.cell? ⟨w.heap.size, 0, none⟩ = some (.bool fold) ∧ V.cell? ⟨w.heap.size, 1, none⟩ = some (.slice a la ca)) ∧ V.cell? ⟨p, 0, none⟩ = some (.slice ua n uc) ∧ V.cell? ⟨p, 1, none⟩ = some (.slice da n dc) ∧ V.cell? ⟨p, 2, none⟩ = some (.slice xa n xc) ∧ V.cell? ⟨p, 3, none⟩ = some (.slice ba n bc)) := fun V hV => by
        have e := (hV.block _ (Array.getElem?_eq_some_iff.1 hP).1).trans hP
        have hO := hO5.below hV
        exact ⟨⟨hO.cell (i := 0) rfl rfl, hO.cell (i := 0) rfl rfl⟩, by simp [World.cell?, e]⟩
      have hA5 := hA.below hB5
      have HA5 := Lib.hid hA5
      have HT5 := Lib.hid hT5
      have HB5 := Lib.hid hB5
      clear hP hO5 hA5 hT5 hB5
      have HX := Lib.hid (hX.below HB5.out)
      have HXL := Lib.hid hX.len
      have HRD := Lib.hid (readP_trie HR0.out)
      obtain ⟨⟨c0, c1⟩, c2, c3, c4, c5⟩ := HC.out w5 (RowKit.Below.refl _ _)
      go_wp2_with fail
      refine (tfind_any ⟨ua, n, uc, da, n, dc, xa, n, xc, ba, n, bc⟩ (trieP wss) b lb cb x w5 HT5.out (by dsimp only; omega) HX.out).mono ?_
      rintro e w6 ⟨rfl, hBq⟩
      obtain ⟨R, hR⟩ : ∃ R, findT (trieP wss) x = R := ⟨_, rfl⟩
      rw [hR]
      obtain ⟨jj, ok⟩ := R
      have HFT := Lib.hid hR
      clear hR c0 c1 c2 c3 c4 c5
      obtain ⟨⟨c0, c1⟩, c2, c3, c4, c5⟩ := HC.out w6 hBq
      go_wp2
      clear c0 c1 c2 c3 c4 c5
      go_loopw [9, 10] (fun s9 s10 wr => ∃ (k : Nat) (B : Bool), k ≤ la ∧ s10 = .int .i64 k ∧ s9 = .bool B ∧ Hid (B = (wss.take k).any fun y => atL false y (x.length : Int) x) ∧ RowKit.Below w5.heap.size w5 wr) (fun _ s10 _ => la - (intOf s10).toNat)
      case atStart => exact ⟨0, false, Nat.zero_le _, rfl, rfl, (by simp [Hid]), hBq⟩
      case round =>
        clear hBq
        obtain ⟨k, B, hk, rfl, rfl, HBB, hBr⟩ := hrel
        by_cases hkl : k < la
        · have hdk : decide ((k : Int) < la) = true := by simp; omega
          obtain ⟨bb, off, aw, lw, cw, y, hbb, hbl, hcell, hy, hY, hlc⟩ := (HA5.out.below hBr).at_ hkl
          subst hbb
          obtain ⟨⟨c0, c1⟩, c2, c3, c4, c5⟩ := HC.out wr hBr
          have i1 : (0 : Int) ≤ (k : Int) := by omega
          have i2 : (k : Int) < (la : Int) := by omega
          have hlw : lw ≤ 1000000 := by have := mem_bd HM.out hy; rw [hY.len] at this; exact this
          have HYY := Lib.hid hy
          cases B with
          | true =>
            have HN2 : Hid (true = (wss.take (k + 1)).any fun y => atL false y (x.length : Int) x) := by
              rw [Hid, take_step HYY.out, List.any_append, ← HBB.out]; rfl
            clear hy hY
            go_wp2
            go_roundw
            case rel => exact ⟨k + 1, true, by omega, by go_num, rfl, HN2, hBr⟩
            case measure => simp [intOf]; omega
          | false =>
            obtain ⟨C, hC⟩ : ∃ C, atL false y (x.length : Int) x = C := ⟨_, rfl⟩
            have s := rat_any false aw b lw cw lb cb (lb : Int) y x wr hY (HX.out.below hBr) hlc (by omega) (by omega) (by omega)
            rw [show (lb : Int) = (x.length : Int) by rw [HXL.out], hC, HXL.out] at s
            have HS := Lib.hid s
            have HN2 : Hid (C = (wss.take (k + 1)).any fun y => atL false y (x.length : Int) x) := by
              rw [Hid, take_step HYY.out, List.any_append, ← HBB.out]; simp [hC]
            clear hy hY s hC
            go_wp2_with fail
            refine HS.out.mono ?_
            rintro e w7 ⟨rfl, hb⟩
            go_wp2
            go_roundw
            case rel => exact ⟨k + 1, C, by omega, by go_num, rfl, HN2, hBr.trans (hb.mono hBr.size)⟩
            case measure => simp [intOf]; omega
        · obtain rfl : k = la := by omega
          have hdk : decide ((k : Int) < k) = false := by simp
          have hwne : wss ≠ [] := (right_spec HR0.out).2.1
          have hBB := HBB.out
          rw [List.take_of_length_le (by rw [HWL.out]; exact Nat.le_refl _), begins_node hwne] at hBB
          obtain ⟨⟨c0, c1⟩, c2, c3, c4, c5⟩ := HC.out wr hBr
          by_cases hm : x ∈ nodesL wss
          · obtain ⟨j, hj⟩ := List.getElem?_of_mem hm
            have hFT : findT (trieP wss) x = ((j : Int), true) := by unfold findT; rw [HRD.out]; exact findP_at (nodesL_srt wss).nodup hj
            rw [HFT.out] at hFT
            injection hFT with e1 e2
            subst e1 e2
            obtain rfl : B = true := by rw [hBB, decide_eq_true hm]
            have hSP : spellT (trieP wss) (j : Int) = some x := by unfold spellT; rw [HRD.out]; dsimp only; rw [if_neg (by omega), Int.toNat_natCast, hj]
            have KS := Lib.hid (tspell_any ⟨ua, n, uc, da, n, dc, xa, n, xc, ba, n, bc⟩ (trieP wss) (j : Int) wr (HT5.out.below hBr) (by dsimp only; omega))
            have HSP := Lib.hid hSP
            clear hSP hm hj hBB HFT HBB
            go_wp2_with fail
            refine KS.out.mono ?_
            rintro e w8 ⟨h1, _, hb8⟩
            obtain ⟨sa, sc, rfl, hSB, hsc⟩ := h1 _ HSP.out
            have hB8 := hBr.trans (hb8.mono hBr.size)
            have g1 := conv_bys hSB sc
            have g2 := conv_bys (HX.out.below hB8) cb
            have hBf : Hid (RowKit.Below w.heap.size w w8) := HB5.out.trans (hB8.mono HB5.out.size)
            clear h1 c0 c1 c2 c3 c4 c5 hSB
            go_wp2_with fail
            refine (wakes7 w8).mono ?_
            rintro e w9 ⟨rfl, hb9⟩
            go_wp2
            go_ret
            exact ⟨rfl, hBf.out.trans (hb9.mono hBf.out.size)⟩
          · have hFT : findT (trieP wss) x = (0, false) := by unfold findT; rw [HRD.out]; exact findP_no hm
            rw [HFT.out] at hFT
            injection hFT with e1 e2
            subst e1 e2
            obtain rfl : B = false := by rw [hBB, decide_eq_false hm]
            have hSP : spellT (trieP wss) 0 = some [] := by unfold spellT; rw [HRD.out]; exact nodesL_head wss
            have KS := Lib.hid (tspell_any ⟨ua, n, uc, da, n, dc, xa, n, xc, ba, n, bc⟩ (trieP wss) 0 wr (HT5.out.below hBr) (by dsimp only; omega))
            have HSP := Lib.hid hSP
            clear hSP hm hBB HFT HBB
            go_wp2_with fail
            refine KS.out.mono ?_
            rintro e w8 ⟨h1, _, hb8⟩
            obtain ⟨sa, sc, rfl, hSB, hsc⟩ := h1 _ HSP.out
            have hB8 := hBr.trans (hb8.mono hBr.size)
            have hBf : Hid (RowKit.Below w.heap.size w w8) := HB5.out.trans (hB8.mono HB5.out.size)
            clear h1 c0 c1 c2 c3 c4 c5 hSB
            go_wp2_with fail
            refine (wakes7 w8).mono ?_
            rintro e w9 ⟨rfl, hb9⟩
            go_wp2
            go_ret
            exact ⟨rfl, hBf.out.trans (hb9.mono hBf.out.size)⟩

end Go.Proofs.Ytmpmjkbjnklgfaa

/- The law that nodes stand in order (layer 7), walked. Printed by gen_vc.py. -/


namespace Go.Proofs.Ytmpmjkbjnklgfaa
open Go.RowKit Go.Sort
set_option linter.unusedVariables false
set_option linter.unusedSimpArgs false

theorem bytesLess_lex : ∀ {x y : Byt}, x.length = y.length → Go.Op.bytesLess x y = lexB (toI x) (toI y)
  | [], [], _ => rfl
  | [], _ :: _, h => by simp at h
  | _ :: _, [], h => by simp at h
  | a :: x, b :: y, h => by
    have ih := bytesLess_lex (x := x) (y := y) (by simpa using h)
    have h1 : toI (a :: x) = (a.toNat : Int) :: toI x := rfl
    have h2 : toI (b :: y) = (b.toNat : Int) :: toI y := rfl
    rw [h1, h2]
    unfold Go.Op.bytesLess lexB
    rw [ih]
    have e1 : decide (a < b) = decide ((a.toNat : Int) < b.toNat) := by rw [decide_eq_decide, UInt8.lt_iff_toNat_lt]; omega
    have e2 : (a == b) = decide ((a.toNat : Int) = b.toNat) := by
      rw [Bool.eq_iff_iff, beq_iff_eq, decide_eq_true_iff, ← UInt8.toNat_inj]; omega
    rw [e1, e2]
    by_cases g1 : (a.toNat : Int) < b.toNat
    · simp [g1]
    · by_cases g2 : (b.toNat : Int) < a.toNat
      · have g3 : ¬ (a.toNat : Int) = b.toNat := by omega
        simp [g1, g2, g3]
      · have g3 : (a.toNat : Int) = b.toNat := by omega
        rw [if_neg g1, if_neg g2, decide_eq_false g1, decide_eq_true g3]
        simp
theorem wrap64_in2 (n : Int) (h : -9223372036854775808 ≤ n ∧ n ≤ 9223372036854775807) : wrap64 n = n := by unfold wrap64; omega
theorem toList_ofI (x : List Int) : (strOfNums x).toList = ofI x := by
  rw [ByteArray.toList_eq, strOf_eq]
  simp [strB]
theorem leq_no {x y : List Int} (hx : ∀ c ∈ x, 0 ≤ c ∧ c ≤ 255) (hy : ∀ c ∈ y, 0 ≤ c ∧ c ≤ 255) (h : ltS y x = true) (hl : x.length = y.length) :
    Go.Op.bytesLess (strOfNums x).toList (strOfNums y).toList = false ∧ ((strOfNums x).toList == (strOfNums y).toList) = false ∧ ¬ (strOfNums x).toList = (strOfNums y).toList := by
  have e1 : (strOfNums x).toList = ofI x := toList_ofI x
  have e2 : (strOfNums y).toList = ofI y := toList_ofI y
  have h1 : lexB y x = true := by unfold ltS at h; rw [if_neg (by omega), if_neg (by omega)] at h; exact h
  have h2 : lexB x y = false := by
    have h3 := ltS_asymm h
    unfold ltS at h3
    rw [if_neg (by omega), if_neg (by omega)] at h3
    exact h3
  have h4 : Go.Op.bytesLess (ofI x) (ofI y) = false := by
    rw [bytesLess_lex (by simpa [ofI] using hl), toI_ofI hx, toI_ofI hy]; exact h2
  have h5 : (ofI x == ofI y) = false := by
    rw [Bool.eq_false_iff, Ne, beq_iff_eq]
    intro e
    have e3 := congrArg toI e
    rw [toI_ofI hx, toI_ofI hy] at e3
    rw [e3, ltS_irrefl] at h
    cases h
  rw [e1, e2]
  exact ⟨h4, h5, by simpa using h5⟩
theorem Bys.setI {w : World} {a : Option Addr} {n : Nat} {x : List Int} (h : Bys w a n x) {g i : Nat} {l : List Int} {t : TypeId} (hg : w.heap[g]? = some (.cells (l.map (Value.int .i64)).toArray t (0, 0))) (u : Value) : Bys (w.setCell ⟨g, i, none⟩ u) a n x := by
  refine ⟨⟨h.1.1, ?_⟩, h.2⟩
  rcases h.1.2 with h0 | ⟨b, off, e, hlt, hc⟩
  · exact .inl h0
  · by_cases hn : x = []
    · left; have := h.1.1; rw [hn] at this; simpa using this.symm
    · refine .inr ⟨b, off, e, by simpa [World.setCell] using hlt, fun j y hy => ?_⟩
      have hbg : g ≠ b := by
        rintro rfl
        have hj := hc j y hy
        rw [cell_of_row w g (off + j) _ _ _ hg] at hj
        simp only [List.getElem?_toArray, List.getElem?_map, Option.map_eq_some_iff] at hj
        obtain ⟨v, _, hv⟩ := hj
        cases hv
      rw [World.cell?_setCell_far _ _ _ _ hbg]
      exact hc j y hy

set_option maxRecDepth 100000 in
set_option maxHeartbeats 8000000 in
theorem trieOrder_walk (fold : Bool) (a : Option Addr) (la ca : Nat) (wss : List (List Int)) (w : World) (hA : Wds w a la wss) :
    Calls Try.prog 10 #[.agg (setV fold a la ca)] w fun e w' => e = .returned (.bool true) ∧ Below w.heap.size w w' := by
  obtain ⟨W1, hW1⟩ : ∃ W1, W1 = w.alloc (.cells (setV fold a la ca) 39) := ⟨_, rfl⟩
  have hB1 : Below w.heap.size w W1 := by rw [hW1]; exact below_alloc _ _
  have hO1 : Bx w.heap.size [.cells (setV fold a la ca) 39] W1 := by rw [hW1]; exact (Bx.nil _ w).snoc _ rfl
  have HGC := Lib.hid (great5_any fold a la ca wss W1 (hA.below hB1))
  have c0 : W1.cell? ⟨w.heap.size, 0, none⟩ = some (.bool fold) := hO1.cell (i := 0) rfl rfl
  have c1 : W1.cell? ⟨w.heap.size, 1, none⟩ = some (.slice a la ca) := hO1.cell (i := 0) rfl rfl
  cases hg : greatP wss with
  | true =>
    have HG := Lib.hid hg
    clear hg
    go_enter Try.func10, Try.ntmps10
    go_wp2_with fail
    rw [← hW1]
    refine HGC.out.mono ?_
    rintro e w2 ⟨rfl, hb⟩
    rw [HG.out]
    have hB2 : RowKit.Below w.heap.size w w2 := hB1.trans (hb.mono hB1.size)
    clear c0 c1 hb
    go_wp2_with fail
    refine (wakes7 w2).mono ?_
    rintro e w9 ⟨rfl, hb9⟩
    go_wp2
    go_ret
    exact ⟨rfl, hB2.trans (hb9.mono hB2.size)⟩
  | false =>
    obtain ⟨g1, g2, g3⟩ := great_bd hg fold
    have HG := Lib.hid hg
    have HWL := Lib.hid hA.len
    have hla : la ≤ 1000 := by rw [← hA.len]; omega
    have HM := Lib.hid (show ∀ x ∈ wss, x.length ≤ 1000000 from fun z hz => by have := g2 z hz; omega)
    have hBL : (begL fold wss).length ≤ 1000000 := by omega
    clear hg g2 g3
    cases hr : rightR fold wss with
    | false =>
      have HR := Lib.hid hr
      clear hr
      go_enter Try.func10, Try.ntmps10
      go_wp2_with fail
      rw [← hW1]
      refine HGC.out.mono ?_
      rintro e w2 ⟨rfl, hb⟩
      rw [HG.out]
      have hB2 : RowKit.Below w.heap.size w w2 := hB1.trans (hb.mono hB1.size)
      have hO2 := hO1.below hb
      clear c0 c1 hb
      have c0 : w2.cell? ⟨w.heap.size, 0, none⟩ = some (.bool fold) := hO2.cell (i := 0) rfl rfl
      have c1 : w2.cell? ⟨w.heap.size, 1, none⟩ = some (.slice a la ca) := hO2.cell (i := 0) rfl rfl
      go_wp2_with fail
      refine (rright_any fold a la ca wss w2 (hA.below hB2) (by omega) HM.out).mono ?_
      rintro e w3 ⟨rfl, hb⟩
      rw [HR.out]
      have hB3 : RowKit.Below w.heap.size w w3 := hB2.trans (hb.mono hB2.size)
      clear c0 c1 hb hO2
      go_wp2_with fail
      refine (wakes7 w3).mono ?_
      rintro e w9 ⟨rfl, hb9⟩
      go_wp2
      go_ret
      exact ⟨rfl, hB3.trans (hb9.mono hB3.size)⟩
    | true =>
      have HR := Lib.hid hr
      have hrp : rightP fold wss = true := by rw [right_eq]; exact hr
      have hr0 := right_false hrp
      have HR0 := Lib.hid hr0
      have HRP := Lib.hid hrp
      have hn2 := nodes_two hr0
      have hn4 := (right_nodes hr0).2
      have hwn := words_lt hr0
      have hlw : wss.length = la := hA.len
      obtain ⟨n, hn⟩ : ∃ n, n = (nodesL wss).length := ⟨_, rfl⟩
      have HN := Lib.hid hn
      rw [← hn] at hn2 hn4 hwn
      have hlan : la < n := by omega
      clear hr hn hwn hlw hrp hr0
      go_enter Try.func10, Try.ntmps10
      go_wp2_with fail
      rw [← hW1]
      refine HGC.out.mono ?_
      rintro e w2 ⟨rfl, hb⟩
      rw [HG.out]
      have hB2 : RowKit.Below w.heap.size w w2 := hB1.trans (hb.mono hB1.size)
      have hO2 := hO1.below hb
      clear c0 c1 hb hO1 hB1 hW1
      have c0 : w2.cell? ⟨w.heap.size, 0, none⟩ = some (.bool fold) := hO2.cell (i := 0) rfl rfl
      have c1 : w2.cell? ⟨w.heap.size, 1, none⟩ = some (.slice a la ca) := hO2.cell (i := 0) rfl rfl
      go_wp2_with fail
      refine (rright_any fold a la ca wss w2 (hA.below hB2) (by omega) HM.out).mono ?_
      rintro e w3 ⟨rfl, hb⟩
      rw [HR.out]
      have hB3 : RowKit.Below w.heap.size w w3 := hB2.trans (hb.mono hB2.size)
      have hO3 := hO2.below hb
      clear c0 c1 hb hO2 hB2
      have c0 : w3.cell? ⟨w.heap.size, 0, none⟩ = some (.bool fold) := hO3.cell (i := 0) rfl rfl
      have c1 : w3.cell? ⟨w.heap.size, 1, none⟩ = some (.slice a la ca) := hO3.cell (i := 0) rfl rfl
      go_wp2_with fail
      refine (make7_yes fold a la ca wss w3 (hA.below hB3) (by omega) HM.out hBL HRP.out).mono ?_
      rintro e w4 ⟨t, rfl, hT4, hb⟩
      have hB4 : RowKit.Below w.heap.size w w4 := hB3.trans (hb.mono hB3.size)
      have hO4 := hO3.below hb
      obtain ⟨l1, l2, l3, l4⟩ := trie_lens (ws := wss)
      have htl : n = t.un ∧ n = t.dn ∧ n = t.xn ∧ n = t.bn := by
        have q0 := HN.out
        have q1 := hT4.up.1; have q2 := hT4.dep.1; have q3 := hT4.wrd.1; have q4 := hT4.byt.1.1
        omega
      obtain ⟨ua, un, uc, da, dn, dc, xa, xn, xc, ba, bn, bc⟩ := t
      dsimp only at htl
      obtain ⟨m1, m2, m3, m4⟩ := htl
      subst m1 m2 m3 m4
      clear c0 c1 hb hO3 hB3 l1 l2 l3 l4
      go_upto_region 4 with fail
      obtain ⟨w5, hw5⟩ : ∃ w5, w5 = w4.alloc (.cells #[.slice ua n uc, .slice da n dc, .slice xa n xc, .slice ba n bc] 62) := ⟨_, rfl⟩
      have hP : w5.heap[w4.heap.size]? = some (.cells #[.slice ua n uc, .slice da n dc, .slice xa n xc, .slice ba n bc] 62 (0, 0)) := by rw [hw5]; exact World.alloc_heap_new _ _
      have hb5 : RowKit.Below w4.heap.size w4 w5 := by rw [hw5]; exact below_alloc _ _
      rw [← hw5]
      clear hw5
      have hB5 := hB4.trans (hb5.mono hB4.size)
      have hO5 := hO4.below hb5
      have hT5 := hT4.below hb5
      obtain ⟨p, hp⟩ : ∃ p, w4.heap.size = p := ⟨_, rfl⟩
      rw [hp] at hP ⊢
      clear hp hb5 hB4 hO4 hT4
      have HC : Hid (∀ V, RowKit.Below w5.heap.size w5 V → (V.cell? ⟨w.heap.size, 0, none⟩ = some (.bool fold) ∧ V.cell? ⟨w.heap.size, 1, none⟩ = some (.slice a la ca)) ∧ V.cell? ⟨p, 0, none⟩ = some (.slice ua n uc) ∧ V.cell? ⟨p, 1, none⟩ = some (.slice da n dc) ∧ V.cell? ⟨p, 2, none⟩ = some (.slice xa n xc) ∧ V.cell? ⟨p, 3, none⟩ = some (.slice ba n bc)) := fun V hV => by
        have e := (hV.block _ (Array.getElem?_eq_some_iff.1 hP).1).trans hP
        have hO := hO5.below hV
        exact ⟨⟨hO.cell (i := 0) rfl rfl, hO.cell (i := 0) rfl rfl⟩, by simp [World.cell?, e]⟩
      have hA5 := hA.below hB5
      have HA5 := Lib.hid hA5
      have HT5 := Lib.hid hT5
      have HB5 := Lib.hid hB5
      clear hP hO5 hA5 hT5 hB5
      have HRD := Lib.hid (readP_trie HR0.out)
      have s2 := tmany_any ⟨ua, n, uc, da, n, dc, xa, n, xc, ba, n, bc⟩ (trieP wss) w5 HT5.out (by dsimp only; omega)
      have e2 : manyT (trieP wss) = (n : Int) := by unfold manyT; rw [HRD.out]; dsimp only; rw [trie_lens.1, ← HN.out]
      rw [e2] at s2
      have S2 := Lib.hid s2
      clear s2 e2
      obtain ⟨⟨c0, c1⟩, c2, c3, c4, c5⟩ := HC.out w5 (RowKit.Below.refl _ _)
      go_wp2_with fail
      refine S2.out.mono ?_
      rintro e w6 ⟨rfl, hBq⟩
      clear c0 c1 c2 c3 c4 c5
      obtain ⟨⟨c0, c1⟩, c2, c3, c4, c5⟩ := HC.out w6 hBq
      have hmk : ∀ V : World, (Instr.makeSlice 24 (.int .i64 n) (.int .i64 n)).run Try.prog V = .ok (.slice (some ⟨V.heap.size, 0, none⟩) n n) (V.alloc (.cells (intsNil n) 3)) := fun V => by
        obtain ⟨i0, hi, hz0, hz1, hz2⟩ := info_parts i64_info7
        have h := run_makeSlice (P := Try.prog) (w := V) 24 3 i0 (.int .i64 0) Try.underlying24 hi hz0 .i64 .i64 (n : Int) (n : Int) (by omega) (by omega) (by rw [hz1]; omega) (by rw [hz2]; omega) (by omega)
        rw [hz1] at h
        have e1 : (n : Int).toNat * 1 = n := by omega
        rw [e1, made_ints, Int.toNat_natCast] at h
        exact h
      have dn2 : decide ((n : Int) < 2) = false := by simp; omega
      go_upto_region 9 with fail
      clear hmk dn2 c0 c1 c2 c3 c4 c5
      obtain ⟨V, hV⟩ : ∃ V, V = w6.alloc (.cells (intsNil n) 3) := ⟨_, rfl⟩
      obtain ⟨q, hq⟩ : ∃ q, q = w6.heap.size := ⟨_, rfl⟩
      have hI : IntRow q (List.replicate n 0) V := by rw [hV, hq]; exact IntRow.new w6 n
      have hBV : RowKit.Below w5.heap.size w5 V := by rw [hV]; exact hBq.alloc hBq.size _
      have hqs : w5.heap.size ≤ q := by rw [hq]; exact hBq.size
      rw [← hV, ← hq]
      clear hV hq hBq
      go_wp2
      go_loopw [6, 8, 9, 10, 11, 12, 13, 14, 15] (fun s6 s8 _ _ _ _ _ _ _ wr => ∃ (i : Nat) (l : List Int) (A : Option Addr) (m c : Nat) (y : List Int), 1 ≤ i ∧ i ≤ n ∧ s8 = .int .i64 i ∧ s6 = .slice A m c ∧ Hid ((nodesL wss)[i - 1]? = some y) ∧ Bys wr A m y ∧ IntRow q l wr ∧ l.length = n ∧ Hid (∀ v ∈ l, 0 ≤ v ∧ v ≤ (i : Int)) ∧ Hid (∀ j u : Nat, 1 ≤ j → j < i → (trieP wss).up[j]? = some (u : Int) → l[u]? ≠ some 0) ∧ RowKit.Below w5.heap.size w5 wr) (fun _ s8 _ _ _ _ _ _ _ _ => n - (intOf s8).toNat)
      case atStart =>
        refine ⟨1, List.replicate n 0, none, 0, 0, [], Nat.le_refl _, by omega, rfl, rfl, nodesL_head wss, Bys.nil _ _, hI, by simp, ?_, fun j u h1 h2 => by omega, hBV⟩
        intro v hv
        obtain ⟨_, rfl⟩ := List.mem_replicate.1 hv
        omega
      case round =>
        clear hI hBV
        obtain ⟨i, l, A, m, c, y, hi1, hin, rfl, rfl, HY, hYB, hI, hll, HE, HUP, hBr⟩ := hrel
        by_cases hil : i < n
        · have hdi : decide ((i : Int) < n) = true := by simp; omega
          obtain ⟨x, hx⟩ : ∃ x, (nodesL wss)[i]? = some x := ⟨(nodesL wss)[i]'(by rw [← HN.out]; exact hil), by simp⟩
          have hx0 := node_back hi1 hx
          obtain ⟨j, hji, hup, hjx⟩ := trie_up hx hx0
          have hlt := node_lt (i := i - 1) HY.out (by rw [Nat.sub_add_cancel hi1]; exact hx)
          have HX := Lib.hid hx
          have HLT := Lib.hid hlt
          have HU := Lib.hid hup
          have hSP : spellT (trieP wss) (i : Int) = some x := by unfold spellT; rw [HRD.out]; dsimp only; rw [if_neg (by omega), Int.toNat_natCast, hx]
          have HSP := Lib.hid hSP
          have hFT : findT (trieP wss) x = ((i : Int), true) := by unfold findT; rw [HRD.out]; exact findP_at (nodesL_srt wss).nodup hx
          have KS := Lib.hid (tspell_any ⟨ua, n, uc, da, n, dc, xa, n, xc, ba, n, bc⟩ (trieP wss) (i : Int) wr (HT5.out.below hBr) (by dsimp only; omega))
          have hbyt := trie_byt hx
          have hdep := trie_dep hx
          have HBT := Lib.hid hbyt
          have HDP := Lib.hid hdep
          have HFT := Lib.hid hFT
          have hxl : Hid (y.length ≤ x.length) := ltS_len hlt
          obtain ⟨⟨c0, c1⟩, c2, c3, c4, c5⟩ := HC.out wr hBr
          clear hx hlt hup hSP hFT hbyt hdep hjx hx0
          go_wp2_with fail
          refine KS.out.mono ?_
          rintro e w7 ⟨h1, _, hb7⟩
          obtain ⟨sa, sc, rfl, hXB, hsc⟩ := h1 _ HSP.out
          have hBr7 := hBr.trans (hb7.mono hBr.size)
          clear h1 c0 c1 c2 c3 c4 c5
          obtain ⟨⟨c0, c1⟩, c2, c3, c4, c5⟩ := HC.out w7 hBr7
          obtain ⟨m2, hm2⟩ : ∃ m2, x.length = m2 := ⟨_, rfl⟩
          rw [hm2] at hXB hsc ⊢
          have HM2 := Lib.hid hm2
          have KF := tfind_any ⟨ua, n, uc, da, n, dc, xa, n, xc, ba, n, bc⟩ (trieP wss) sa m2 sc x w7 (HT5.out.below hBr7) (by dsimp only; omega) hXB
          rw [HFT.out] at KF
          have KF2 := Lib.hid KF
          clear hm2 KF
          go_wp2_with fail
          refine KF2.out.mono ?_
          rintro e w8 ⟨rfl, hb8⟩
          have hBr8 := hBr7.trans (hb8.mono hBr7.size)
          have hb78 : RowKit.Below wr.heap.size wr w8 := hb7.trans (hb8.mono hb7.size)
          clear c0 c1 c2 c3 c4 c5
          obtain ⟨⟨c0, c1⟩, c2, c3, c4, c5⟩ := HC.out w8 hBr8
          obtain ⟨b0, o0, u0, e0, hl0, cu, hu0⟩ := sl1_at (HT5.out.up.below hBr8) (k := i) hil
          subst e0
          obtain rfl : u0 = (j : Int) := by rw [HU.out] at hu0; exact (Option.some.inj hu0).symm
          obtain ⟨b1, o1, u1, e1, hl1, cd, hu1⟩ := sl1_at (HT5.out.dep.below hBr8) (k := i) hil
          subst e1
          obtain rfl : u1 = (m2 : Int) := by rw [HDP.out] at hu1; rw [← HM2.out]; exact (Option.some.inj hu1).symm
          have hXB8 := hXB.below hb8
          have hYB8 := hYB.below hb78
          have hI8 : IntRow q l w8 := (hb78.block q (Array.getElem?_eq_some_iff.1 hI).1).trans hI
          have i1 : (0 : Int) ≤ (i : Int) := by omega
          have i2 : (i : Int) < (n : Int) := by omega
          have i3 : (0 : Int) ≤ (j : Int) := by omega
          have i4 : (j : Int) < (n : Int) := by omega
          have d1 : decide ((j : Int) < 0) = false := by simp
          have d2 : decide ((i : Int) ≤ (j : Int)) = false := by simp; omega
          have hmy : m = y.length := hYB.len.symm
          have d3 : decide ((m2 : Int) < (m : Int)) = false := by have := hxl.out; have := HM2.out; simp; omega
          have n1 : ¬ i ≤ j := by omega
          have n2 : ¬ m2 < m := by have := hxl.out; have := HM2.out; omega
          have n3 : m ≤ m2 := by omega
          have n4 : decide (i ≤ j) = false := by simpa using n1
          have n5 : decide (m2 < m) = false := by simpa using n2
          have hxbd := Lib.hid hXB8.2
          have hybd := Lib.hid hYB8.2
          have HXB8 := Lib.hid hXB8
          have HBR8 := Lib.hid hBr8
          by_cases hlen : x.length = y.length
          · have d4 : ((m2 : Int) == (m : Int)) = true := by have := HM2.out; simp; omega
            have g1 := conv_bys hXB8 sc
            have g2 := conv_bys hYB8 c
            obtain ⟨g3, g4, g5⟩ := leq_no hxbd.out hybd.out HLT.out hlen
            clear hXB8 hYB8 hu0 hu1 hmy hlen
            go_wp2
            clear g1 g2 g3 g4 g5
            have hBg : ∀ d os, RowKit.Below w5.heap.size w5 (grow (redrawn w8 d) os) := fun d os => HBR8.out.trans ((below_regrown w8 d os).mono HBR8.out.size)
            obtain ⟨b3, o3, ch, e3, hl3, cb, hch⟩ := sl1_at (HT5.out.byt.1.below HBR8.out) (k := i) hil
            subst e3
            have hKU : (trieP wss).byt[i]? = some ch := hch
            have f2 : ∀ d os, (grow (redrawn w8 d) os).cell? ⟨p, 0, none⟩ = some (.slice (some ⟨b0, o0, none⟩) n uc) := fun d os => (HC.out _ (hBg d os)).2.1
            have f3 : ∀ d os, (grow (redrawn w8 d) os).cell? ⟨p, 1, none⟩ = some (.slice (some ⟨b1, o1, none⟩) n dc) := fun d os => (HC.out _ (hBg d os)).2.2.1
            have f4 : ∀ d os, (grow (redrawn w8 d) os).cell? ⟨p, 2, none⟩ = some (.slice xa n xc) := fun d os => (HC.out _ (hBg d os)).2.2.2.1
            have f5 : ∀ d os, (grow (redrawn w8 d) os).cell? ⟨p, 3, none⟩ = some (.slice (some ⟨b3, o3, none⟩) n bc) := fun d os => (HC.out _ (hBg d os)).2.2.2.2
            have f6 : ∀ d os, (grow (redrawn w8 d) os).cell? ⟨b3, o3 + i, none⟩ = some (.int .u8 ch) := fun d os => ((below_regrown w8 d os).cell (p := ⟨b3, o3 + i, none⟩) hl3).trans cb
            have hT5' := HT5.out
            have s53 : ∀ d os, Calls Try.prog 53 #[.agg #[.slice (some ⟨b0, o0, none⟩) n uc, .slice (some ⟨b1, o1, none⟩) n dc, .slice xa n xc, .slice (some ⟨b3, o3, none⟩) n bc], .int .i64 j, .int .u8 ch] (grow (redrawn w8 d) os) fun e w' => e = .returned (.tuple #[.int .i64 (i : Int), .bool true]) ∧ RowKit.Below (grow (redrawn w8 d) os).heap.size (grow (redrawn w8 d) os) w' := fun d os =>
              (tkid_any ⟨some ⟨b0, o0, none⟩, n, uc, some ⟨b1, o1, none⟩, n, dc, xa, n, xc, some ⟨b3, o3, none⟩, n, bc⟩ (trieP wss) (j : Int) ch _ (hT5'.below (hBg d os)) (by dsimp only; omega)).mono fun e w' ⟨r, ok, e1, e2, _, e4⟩ => by
                have er : rightT (trieP wss) = true := by unfold rightT; rw [HRD.out]; rfl
                obtain ⟨g1, g2⟩ := kid_self hi1 (by rw [← HN.out]; exact hil) HU.out hKU (e2 er)
                subst g1 g2
                exact ⟨e1, e4⟩
            obtain ⟨v, hv⟩ : ∃ v, l[j]? = some v := ⟨l[j]'(by omega), by simp⟩
            have hvb := HE.out v (List.mem_of_getElem? hv)
            have HV := Lib.hid hv
            have HVB := Lib.hid hvb
            have HHI := Lib.hid hI8
            clear hch cb hKU hT5' hBg hv hvb hI8 c0 c1 c2 c3 c4 c5
            refine wp_region_quiet_below mixed (by kernel_rfl) ?_
            repeat (go_big_quiet_step ((go_at_call 53; exact grown_below (s53 _ _))))
            refine wpQuiet_nil ?_
            rintro _ ⟨⟨dq, osq⟩, rfl⟩
            have hb89 := below_regrown w8 dq osq
            obtain ⟨w9, hw9⟩ : ∃ w9, w9 = grow (redrawn w8 dq) osq := ⟨_, rfl⟩
            rw [← hw9] at hb89 ⊢
            clear hw9 s53 f2 f3 f4 f5 f6
            have hBr9 := HBR8.out.trans (hb89.mono HBR8.out.size)
            have hI9 : IntRow q l w9 := (hb89.block q (Array.getElem?_eq_some_iff.1 HHI.out).1).trans HHI.out
            have cq : w9.cell? ⟨q, j, none⟩ = some (.int .i64 v) := by
              rw [cell_of_row w9 q j _ _ _ hI9]
              simp [HV.out]
            have fq : w9.frozen? ⟨q, j, none⟩ = false := by simp [World.frozen?, show w9.heap[q]? = _ from hI9]
            have hI10 : IntRow q (l.set j (v + 1)) (w9.setCell ⟨q, j, none⟩ (.int .i64 (wrap64 (v + 1)))) := by
              rw [wrap64_in2 (v + 1) (by have := HVB.out; omega)]
              have := set_at (i := j) hI9 (.int .i64 (v + 1))
              unfold IntRow
              simpa [List.map_set] using this
            have hBr10 : RowKit.Below w5.heap.size w5 (w9.setCell ⟨q, j, none⟩ (.int .i64 (wrap64 (v + 1)))) := hBr9.setCell hqs _
            have hX10 : Bys (w9.setCell ⟨q, j, none⟩ (.int .i64 (wrap64 (v + 1)))) sa m2 x := (HXB8.out.below hb89).setI hI9 _
            have hll2 : (l.set j (v + 1)).length = n := by simpa using hll
            have HE2 : Hid (∀ y ∈ l.set j (v + 1), 0 ≤ y ∧ y ≤ ((i + 1 : Nat) : Int)) := fun y hy => by
              have hvb := HVB.out
              rcases List.mem_or_eq_of_mem_set hy with h | rfl
              · have := HE.out y h; omega
              · omega
            have HUP2 : Hid (∀ j' u : Nat, 1 ≤ j' → j' < i + 1 → (trieP wss).up[j']? = some (u : Int) → (l.set j (v + 1))[u]? ≠ some 0) := fun j' u h1 h2 h3 => by
              have hvb := HVB.out
              rw [List.getElem?_set]
              by_cases e : j = u
              · rw [if_pos e]
                split
                · intro h; have := Option.some.inj h; omega
                · intro h; cases h
              · rw [if_neg e]
                by_cases e2 : j' = i
                · subst e2
                  rw [HU.out] at h3
                  have := Option.some.inj h3
                  omega
                · exact HUP.out j' u h1 (by omega) h3
            have HX2 : Hid ((nodesL wss)[i + 1 - 1]? = some x) := by rw [Hid, Nat.add_sub_cancel]; exact HX.out
            have d7 : ((i : Int) != (i : Int)) = false := by simp
            clear hI9
            go_wp2
            go_roundw
            case rel => exact ⟨i + 1, _, sa, m2, sc, x, by omega, by omega, by go_num, rfl, HX2, hX10, hI10, hll2, HE2, HUP2, hBr10⟩
            case measure => simp [intOf]; omega
          · have d4 : ((m2 : Int) == (m : Int)) = false := by have := HM2.out; simp; omega
            clear hXB8 hYB8 hu0 hu1 hmy hlen
            go_wp2
            have hBg : ∀ d os, RowKit.Below w5.heap.size w5 (grow (redrawn w8 d) os) := fun d os => HBR8.out.trans ((below_regrown w8 d os).mono HBR8.out.size)
            obtain ⟨b3, o3, ch, e3, hl3, cb, hch⟩ := sl1_at (HT5.out.byt.1.below HBR8.out) (k := i) hil
            subst e3
            have hKU : (trieP wss).byt[i]? = some ch := hch
            have f2 : ∀ d os, (grow (redrawn w8 d) os).cell? ⟨p, 0, none⟩ = some (.slice (some ⟨b0, o0, none⟩) n uc) := fun d os => (HC.out _ (hBg d os)).2.1
            have f3 : ∀ d os, (grow (redrawn w8 d) os).cell? ⟨p, 1, none⟩ = some (.slice (some ⟨b1, o1, none⟩) n dc) := fun d os => (HC.out _ (hBg d os)).2.2.1
            have f4 : ∀ d os, (grow (redrawn w8 d) os).cell? ⟨p, 2, none⟩ = some (.slice xa n xc) := fun d os => (HC.out _ (hBg d os)).2.2.2.1
            have f5 : ∀ d os, (grow (redrawn w8 d) os).cell? ⟨p, 3, none⟩ = some (.slice (some ⟨b3, o3, none⟩) n bc) := fun d os => (HC.out _ (hBg d os)).2.2.2.2
            have f6 : ∀ d os, (grow (redrawn w8 d) os).cell? ⟨b3, o3 + i, none⟩ = some (.int .u8 ch) := fun d os => ((below_regrown w8 d os).cell (p := ⟨b3, o3 + i, none⟩) hl3).trans cb
            have hT5' := HT5.out
            have s53 : ∀ d os, Calls Try.prog 53 #[.agg #[.slice (some ⟨b0, o0, none⟩) n uc, .slice (some ⟨b1, o1, none⟩) n dc, .slice xa n xc, .slice (some ⟨b3, o3, none⟩) n bc], .int .i64 j, .int .u8 ch] (grow (redrawn w8 d) os) fun e w' => e = .returned (.tuple #[.int .i64 (i : Int), .bool true]) ∧ RowKit.Below (grow (redrawn w8 d) os).heap.size (grow (redrawn w8 d) os) w' := fun d os =>
              (tkid_any ⟨some ⟨b0, o0, none⟩, n, uc, some ⟨b1, o1, none⟩, n, dc, xa, n, xc, some ⟨b3, o3, none⟩, n, bc⟩ (trieP wss) (j : Int) ch _ (hT5'.below (hBg d os)) (by dsimp only; omega)).mono fun e w' ⟨r, ok, e1, e2, _, e4⟩ => by
                have er : rightT (trieP wss) = true := by unfold rightT; rw [HRD.out]; rfl
                obtain ⟨g1, g2⟩ := kid_self hi1 (by rw [← HN.out]; exact hil) HU.out hKU (e2 er)
                subst g1 g2
                exact ⟨e1, e4⟩
            obtain ⟨v, hv⟩ : ∃ v, l[j]? = some v := ⟨l[j]'(by omega), by simp⟩
            have hvb := HE.out v (List.mem_of_getElem? hv)
            have HV := Lib.hid hv
            have HVB := Lib.hid hvb
            have HHI := Lib.hid hI8
            clear hch cb hKU hT5' hBg hv hvb hI8 c0 c1 c2 c3 c4 c5
            refine wp_region_quiet_below mixed (by kernel_rfl) ?_
            repeat (go_big_quiet_step ((go_at_call 53; exact grown_below (s53 _ _))))
            refine wpQuiet_nil ?_
            rintro _ ⟨⟨dq, osq⟩, rfl⟩
            have hb89 := below_regrown w8 dq osq
            obtain ⟨w9, hw9⟩ : ∃ w9, w9 = grow (redrawn w8 dq) osq := ⟨_, rfl⟩
            rw [← hw9] at hb89 ⊢
            clear hw9 s53 f2 f3 f4 f5 f6
            have hBr9 := HBR8.out.trans (hb89.mono HBR8.out.size)
            have hI9 : IntRow q l w9 := (hb89.block q (Array.getElem?_eq_some_iff.1 HHI.out).1).trans HHI.out
            have cq : w9.cell? ⟨q, j, none⟩ = some (.int .i64 v) := by
              rw [cell_of_row w9 q j _ _ _ hI9]
              simp [HV.out]
            have fq : w9.frozen? ⟨q, j, none⟩ = false := by simp [World.frozen?, show w9.heap[q]? = _ from hI9]
            have hI10 : IntRow q (l.set j (v + 1)) (w9.setCell ⟨q, j, none⟩ (.int .i64 (wrap64 (v + 1)))) := by
              rw [wrap64_in2 (v + 1) (by have := HVB.out; omega)]
              have := set_at (i := j) hI9 (.int .i64 (v + 1))
              unfold IntRow
              simpa [List.map_set] using this
            have hBr10 : RowKit.Below w5.heap.size w5 (w9.setCell ⟨q, j, none⟩ (.int .i64 (wrap64 (v + 1)))) := hBr9.setCell hqs _
            have hX10 : Bys (w9.setCell ⟨q, j, none⟩ (.int .i64 (wrap64 (v + 1)))) sa m2 x := (HXB8.out.below hb89).setI hI9 _
            have hll2 : (l.set j (v + 1)).length = n := by simpa using hll
            have HE2 : Hid (∀ y ∈ l.set j (v + 1), 0 ≤ y ∧ y ≤ ((i + 1 : Nat) : Int)) := fun y hy => by
              have hvb := HVB.out
              rcases List.mem_or_eq_of_mem_set hy with h | rfl
              · have := HE.out y h; omega
              · omega
            have HUP2 : Hid (∀ j' u : Nat, 1 ≤ j' → j' < i + 1 → (trieP wss).up[j']? = some (u : Int) → (l.set j (v + 1))[u]? ≠ some 0) := fun j' u h1 h2 h3 => by
              have hvb := HVB.out
              rw [List.getElem?_set]
              by_cases e : j = u
              · rw [if_pos e]
                split
                · intro h; have := Option.some.inj h; omega
                · intro h; cases h
              · rw [if_neg e]
                by_cases e2 : j' = i
                · subst e2
                  rw [HU.out] at h3
                  have := Option.some.inj h3
                  omega
                · exact HUP.out j' u h1 (by omega) h3
            have HX2 : Hid ((nodesL wss)[i + 1 - 1]? = some x) := by rw [Hid, Nat.add_sub_cancel]; exact HX.out
            have d7 : ((i : Int) != (i : Int)) = false := by simp
            clear hI9
            go_wp2
            go_roundw
            case rel => exact ⟨i + 1, _, sa, m2, sc, x, by omega, by omega, by go_num, rfl, HX2, hX10, hI10, hll2, HE2, HUP2, hBr10⟩
            case measure => simp [intOf]; omega
        · obtain rfl : i = n := by omega
          have hdi : decide ((i : Int) < i) = false := by simp
          have HUPP := Lib.hid HUP.out
          have hq9 : q < wr.heap.size := (Array.getElem?_eq_some_iff.1 hI).1
          obtain ⟨V2, hV2⟩ : ∃ V, V = wr := ⟨_, rfl⟩
          subst hV2
          have HI := Lib.hid hI
          have HBR := Lib.hid hBr
          have hcl : ∀ W, RowKit.Below V2.heap.size V2 W → RowKit.Below w5.heap.size w5 W := fun W h => HBR.out.trans (h.mono HBR.out.size)
          have HCL := Lib.hid hcl
          clear hI hBr hcl hYB HY
          go_wp2
          go_loopw [16] (fun s16 wr => ∃ k : Nat, k ≤ i ∧ s16 = .int .i64 k ∧ RowKit.Below V2.heap.size V2 wr) (fun s16 _ => i - (intOf s16).toNat)
          case atStart => exact ⟨0, Nat.zero_le _, rfl, RowKit.Below.refl _ _⟩
          case round =>
            obtain ⟨k, hk, rfl, hBk⟩ := hrel
            obtain ⟨⟨c0, c1⟩, c2, c3, c4, c5⟩ := HC.out wr (HCL.out wr hBk)
            by_cases hki : k < i
            · have hdk : decide ((k : Int) < i) = true := by simp; omega
              obtain ⟨v, hv⟩ : ∃ v, l[k]? = some v := ⟨l[k]'(by omega), by simp⟩
              have cq : wr.cell? ⟨q, k, none⟩ = some (.int .i64 v) := by
                rw [cell_of_row wr q k _ _ _ ((hBk.block q hq9).trans HI.out)]
                simp [hv]
              have i1 : (0 : Int) ≤ (k : Int) := by omega
              have i2 : (k : Int) < (i : Int) := by omega
              by_cases hv0 : v = 0
              · have dv : (v == 0) = true := by simpa using hv0
                obtain ⟨b2, o2, g, e2, hl2, cg, hg⟩ := sl1_at ((HT5.out.wrd).below (HCL.out wr hBk)) (k := k) hki
                subst e2
                have hg0 : 0 ≤ g := by
                  obtain ⟨x, hx⟩ : ∃ x, (nodesL wss)[k]? = some x := ⟨(nodesL wss)[k]'(by rw [← HN.out]; exact hki), by simp⟩
                  rw [trie_wrd hx] at hg
                  have hge := Option.some.inj hg
                  by_cases hm : x ∈ wss
                  · rw [← hge]; unfold placeS; rw [if_pos hm]; omega
                  · exfalso
                    obtain ⟨j, j1, j2, j3⟩ := has_kid ((right_spec HR0.out).2.1) hx hm
                    exact HUPP.out j k j1 (by rw [HN.out]; exact j2) j3 (by rw [hv, hv0])
                have dg : decide (g < 0) = false := by simp; omega
                clear hv hg hv0
                go_wp2
                go_roundw
                case rel => exact ⟨k + 1, by omega, by go_num, hBk⟩
                case measure => simp [intOf]; omega
              · have dv : (v == 0) = false := by simpa using hv0
                clear hv hv0
                go_wp2
                go_roundw
                case rel => exact ⟨k + 1, by omega, by go_num, hBk⟩
                case measure => simp [intOf]; omega
            · obtain rfl : k = i := by omega
              have hdk : decide ((k : Int) < k) = false := by simp
              have hBf := HCL.out wr hBk
              have HBF : Hid (RowKit.Below w.heap.size w wr) := HB5.out.trans (hBf.mono HB5.out.size)
              have hn0 : 0 < k := by omega
              obtain ⟨b0, o0, u0, e0, hl0, cu, hu0⟩ := sl1_at (HT5.out.up.below hBf) (k := 0) hn0
              subst e0
              obtain rfl : u0 = 0 := by rw [trie_up0] at hu0; exact (Option.some.inj hu0).symm
              obtain ⟨b1, o1, u1, e1, hl1, cd, hu1⟩ := sl1_at (HT5.out.dep.below hBf) (k := 0) hn0
              subst e1
              obtain rfl : u1 = 0 := by rw [trie_dep (nodesL_head wss)] at hu1; exact (Option.some.inj hu1).symm
              obtain ⟨b2, o2, u2', e2, hl2, cw, hu2⟩ := sl1_at (HT5.out.wrd.below hBf) (k := 0) hn0
              subst e2
              obtain rfl : u2' = -1 := by
                rw [trie_wrd (nodesL_head wss)] at hu2
                have := Option.some.inj hu2
                rw [← this, placeS_no]
                exact fun hm => ((right_spec HR0.out).2.2.1 _ hm).1 rfl
              rw [Nat.add_zero] at cu cd cw
              have i9 : (0 : Int) < (k : Int) := by omega
              clear hu0 hu1 hu2 hBf
              go_wp2_with fail
              refine (wakes7 wr).mono ?_
              rintro e w9 ⟨rfl, hb9⟩
              go_wp2
              go_ret
              exact ⟨rfl, HBF.out.trans (hb9.mono HBF.out.size)⟩

end Go.Proofs.Ytmpmjkbjnklgfaa
