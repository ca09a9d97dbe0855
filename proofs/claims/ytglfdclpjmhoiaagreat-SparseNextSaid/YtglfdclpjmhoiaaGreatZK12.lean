/- Parts of the proof, one behind the other: G6, G7, N1, N2, Av, YI, YM, YN. No condition but what each theorem states. -/
import Derived.Test.YtglfdclpjmhoiaaGreatZK3
import Derived.Test.YtglfdclpjmhoiaaGreatZK6
import Derived.Test.YtglfdclpjmhoiaaGreatZK7
import Derived.Test.YtglfdclpjmhoiaaGreatZK9
import Derived.Test.YtglfdclpjmhoiaaGreatZK10
import Derived.Test.YtglfdclpjmhoiaaGreatZK11
set_option linter.unusedVariables false
set_option linter.unusedSimpArgs false

/- The document's tries (layer 7): which may be; how many nodes; words; a node's bytes; where bytes are found; which are too great; walked. -/

namespace Go.Proofs.YtglfdclpjmhoiaaGreat
open Go.RowKit Go.Sort

set_option maxRecDepth 100000 in
set_option maxHeartbeats 4000000 in
theorem rright7_any (t : TV) (T : TrieT) (w : World) (hT : Tri w t T) (hb : t.un ≤ 140737488351232 ∧ t.dn ≤ 140737488351232 ∧ t.xn ≤ 140737488351232 ∧ t.bn ≤ 140737488351232) :
  Calls Tryz.prog 54 #[.agg t.cells] w fun e w' => e = .returned (.bool (rightT T)) ∧ Below w.heap.size w w' := by
 have HE : Hid (rightT T = rightR7 T) := (rightR7_eq T).symm
 obtain ⟨ua, un, uc, da, dn, dc, xa, xn, xc, ba, bn, bc⟩ := t
 obtain ⟨hb1, hb2, hb3, hb4⟩ := hb
 dsimp only at hb1 hb2 hb3 hb4
 obtain ⟨W, hW⟩ : ∃ W, W = w.alloc (.cells #[.slice ua un uc, .slice da dn dc, .slice xa xn xc, .slice ba bn bc] 34) := ⟨_, rfl⟩
 have hB : Below w.heap.size w W := by rw [hW]; exact below_alloc _ _
 have hO : Bx w.heap.size [.cells #[.slice ua un uc, .slice da dn dc, .slice xa xn xc, .slice ba bn bc] 34] W := by rw [hW]; exact (Bx.nil _ w).snoc _ rfl
 have hT2 := hT.below hB
 have c0 : W.cell? ⟨w.heap.size, 0, none⟩ = some (.slice ua un uc) := hO.cell (i := 0) rfl rfl
 have c1 : W.cell? ⟨w.heap.size, 1, none⟩ = some (.slice da dn dc) := hO.cell (i := 0) rfl rfl
 have c2 : W.cell? ⟨w.heap.size, 2, none⟩ = some (.slice xa xn xc) := hO.cell (i := 0) rfl rfl
 have c3 : W.cell? ⟨w.heap.size, 3, none⟩ = some (.slice ba bn bc) := hO.cell (i := 0) rfl rfl
 have HUL := Lib.hid hT.up.1
 have HXL := Lib.hid hT.wrd.1
 clear hT
 by_cases hs : un ≤ 400 ∧ xn ≤ 400
 ·
  obtain ⟨hs1, hs2⟩ := hs
  have e1 : decide ((400 : Int) < (un : Int)) = false := by simp; omega
  have e1' : decide (400 < un) = false := by simp; omega
  have e2 : decide ((400 : Int) < (xn : Int)) = false := by simp; omega
  have e2' : decide (400 < xn) = false := by simp; omega
  have HZ : Hid (rightT T = (rightP false (wordsR T) && eqT (trieP (wordsR T)) T)) := by
   rw [Hid, HE.out]
   unfold rightR7
   rw [decide_eq_true (show T.up.length ≤ 400 ∧ T.wrd.length ≤ 400 by rw [HUL.out, HXL.out]; exact ⟨hs1, hs2⟩), Bool.true_and]
  have HC := Lib.hid (rwords7_any _ T W hT2 (by show xn ≤ _; omega))
  have HT2 := Lib.hid hT2
  clear hT2 HE
  go_enter Tryz.func54, Tryz.ntmps54
  go_upto_region 1 with fail
  rw [← hW]
  clear hW
  go_wp2_with fail
  refine HC.out.mono ?_
  rintro e w1 ⟨v, rfl, hv, hb1⟩
  obtain ⟨av, cv, rfl, hcv, hwd⟩ := hv.wds
  have hO1 := hO.below hb1
  have hB1 := hB.trans (hb1.mono hB.size)
  have hT1 := HT2.out.below hb1
  clear c0 c1 c2 c3 hO hB hb1 HC hv e1 e1' e2 e2'
  obtain ⟨m, hm⟩ : ∃ m, (wordsR T).length = m := ⟨_, rfl⟩
  have hm64 : m ≤ 64 := by rw [← hm]; exact (wordsR_bd T).1
  rw [hm] at hwd hcv ⊢
  clear hm
  cases hr : rightP false (wordsR T) with
  | false =>
   have HZ2 : Hid (rightT T = false) := by rw [Hid, HZ.out, hr]; rfl
   have HM := Lib.hid (rmake7_no false av m cv (wordsR T) w1 hwd (by omega) (fun x hx => by have := (wordsR_bd T).2 x hx; omega) hr)
   clear hr HZ
   go_wp2_with fail
   refine HM.out.mono ?_
   rintro e w2 ⟨rfl, hb2⟩
   have hB2 := hB1.trans (hb2.mono hB1.size)
   go_wp2
   go_ret
   exact ⟨by rw [HZ2.out]; rfl, hB2.alloc hB2.size _⟩
  | true =>
   have HZ2 : Hid (rightT T = eqT (trieP (wordsR T)) T) := by rw [Hid, HZ.out, hr, Bool.true_and]
   have HM := Lib.hid (rmake7_yes false av m cv (wordsR T) w1 hwd hr)
   have HNL : Hid ((nodesL (wordsR T)).length ≤ 400) := (right_nodes hr).2
   clear hr HZ
   go_wp2_with fail
   refine HM.out.mono ?_
   rintro e w2 ⟨t2, rfl, hT3, hb2⟩
   have hB2 := hB1.trans (hb2.mono hB1.size)
   have hO2 := hO1.below hb2
   have hT4 := hT1.below hb2
   obtain ⟨ua2, un2, uc2, da2, dn2, dc2, xa2, xn2, xc2, ba2, bn2, bc2⟩ := t2
   have hl1 : (nodesL (wordsR T)).length = un2 := by have := hT3.up.1; rw [trie_lens.1] at this; exact this
   have hl2 : (nodesL (wordsR T)).length = dn2 := by have := hT3.dep.1; rw [(trie_lens (ws := wordsR T)).2.1] at this; exact this
   have hl3 : (nodesL (wordsR T)).length = xn2 := by have := hT3.wrd.1; rw [trie_lens.2.2.1] at this; exact this
   have hl4 : (nodesL (wordsR T)).length = bn2 := by have := hT3.byt.1.1; rw [(trie_lens (ws := wordsR T)).2.2.2] at this; exact this
   have hn4 := HNL.out
   have hbd : un2 ≤ 4611686018427387904 ∧ dn2 ≤ 4611686018427387904 ∧ xn2 ≤ 4611686018427387904 ∧ bn2 ≤ 4611686018427387904 := by omega
   clear hl1 hl2 hl3 hl4 hn4
   obtain ⟨W4, hW4⟩ : ∃ W, W = w2.alloc (.cells #[.slice ua2 un2 uc2, .slice da2 dn2 dc2, .slice xa2 xn2 xc2, .slice ba2 bn2 bc2] 34) := ⟨_, rfl⟩
   have hb4 : Below w2.heap.size w2 W4 := by rw [hW4]; exact below_alloc _ _
   have hQ : W4.heap[w2.heap.size]? = some (.cells #[.slice ua2 un2 uc2, .slice da2 dn2 dc2, .slice xa2 xn2 xc2, .slice ba2 bn2 bc2] 34 (0, 0)) := by rw [hW4]; exact World.alloc_heap_new _ _
   go_upto_region 4 with fail
   rw [← hW4]
   clear hW4
   have hO4 := hO2.below hb4
   have c0 : W4.cell? ⟨w.heap.size, 0, none⟩ = some (.slice ua un uc) := hO4.cell (i := 0) rfl rfl
   have c1 : W4.cell? ⟨w.heap.size, 1, none⟩ = some (.slice da dn dc) := hO4.cell (i := 0) rfl rfl
   have c2 : W4.cell? ⟨w.heap.size, 2, none⟩ = some (.slice xa xn xc) := hO4.cell (i := 0) rfl rfl
   have c3 : W4.cell? ⟨w.heap.size, 3, none⟩ = some (.slice ba bn bc) := hO4.cell (i := 0) rfl rfl
   have k0 : W4.cell? ⟨w2.heap.size, 0, none⟩ = some (.slice ua2 un2 uc2) := by simp [World.cell?, hQ]
   have k1 : W4.cell? ⟨w2.heap.size, 1, none⟩ = some (.slice da2 dn2 dc2) := by simp [World.cell?, hQ]
   have k2 : W4.cell? ⟨w2.heap.size, 2, none⟩ = some (.slice xa2 xn2 xc2) := by simp [World.cell?, hQ]
   have k3 : W4.cell? ⟨w2.heap.size, 3, none⟩ = some (.slice ba2 bn2 bc2) := by simp [World.cell?, hQ]
   have HSM := Lib.hid (rsame7_any _ _ _ _ W4 (hT3.below hb4) (hT4.below hb4) hbd)
   have hB4 := hB2.trans (hb4.mono hB2.size)
   clear hT3 hT4 hO4 hO2 hO1 hQ hb4 hb2
   go_wp2_with fail
   refine HSM.out.mono ?_
   rintro e w5 ⟨rfl, hb5⟩
   have hB5 := hB4.trans (hb5.mono hB4.size)
   clear c0 c1 c2 c3 k0 k1 k2 k3
   obtain ⟨B, hBB⟩ : ∃ B, eqT (trieP (wordsR T)) T = B := ⟨_, rfl⟩
   have HZ3 : Hid (rightT T = B) := by rw [Hid, HZ2.out, hBB]
   rw [hBB]
   clear hBB
   cases B
   all_goals
    go_wp2
    go_ret
    exact ⟨by rw [HZ3.out]; rfl, hB5⟩
 ·
  have HZ : Hid (rightT T = false) := by
   rw [Hid, HE.out]
   unfold rightR7
   rw [decide_eq_false (show ¬ (T.up.length ≤ 400 ∧ T.wrd.length ≤ 400) by rw [HUL.out, HXL.out]; exact hs), Bool.false_and]
  clear hT2 HE
  have e0 : (decide ((400 : Int) < (un : Int)) = true ∧ decide (400 < un) = true) ∨ ((decide ((400 : Int) < (un : Int)) = false ∧ decide (400 < un) = false) ∧ (decide ((400 : Int) < (xn : Int)) = true ∧ decide (400 < xn) = true)) := by
   by_cases h : un ≤ 400
   · exact .inr ⟨⟨by simp; omega, by simp; omega⟩, by simp; omega, by simp; omega⟩
   · exact .inl ⟨by simp; omega, by simp; omega⟩
  clear hs
  rcases e0 with ⟨e1, e1'⟩ | ⟨⟨e1, e1'⟩, e2, e2'⟩
  all_goals
   go_enter Tryz.func54, Tryz.ntmps54
   go_upto_region 1 with fail
   rw [← hW]
   clear hW
   go_wp2
   go_ret
   exact ⟨by rw [HZ.out]; rfl, hB⟩

set_option maxHeartbeats 2000000 in
theorem rWords7_any (t : TV) (T : TrieT) (w : World) (hT : Tri w t T) (hb : t.un ≤ 140737488351232 ∧ t.dn ≤ 140737488351232 ∧ t.xn ≤ 140737488351232 ∧ t.bn ≤ 140737488351232) :
  Calls Tryz.prog 55 #[.agg t.cells] w fun e w' => ∃ v, e = .returned v ∧ OwnW w' w.heap.size v (wordsT T) ∧ Below w.heap.size w w' := by
 obtain ⟨ua, un, uc, da, dn, dc, xa, xn, xc, ba, bn, bc⟩ := t
 obtain ⟨W, hW⟩ : ∃ W, W = w.alloc (.cells #[.slice ua un uc, .slice da dn dc, .slice xa xn xc, .slice ba bn bc] 34) := ⟨_, rfl⟩
 have hB : Below w.heap.size w W := by rw [hW]; exact below_alloc _ _
 have hO : Bx w.heap.size [.cells #[.slice ua un uc, .slice da dn dc, .slice xa xn xc, .slice ba bn bc] 34] W := by rw [hW]; exact (Bx.nil _ w).snoc _ rfl
 have c0 : W.cell? ⟨w.heap.size, 0, none⟩ = some (.slice ua un uc) := hO.cell (i := 0) rfl rfl
 have c1 : W.cell? ⟨w.heap.size, 1, none⟩ = some (.slice da dn dc) := hO.cell (i := 0) rfl rfl
 have c2 : W.cell? ⟨w.heap.size, 2, none⟩ = some (.slice xa xn xc) := hO.cell (i := 0) rfl rfl
 have c3 : W.cell? ⟨w.heap.size, 3, none⟩ = some (.slice ba bn bc) := hO.cell (i := 0) rfl rfl
 have HC := Lib.hid (rright7_any _ T W (hT.below hB) hb)
 have HT := Lib.hid (hT.below hB)
 have HB3 := Lib.hid hb.2.2.1
 clear hT hb
 cases hr : readP T with
 | none =>
  have HZ : Hid (wordsT T = []) := by unfold Hid wordsT; rw [hr]
  have HR : rightT T = false := by unfold rightT; rw [hr]; rfl
  rw [HR] at HC
  clear hr HR
  go_enter Tryz.func55, Tryz.ntmps55
  go_upto_region 1 with fail
  rw [← hW]
  clear hW
  go_wp2_with fail
  refine HC.out.mono ?_
  rintro e w1 ⟨rfl, hb1⟩
  go_wp2
  go_ret
  exact ⟨_, rfl, by rw [HZ.out]; exact OwnW.nil _ _, hB.trans (hb1.mono hB.size)⟩
 | some r =>
  have HZ : Hid (wordsT T = wordsR T) := by
   unfold Hid wordsT
   rw [hr]
   exact (readR7 (sp := r.1) (ws := r.2) hr).1.symm
  have HR : rightT T = true := by unfold rightT; rw [hr]; rfl
  rw [HR] at HC
  clear hr HR
  go_enter Tryz.func55, Tryz.ntmps55
  go_upto_region 1 with fail
  rw [← hW]
  clear hW
  go_wp2_with fail
  refine HC.out.mono ?_
  rintro e w1 ⟨rfl, hb1⟩
  have hO1 := hO.below hb1
  clear c0 c1 c2 c3
  have c0 : w1.cell? ⟨w.heap.size, 0, none⟩ = some (.slice ua un uc) := hO1.cell (i := 0) rfl rfl
  have c1 : w1.cell? ⟨w.heap.size, 1, none⟩ = some (.slice da dn dc) := hO1.cell (i := 0) rfl rfl
  have c2 : w1.cell? ⟨w.heap.size, 2, none⟩ = some (.slice xa xn xc) := hO1.cell (i := 0) rfl rfl
  have c3 : w1.cell? ⟨w.heap.size, 3, none⟩ = some (.slice ba bn bc) := hO1.cell (i := 0) rfl rfl
  have HW := Lib.hid (rwords7_any _ T w1 (HT.out.below hb1) HB3.out)
  go_wp2_with fail
  refine HW.out.mono ?_
  rintro e w2 ⟨v, rfl, hv, hb2⟩
  have hB1 := hB.trans (hb1.mono hB.size)
  go_wp2
  go_ret
  exact ⟨v, rfl, by rw [HZ.out]; exact hv.mono hB1.size, hB1.trans (hb2.mono hB1.size)⟩

end Go.Proofs.YtglfdclpjmhoiaaGreat

/- The document's tries (layer 7): where bytes are found, kids, which are too great; walked. Printed by exp.py. -/

namespace Go.Proofs.YtglfdclpjmhoiaaGreat
open Go.RowKit Go.Sort

abbrev Bd4 (t : TV) : Prop := t.un ≤ 140737488351232 ∧ t.dn ≤ 140737488351232 ∧ t.xn ≤ 140737488351232 ∧ t.bn ≤ 140737488351232
end Go.Proofs.YtglfdclpjmhoiaaGreat

/- The document's links (layer 8): all nodes, the node of bytes, the longest end that is a node; walked. -/

namespace Go.Proofs.YtglfdclpjmhoiaaGreat
open Go.RowKit Go.Sort

/-- All nodes' bytes; none: the trie may not be. -/
def nodesT (T : TrieT) : List (List Int) := match readP T with | some r => nodesL r.2 | none => []
theorem nodesT_none {T : TrieT} (h : readP T = none) : nodesT T = [] := by unfold nodesT; rw [h]
theorem nodesT_some {T : TrieT} {r : List (List Int) × List (List Int)} (h : readP T = some r) : nodesT T = nodesL r.2 := by unfold nodesT; rw [h]
theorem nodesT_bd (T : TrieT) : (nodesT T).length ≤ 400 ∧ ∀ x ∈ nodesT T, x.length ≤ 32 := by
 cases h : readP T with
 | none => rw [nodesT_none h]; simp
 | some r =>
  rw [nodesT_some h]
  obtain ⟨h1, _, _⟩ := readP_iff.1 (show readP T = some (r.1, r.2) from h)
  exact ⟨(right_nodes h1).2, fun x hx => by obtain ⟨j, hj⟩ := List.getElem?_of_mem hx; exact node_len h1 hj⟩

set_option maxRecDepth 100000 in
set_option maxHeartbeats 2000000 in
theorem rnodes8_any (t : TV) (T : TrieT) (w : World) (hT : Tri w t T) (hb : Bd4 t) :
  Calls Tryz.prog 40 #[.agg t.cells] w fun e w' => ∃ a c, e = .returned (.slice a (nodesT T).length c) ∧ (nodesT T).length ≤ c ∧ Wds w' a (nodesT T).length (nodesT T) ∧ Below w.heap.size w w' := by
 obtain ⟨ua, un, uc, da, dn, dc, xa, xn, xc, ba, bn, bc⟩ := t
 obtain ⟨W, hW⟩ : ∃ W, W = w.alloc (.cells #[.slice ua un uc, .slice da dn dc, .slice xa xn xc, .slice ba bn bc] 34) := ⟨_, rfl⟩
 have hB : Below w.heap.size w W := by rw [hW]; exact below_alloc _ _
 have hO : Bx w.heap.size [.cells #[.slice ua un uc, .slice da dn dc, .slice xa xn xc, .slice ba bn bc] 34] W := by rw [hW]; exact (Bx.nil _ w).snoc _ rfl
 have c0 : W.cell? ⟨w.heap.size, 0, none⟩ = some (.slice ua un uc) := hO.cell (i := 0) rfl rfl
 have c1 : W.cell? ⟨w.heap.size, 1, none⟩ = some (.slice da dn dc) := hO.cell (i := 0) rfl rfl
 have c2 : W.cell? ⟨w.heap.size, 2, none⟩ = some (.slice xa xn xc) := hO.cell (i := 0) rfl rfl
 have c3 : W.cell? ⟨w.heap.size, 3, none⟩ = some (.slice ba bn bc) := hO.cell (i := 0) rfl rfl
 have HC := Lib.hid (rright7_any _ T W (hT.below hB) hb)
 have HT := Lib.hid (hT.below hB)
 have HBB := Lib.hid hb
 clear hT hb
 cases hr : readP T with
 | none =>
  have HZ := Lib.hid (nodesT_none hr)
  have HR : rightT T = false := by unfold rightT; rw [hr]; rfl
  rw [HR] at HC
  clear hr HR
  go_enter Tryz.func40, Tryz.ntmps40
  go_upto_region 1 with fail
  rw [← hW]
  clear hW
  go_wp2_with fail
  refine HC.out.mono ?_
  rintro e w1 ⟨rfl, hb1⟩
  go_wp2
  go_ret
  rw [HZ.out]
  exact ⟨none, 0, rfl, Nat.le_refl _, Wds.nil _ _, hB.trans (hb1.mono hB.size)⟩
 | some r =>
  have HZ : Hid (nodesT T = nodesL (wordsT T)) := by rw [Hid, nodesT_some hr]; unfold wordsT; rw [hr]
  have HL : Hid ((wordsT T).length ≤ 400 ∧ ∀ x ∈ wordsT T, x.length ≤ 32) := by
   obtain ⟨h1, _, _⟩ := readP_iff.1 (show readP T = some (r.1, r.2) from hr)
   have h2 : wordsT T = r.2 := by unfold wordsT; rw [hr]
   rw [Hid, h2]
   exact ⟨(readP_len (sp := r.1) (ws := r.2) hr).2.1, fun x hx => ((right_spec h1).2.2.1 x hx).2⟩
  have HR : rightT T = true := by unfold rightT; rw [hr]; rfl
  rw [HR] at HC
  clear hr HR
  go_enter Tryz.func40, Tryz.ntmps40
  go_upto_region 1 with fail
  rw [← hW]
  clear hW
  go_wp2_with fail
  refine HC.out.mono ?_
  rintro e w1 ⟨rfl, hb1⟩
  have hO1 := hO.below hb1
  clear c0 c1 c2 c3
  have c0 : w1.cell? ⟨w.heap.size, 0, none⟩ = some (.slice ua un uc) := hO1.cell (i := 0) rfl rfl
  have c1 : w1.cell? ⟨w.heap.size, 1, none⟩ = some (.slice da dn dc) := hO1.cell (i := 0) rfl rfl
  have c2 : w1.cell? ⟨w.heap.size, 2, none⟩ = some (.slice xa xn xc) := hO1.cell (i := 0) rfl rfl
  have c3 : w1.cell? ⟨w.heap.size, 3, none⟩ = some (.slice ba bn bc) := hO1.cell (i := 0) rfl rfl
  have HW := Lib.hid (rWords7_any _ T w1 (HT.out.below hb1) HBB.out)
  have hB1 := hB.trans (hb1.mono hB.size)
  go_wp2_with fail
  refine HW.out.mono ?_
  rintro e w2 ⟨v, rfl, hv, hb2⟩
  obtain ⟨av, cv, rfl, hcv, hwd⟩ := hv.wds
  have hB2 := hB1.trans (hb2.mono hB1.size)
  have hlw := HL.out.1
  have HN := Lib.hid (rnodes7_any av _ cv (wordsT T) w2 hwd (by omega) (fun y hy => by have := HL.out.2 y hy; omega))
  clear hv hwd c0 c1 c2 c3 hO1 hO hb1 hb2 hB hB1
  go_wp2_with fail
  refine HN.out.mono ?_
  rintro e w3 ⟨an, cn, rfl, hcn, hnd, hb3⟩
  have hB3 := hB2.trans (hb3.mono hB2.size)
  go_wp2
  go_ret
  rw [HZ.out]
  exact ⟨an, cn, rfl, hcn, hnd, hB3⟩

set_option maxHeartbeats 2000000 in
theorem rplace8_any (a b : Option Addr) (la ca lb cb : Nat) (l : List (List Int)) (x : List Int) (w : World) (hA : Wds w a la l) (hB : Bys w b lb x) (hla : la ≤ 1000000) :
  Calls Tryz.prog 56 #[.slice a la ca, .slice b lb cb] w fun e w' => e = .returned (.int .i64 (placeS l x)) ∧ Below w.heap.size w w' := by
 have HL := Lib.hid hA.len
 have HA := Lib.hid hA
 have HB := Lib.hid hB
 clear hA hB
 go_enter Tryz.func56, Tryz.ntmps56
 go_wp2
 go_loopw [5] (fun i wr => ∃ k : Nat, k ≤ la ∧ i = .int .i64 k ∧ Hid (x ∉ l.take k) ∧ Below w.heap.size w wr) (fun i _ => la - (intOf i).toNat)
 case atStart => exact ⟨0, Nat.zero_le _, rfl, by simp [Hid], Below.refl _ _⟩
 case round =>
  obtain ⟨k, hk, rfl, HK, hBe⟩ := hrel
  by_cases hlt : k < la
  ·
   have hd : decide ((k : Int) < la) = true := by simp; omega
   obtain ⟨bb, off, aw, lw, cw, y, hbb, hbl, hcell, hy, hY, hlc⟩ := (HA.out.below hBe).at_ hlt
   subst hbb
   have f2 : ∀ d os, (grow (redrawn wr d) os).cell? ⟨bb, off + k, none⟩ = some (.slice aw lw cw) := fun d os => ((below_regrown wr d os).cell (p := ⟨bb, off + k, none⟩) hbl).trans hcell
   have f4 := fun d os => conv_bys (hY.below (below_regrown wr d os)) cw
   have f5 := fun d os => conv_bys ((HB.out.below hBe).below (below_regrown wr d os)) cb
   have i1 : (0 : Int) ≤ (k : Int) := by omega
   have i2 : (k : Int) < (la : Int) := by omega
   have HY := Lib.hid hy
   have HYB := Lib.hid hY.2
   have HE := Lib.hid (str_beq HYB.out HB.out.2)
   have HBE := Lib.hid hBe
   clear hy hY hcell hlc hBe
   by_cases e : y = x
   ·
    have hq : ((strOfNums y).toList == (strOfNums x).toList) = true := by rw [HE.out]; simpa using e
    have HS : Hid (placeS l x = k) := by rw [← e] at HK ⊢; exact placeS_first HY.out HK.out
    clear e
    go_wp2
    refine wp_region_quiet_below mixed (by kernel_rfl) ?_
    repeat (go_big_quiet_step (fail))
    refine wpQuiet_nil ?_
    rintro _ ⟨⟨dq, osq⟩, rfl⟩
    go_wp2
    go_ret
    exact ⟨by rw [HS.out]; rfl, HBE.out.trans ((below_regrown wr dq osq).mono HBE.out.size)⟩
   ·
    have hq : ((strOfNums y).toList == (strOfNums x).toList) = false := by rw [HE.out]; simpa using e
    have HS : Hid (x ∉ l.take (k + 1)) := by
     rw [Hid, take_step HY.out, List.mem_append, List.mem_singleton]
     exact fun h => h.elim HK.out (fun e2 => e e2.symm)
    clear e
    go_wp2
    refine wp_region_quiet_below mixed (by kernel_rfl) ?_
    repeat (go_big_quiet_step (fail))
    refine wpQuiet_nil ?_
    rintro _ ⟨⟨dq, osq⟩, rfl⟩
    have hBq := HBE.out.trans ((below_regrown wr dq osq).mono HBE.out.size)
    clear f2 f4 f5
    go_wp2
    go_roundw
    case rel => exact ⟨k + 1, by omega, by go_num, HS, hBq⟩
    case measure => simp [intOf]; omega
  ·
   obtain rfl : k = la := by omega
   have HS : Hid (placeS l x = -1) := by
    refine placeS_no ?_
    have h := HK.out
    rwa [List.take_of_length_le (by rw [HL.out]; exact Nat.le_refl _)] at h
   go_wp2
   go_ret
   exact ⟨by rw [HS.out]; rfl, hBe⟩

set_option maxRecDepth 100000 in
set_option maxHeartbeats 2000000 in
theorem rlongest8_any (a b : Option Addr) (la ca lb cb : Nat) (N : List (List Int)) (x : List Int) (k0 : Nat) (w : World) (hA : Wds w a la N) (hB : Bys w b lb x) (hla : la ≤ 1000000) (hlb : lb ≤ 1000000) (hcb : lb ≤ cb) (h0 : placeS N [] = 0) :
  Calls Tryz.prog 41 #[.slice a la ca, .slice b lb cb, .int .i64 (k0 : Int)] w fun e w' => e = .returned (.int .i64 (placeS N (lsf N (x.drop k0)))) ∧ Below w.heap.size w w' := by
 have HX := Lib.hid hB.len
 have HA := Lib.hid hA
 have HB := Lib.hid hB
 have H0 := Lib.hid h0
 clear hA hB h0
 go_enter Tryz.func41, Tryz.ntmps41
 go_wp2
 go_loopw [7] (fun s7 wr => ∃ k : Nat, s7 = .int .i64 k ∧ Hid (lsf N (x.drop k0) = lsf N (x.drop k)) ∧ RowKit.Below w.heap.size w wr) (fun s _ => lb - (intOf s).toNat)
 case atStart => exact ⟨k0, rfl, rfl, RowKit.Below.refl _ _⟩
 case round =>
  obtain ⟨k, rfl, HK, hBe⟩ := hrel
  by_cases hkl : k < lb
  ·
   have hd : decide ((k : Int) < lb) = true := by simp; omega
   have hR := (HB.out.below hBe).drop (m := k) (by omega)
   have HP := Lib.hid (rplace8_any a _ la ca (lb - k) (cb - k) N (x.drop k) wr (HA.out.below hBe) hR hla)
   have i1 : (0 : Int) ≤ (k : Int) := by omega
   have i2 : (k : Int) ≤ (lb : Int) := by omega
   clear hR
   go_wp2_with fail
   refine HP.out.mono ?_
   rintro e w1 ⟨rfl, hb1⟩
   have hB1 := hBe.trans (hb1.mono hBe.size)
   by_cases hm : x.drop k ∈ N
   ·
    have HE : Hid (placeS N (lsf N (x.drop k0)) = placeS N (x.drop k)) := by rw [Hid, HK.out, lsf_here hm]
    obtain ⟨p, hp⟩ : ∃ p, placeS N (x.drop k) = p := ⟨_, rfl⟩
    have hp0 : 0 ≤ p := by rw [← hp]; unfold placeS; rw [if_pos hm]; omega
    have e3 : decide (0 ≤ p) = true := by simpa using hp0
    rw [hp] at HE ⊢
    clear hp hm
    go_wp2
    go_ret
    exact ⟨by rw [HE.out]; rfl, hB1⟩
   ·
    have HE : Hid (lsf N (x.drop k0) = lsf N (x.drop (k + 1))) := by rw [Hid, HK.out]; exact lsf_next (by rw [HX.out]; exact hkl) hm
    rw [placeS_no hm]
    clear hm
    go_wp2
    go_roundw
    case rel => exact ⟨k + 1, by go_num, HE, hB1⟩
    case measure => simp [intOf]; omega
  ·
   have hd : decide ((k : Int) < lb) = false := by simp; omega
   have HE : Hid (placeS N (lsf N (x.drop k0)) = 0) := by rw [Hid, HK.out, lsf_end N x (by rw [HX.out]; omega), H0.out]
   go_wp2
   go_ret
   exact ⟨by rw [HE.out]; rfl, hBe⟩
end Go.Proofs.YtglfdclpjmhoiaaGreat

/- The document's links (layer 8): all links, which may be, chains, the deepest node, a step; walked. -/

namespace Go.Proofs.YtglfdclpjmhoiaaGreat
open Go.RowKit Go.Sort

def linksT (T : TrieT) : List Int := match readP T with | some r => linksP r.2 | none => []
def linksE (T : TrieT) : Int := match readP T with | some _ => 0 | none => 2
theorem place0 (ws : List (List Int)) : placeS (nodesL ws) [] = 0 := placeS_at (nodesL_srt ws).nodup (nodesL_head ws)
theorem link_drop (ws : List (List Int)) (x : List Int) : placeS (nodesL ws) (lsf (nodesL ws) (x.drop 1)) = linkI ws x := by
 unfold linkI linkL
 rw [List.drop_one]

set_option maxRecDepth 100000 in
set_option maxHeartbeats 4000000 in
theorem rlinks8_any (t : TV) (T : TrieT) (w : World) (hT : Tri w t T) (hb : Bd4 t) :
  Calls Tryz.prog 34 #[.agg t.cells] w fun e w' => ∃ v, e = .returned (.tuple #[v, .int .i64 (linksE T)]) ∧ OwnI w' w.heap.size v (linksT T) ∧ Below w.heap.size w w' := by
 obtain ⟨i0, hi, hz0, hz2, hz3⟩ := info_parts i64_info7
 obtain ⟨ua, un, uc, da, dn, dc, xa, xn, xc, ba, bn, bc⟩ := t
 obtain ⟨W, hW⟩ : ∃ W, W = w.alloc (.cells #[.slice ua un uc, .slice da dn dc, .slice xa xn xc, .slice ba bn bc] 34) := ⟨_, rfl⟩
 have hB : Below w.heap.size w W := by rw [hW]; exact below_alloc _ _
 have hO : Bx w.heap.size [.cells #[.slice ua un uc, .slice da dn dc, .slice xa xn xc, .slice ba bn bc] 34] W := by rw [hW]; exact (Bx.nil _ w).snoc _ rfl
 have c0 : W.cell? ⟨w.heap.size, 0, none⟩ = some (.slice ua un uc) := hO.cell (i := 0) rfl rfl
 have c1 : W.cell? ⟨w.heap.size, 1, none⟩ = some (.slice da dn dc) := hO.cell (i := 0) rfl rfl
 have c2 : W.cell? ⟨w.heap.size, 2, none⟩ = some (.slice xa xn xc) := hO.cell (i := 0) rfl rfl
 have c3 : W.cell? ⟨w.heap.size, 3, none⟩ = some (.slice ba bn bc) := hO.cell (i := 0) rfl rfl
 have HC := Lib.hid (rnodes8_any _ T W (hT.below hB) hb)
 clear hT hb
 cases hr : readP T with
 | none =>
  have HZ : Hid (nodesT T = [] ∧ linksT T = [] ∧ linksE T = 2) := ⟨nodesT_none hr, by unfold linksT; rw [hr], by unfold linksE; rw [hr]⟩
  have HC2 := HC.out
  rw [HZ.out.1] at HC2
  have HC3 := Lib.hid HC2
  clear hr HC2
  go_enter Tryz.func34, Tryz.ntmps34
  go_upto_region 1 with fail
  rw [← hW]
  clear hW
  go_wp2_with fail
  refine HC3.out.mono ?_
  rintro e w1 ⟨a1, c1, rfl, _, _, hb1⟩
  go_wp2
  go_ret2
  rw [HZ.out.2.1, HZ.out.2.2]
  exact ⟨_, rfl, World.ownsRow_nil _ _ _ _, hB.trans (hb1.mono hB.size)⟩
 | some r =>
  have HZ : Hid (nodesT T = nodesL r.2 ∧ linksT T = linksP r.2 ∧ linksE T = 0) := ⟨nodesT_some hr, by unfold linksT; rw [hr], by unfold linksE; rw [hr]⟩
  have HBD := Lib.hid (nodesT_bd T)
  obtain ⟨ws, hws⟩ : ∃ ws, r.2 = ws := ⟨_, rfl⟩
  rw [hws] at HZ
  have hn0 : (nodesL ws).length ≠ 0 := fun e => nodesL_ne ws (List.eq_nil_of_length_eq_zero e)
  rw [HZ.out.1] at HC HBD
  obtain ⟨n, hn⟩ : ∃ n, (nodesL ws).length = n := ⟨_, rfl⟩
  rw [hn] at HC HBD hn0
  have HNN := Lib.hid hn
  have hn4 := HBD.out.1
  have e0 : ((n : Int) == 0) = false := by simp; omega
  have e0' : (n == 0) = false := by simp; omega
  have hnp : 0 < n := by omega
  clear hr hws hn hn0
  go_enter Tryz.func34, Tryz.ntmps34
  go_upto_region 1 with fail
  rw [← hW]
  clear hW
  go_wp2_with fail
  refine HC.out.mono ?_
  rintro e w1 ⟨na, nc, rfl, hnc, hN, hb1⟩
  have HN := Lib.hid hN
  have HB1 := Lib.hid (hB.trans (hb1.mono hB.size))
  clear c0 c1 c2 c3 hO hB hb1 HC hN
  go_wp2
  go_loopw [5, 6] (fun s5 s6 wr => ∃ (i : Nat) (v5 : Value), i ≤ n ∧ v5 = s5 ∧ s6 = .int .i64 i ∧ wr.ownsRow w1.heap.size 3 1 v5 i (((linksP ws).take i).map (Value.int .i64)) ∧ RowKit.Below w1.heap.size w1 wr) (fun _ s _ => n - (intOf s).toNat)
  case atStart => exact ⟨0, _, Nat.zero_le _, rfl, rfl, World.ownsRow_nil _ _ _ _, RowKit.Below.refl _ _⟩
  case round =>
   obtain ⟨i, v5, hin, rfl, rfl, hOW, hBe⟩ := hrel
   by_cases hil : i < n
   ·
    have hd : decide ((i : Int) < n) = true := by simp; omega
    obtain ⟨b, o, ai, li, ci, x, rfl, hbl, hcx, hx, hXi, hlci⟩ := HN.out.at_ hil
    have hbx : b < w1.heap.size := hbl
    have fx : wr.cell? ⟨b, o + i, none⟩ = some (.slice ai li ci) := (hBe.cell (p := ⟨b, o + i, none⟩) hbl).trans hcx
    have hli : li ≤ 32 := by have := HBD.out.2 x (List.mem_of_getElem? hx); rw [hXi.len] at this; exact this
    have h8 := rlongest8_any (some ⟨b, o, none⟩) ai n nc li ci (nodesL ws) x 1 wr (HN.out.below hBe) (hXi.below hBe) (by omega) (by omega) hlci (place0 ws)
    rw [link_drop] at h8
    have HQ := Lib.hid h8
    have i1 : (0 : Int) ≤ (i : Int) := by omega
    have i2 : (i : Int) < (n : Int) := by omega
    have HLP := Lib.hid (linksP_at hx)
    have HOW := Lib.hid hOW
    obtain ⟨z, hz⟩ : ∃ z, linkI ws x = z := ⟨_, rfl⟩
    rw [hz] at HQ HLP
    clear hcx hx hXi h8 hz hOW
    go_wp2_with fail
    refine HQ.out.mono ?_
    rintro e w2 ⟨rfl, hb2⟩
    have hB2 := hBe.trans (hb2.mono hBe.size)
    have hsz := hB2.size
    have hrow := row_below HOW.out hb2
    clear fx HQ
    go_wp2_with (at_builtin; refine wpList_append_own _ rfl _ _ 32 rfl w1.heap.size 3 i0 (.int .i64 0) 1 8 Tryz.underlying32 hi hz0 hz2 hz3 rfl (by decide) _ _ _ rfl (hrow.alloc _) ⟨w2.heap.size, 0, none⟩ 1 1 [.int .i64 z] rfl rfl (cells_new _ _ (by simp)) (by simp [Value.oneCell']) (by unfold maxLen; omega) (by omega) (by simp; omega) ?_; intro v' w9 hown' hgrow hat)
    have hB9 := (hB2.alloc hsz (.cells #[.int .i64 z] 3)).grown hgrow (by simp; omega) (fun j hj => (row_lt hrow j hj).1)
    have hO9 : w9.ownsRow w1.heap.size 3 1 v' (i + 1) (((linksP ws).take (i + 1)).map (Value.int .i64)) := by
     rw [take_step HLP.out, List.map_append]
     exact hown'
    clear hrow hown'
    go_roundw
    case rel => exact ⟨i + 1, _, by omega, rfl, by go_num, hO9, hB9⟩
    case measure => simp [intOf]; omega
   ·
    obtain rfl : i = n := by omega
    have hd : decide ((i : Int) < i) = false := by simp
    have HLL : Hid ((linksP ws).length = i) := by rw [Hid]; unfold linksP; rw [List.length_map, HNN.out]
    go_wp2
    go_ret2
    refine ⟨v5, by rw [HZ.out.2.2]; rfl, ?_, HB1.out.trans (hBe.mono HB1.out.size)⟩
    rw [HZ.out.2.1]
    unfold OwnI
    rw [HLL.out]
    rw [List.take_of_length_le (by rw [HLL.out]; exact Nat.le_refl _)] at hOW
    exact row_mono hOW HB1.out.size

end Go.Proofs.YtglfdclpjmhoiaaGreat

/- Fewer places (layer 12), the document's: is a place free, a byte folded, a node's kid, where one goes on; walked. -/

namespace Go.Proofs.YtglfdclpjmhoiaaGreat
open Go.RowKit Go.Sort

set_option maxRecDepth 100000
set_option maxHeartbeats 8000000
theorem rfree12_any (T : Nat) (on oc kn kc : Nat) (oa ka : Option Addr) (u : List Value) (vs : Value) (ow : List Int) (p : Nat) (w : World) (h : Dk w T u vs (.slice oa on oc) (.slice ka kn kc)) (hO : Sl1 (Value.int .i64) w oa on ow) (hkn : kn = on) :
  Calls Tryz.prog 25 #[.pointer (some ⟨T, 0, none⟩), .int .i64 (p : Int)] w fun e w' => e = .returned (.bool (freeP ow p)) ∧ w = w' := by
 obtain ⟨_, c7, c8⟩ := h.cells
 have hl : ow.length = on := hO.1
 subst hkn
 by_cases hp : kn ≤ p
 ·
  have d0 : decide ((kn : Int) ≤ (p : Int)) = true := by simp; omega
  have d1 : decide (kn ≤ p) = true := by simp; omega
  have e : freeP ow p = true := by unfold freeP; rw [List.getElem?_eq_none (by omega)]
  rw [e]
  clear e hl hO h hp
  go_enter Tryz.func25, Tryz.ntmps25
  go_wp2
  go_ret
  exact ⟨rfl, rfl⟩
 ·
  have d0 : decide ((kn : Int) ≤ (p : Int)) = false := by simp; omega
  have d1 : decide (kn ≤ p) = false := by simp; omega
  obtain ⟨b, off, v, rfl, hb, cv, hv⟩ := sl1_at hO (show p < kn by omega)
  have e : freeP ow p = decide (v < 0) := by unfold freeP; rw [hv]
  have q1 : (0 : Int) ≤ (p : Int) := by omega
  have q2 : (p : Int) < (kn : Int) := by omega
  rw [e]
  clear e hl hO h hp hv
  go_enter Tryz.func25, Tryz.ntmps25
  go_wp2
  go_ret
  exact ⟨rfl, rfl⟩
theorem rone12_any (T : Nat) (fold : Bool) (u : List Value) (vs vo vk : Value) (c : Nat) (w : World) (h : Dk w T u vs vo vk) (hu : u[0]? = some (.bool fold)) (hc : c < 256) :
  Calls Tryz.prog 33 #[.pointer (some ⟨T, 0, none⟩), .int .u8 (c : Int)] w fun e w' => e = .returned (.int .u8 (fcB fold (c : Int))) ∧ w = w' := by
 have c0 := h.up hu
 have hf := rfold_any (c : Int) w (by omega) (by omega)
 cases fold with
 | true =>
  have e : fcB true (c : Int) = foldI (c : Int) := by unfold fcB; rw [if_pos rfl]
  rw [e]
  clear h hu e
  go_enter Tryz.func33, Tryz.ntmps33
  go_wp2_with (go_at_call 39; refine hf.mono ?_; rintro e w' ⟨rfl, rfl⟩)
  go_ret
  exact ⟨rfl, rfl⟩
 | false =>
  have e : fcB false (c : Int) = (c : Int) := by unfold fcB; rw [if_neg (by simp)]
  rw [e]
  clear h hu e hf
  go_enter Tryz.func33, Tryz.ntmps33
  go_wp2
  go_ret
  exact ⟨rfl, rfl⟩

/-- The document's table, read: its box, the trie. -/
structure DkR (W : World) (T : Nat) (fold : Bool) (wss : List (List Int)) (u : List Value) (vs vo vk : Value) (t : TV) : Prop where
 dk : Dk W T u vs vo vk
 u0 : u[0]? = some (.bool fold)
 u2 : u[2]? = some (.slice t.ua t.un t.uc) ∧ u[3]? = some (.slice t.da t.dn t.dc) ∧ u[4]? = some (.slice t.xa t.xn t.xc) ∧ u[5]? = some (.slice t.ba t.bn t.bc)
 tr : Tri W t (trieP wss)
theorem DkR.below {W V : World} {T : Nat} {fold : Bool} {wss : List (List Int)} {u : List Value} {vs vo vk : Value} {t : TV} (h : DkR W T fold wss u vs vo vk t) (hb : Below W.heap.size W V) : DkR V T fold wss u vs vo vk t := ⟨h.dk.below hb, h.u0, h.u2, h.tr.below hb⟩
section
variable {fold : Bool} {wss : List (List Int)}
/-- A node's kid, by the rows of the trie. -/
theorem kidW_first {i : Int} {c k : Nat} (h0 : 1 ≤ k) (h1 : (trieP wss).up[k]? = some i) (h2 : (trieP wss).byt[k]? = some (fcB fold c)) : kidW fold wss i c = ((k : Int), true) := by
 have hk : k < (nodesL wss).length := by rw [← up_len]; exact (List.getElem?_eq_some_iff.1 h1).1
 obtain ⟨y, hy⟩ : ∃ y, (nodesL wss)[k]? = some y := ⟨(nodesL wss)[k]'hk, by simp⟩
 obtain ⟨t1, t2, _, _⟩ := trie_row hy
 have hne : y ≠ [] := fun e => by have := (node_zero hy).2 e; omega
 obtain ⟨j, hj⟩ := List.getElem?_of_mem (up_mem (List.mem_of_getElem? hy))
 rw [t1, placeS_at (nodesL_srt wss).nodup hj] at h1
 have hi := Option.some.inj h1
 subst hi
 rw [t2] at h2
 rw [kidW_node hj, ← Option.some.inj h2, ← snoc_last hne, findP_at (nodesL_srt wss).nodup hy]
theorem kidW_none {i : Int} {c : Nat} (h : ∀ k, 1 ≤ k → k < (nodesL wss).length → (trieP wss).up[k]? = some i → (trieP wss).byt[k]? ≠ some (fcB fold c)) : kidW fold wss i c = (0, false) := by
 by_cases hi : 0 ≤ i ∧ i < ((nodesL wss).length : Int)
 ·
  obtain ⟨j, rfl⟩ := Int.eq_ofNat_of_zero_le hi.1
  obtain ⟨x, hx⟩ : ∃ x, (nodesL wss)[j]? = some x := ⟨(nodesL wss)[j]'(by omega), by simp⟩
  rw [kidW_node hx]
  refine findP_no (fun hm => ?_)
  obtain ⟨k, hk⟩ := List.getElem?_of_mem hm
  obtain ⟨t1, t2, _, _⟩ := trie_row hk
  have hk0 : k ≠ 0 := fun e => by
   have := (node_zero hk).1 e
   simp at this
  rw [List.dropLast_concat, placeS_at (nodesL_srt wss).nodup hx] at t1
  refine h k (by omega) (List.getElem?_eq_some_iff.1 hk).1 t1 ?_
  rw [t2]
  simp [lastB]
 · exact kidW_out (by omega) c
theorem rkid12_any {T : Nat} {u : List Value} {vs vo vk : Value} {t : TV} (i : Int) (c : Nat) (w : World) (h : DkR w T fold wss u vs vo vk t) (hn : (nodesL wss).length ≤ 400) (hc : c < 256) :
  Calls Tryz.prog 17 #[.pointer (some ⟨T, 0, none⟩), .int .i64 i, .int .u8 (c : Int)] w fun e w' => e = .returned (.tuple #[.int .i64 (kidW fold wss i c).1, .bool (kidW fold wss i c).2]) ∧ Below w.heap.size w w' := by
 have hup := h.tr.up
 have hby := h.tr.byt.1
 have hlu : (nodesL wss).length = t.un := by rw [← hup.1, up_len]
 have hlb : (nodesL wss).length = t.bn := by rw [← hby.1]; simp [trieP]
 have HC : Hid (∀ V, Below w.heap.size w V → V.cell? ⟨T, 2, none⟩ = some (.slice t.ua t.un t.uc) ∧ V.cell? ⟨T, 5, none⟩ = some (.slice t.ba t.bn t.bc)) := fun V hV => ⟨(h.dk.below hV).up h.u2.1, (h.dk.below hV).up h.u2.2.2.2⟩
 have HF : Hid (∀ V, Below w.heap.size w V → Calls Tryz.prog 33 #[.pointer (some ⟨T, 0, none⟩), .int .u8 (c : Int)] V fun e w' => e = .returned (.int .u8 (fcB fold (c : Int))) ∧ V = w') := fun V hV => rone12_any T fold u vs vo vk c _ (h.dk.below hV) h.u0 hc
 have HU := Lib.hid (fun V (hV : Below w.heap.size w V) => hup.below hV)
 have HBY := Lib.hid (fun V (hV : Below w.heap.size w V) => hby.below hV)
 have HN : Hid ((nodesL wss).length = t.un ∧ (nodesL wss).length = t.bn) := ⟨hlu, hlb⟩
 have hun : t.un ≤ 400 := by omega
 have hun1 : 1 ≤ t.un := by rw [← hlu]; exact List.length_pos_iff.2 (nodesL_ne wss)
 have hbb : t.bn = t.un := by omega
 obtain ⟨d, hd⟩ : ∃ d, fcB fold (c : Int) = d := ⟨_, rfl⟩
 obtain ⟨R, hR⟩ : ∃ R, kidW fold wss i c = R := ⟨_, rfl⟩
 have HR : Hid (kidW fold wss i c = R) := hR
 have HD : Hid (fcB fold (c : Int) = d) := hd
 rw [hd] at HF
 rw [hR]
 clear hd hR h hup hby hlu hlb hn
 have HBB := Lib.hid hbb
 clear hbb
 go_enter Tryz.func17, Tryz.ntmps17
 go_upto_region 2 with fail
 go_loopw [8] (fun s8 wr => ∃ k : Nat, 1 ≤ k ∧ k ≤ t.un ∧ s8 = .int .i64 (k : Int) ∧ Hid (Below w.heap.size w wr) ∧ Hid (∀ j, 1 ≤ j → j < k → (trieP wss).up[j]? = some i → (trieP wss).byt[j]? ≠ some d)) (fun s _ => t.un - (intOf s).toNat)
 case atStart => exact ⟨1, Nat.le_refl _, hun1, rfl, Below.refl _ _, fun j h1 h2 => by omega⟩
 case round =>
  obtain ⟨k, hk1, hkn, rfl, HB, HP⟩ := hrel
  obtain ⟨c2, c5⟩ := HC.out wr HB.out
  by_cases hk : k < t.un
  ·
   have d0 : decide ((k : Int) < (t.un : Int)) = true := by simp; omega
   have d0' : decide (k < t.un) = true := by simp; omega
   obtain ⟨b0, o0, x, e0, hl0, cx, hx⟩ := sl1_at (HU.out wr HB.out) hk
   obtain ⟨b1, o1, y, e1, hl1, cy, hy⟩ := sl1_at (HBY.out wr HB.out) (by rw [HBB.out]; exact hk : k < t.bn)
   rw [e0] at c2
   rw [e1] at c5
   have i0 : (0 : Int) ≤ (k : Int) := by omega
   have i1 : (k : Int) < (t.un : Int) := by omega
   have i2 : (k : Int) < (t.bn : Int) := by rw [HBB.out]; omega
   have k2 := cell_regrown c2
   have k5 := cell_regrown c5
   have kx := cell_regrown cx
   have ky := cell_regrown cy
   have HX := Lib.hid hx
   have HY := Lib.hid hy
   have HFr : ∀ d' os, Calls Tryz.prog 33 #[.pointer (some ⟨T, 0, none⟩), .int .u8 (c : Int)] (grow (redrawn wr d') os) fun e w' => e = .returned (.int .u8 d) ∧ grow (redrawn wr d') os = w' := fun d' os => HF.out _ (HB.out.trans ((below_regrown wr d' os).mono HB.out.size))
   clear e0 e1 hx hy hk
   by_cases hxi : x = i
   ·
    subst hxi
    by_cases hyd : y = d
    ·
     subst hyd
     have HRE : Hid (R = ((k : Int), true)) := by
      rw [Hid, ← HR.out]
      exact kidW_first hk1 HX.out (by rw [HD.out]; exact HY.out)
     go_upto_region 4 with fail
     refine wp_region_quiet_below mixed (by kernel_rfl) ?_
     repeat (go_big_quiet_step (exact grown_same (HFr _ _)))
     refine wpQuiet_nil ?_
     rintro _ ⟨⟨dq, osq⟩, rfl⟩
     have hb0 := below_regrown wr dq osq
     go_wp2
     go_ret2
     exact ⟨by rw [HRE.out]; rfl, HB.out.trans (hb0.mono HB.out.size)⟩
    ·
     have d1 : (y == d) = false := by simpa using hyd
     have HP2 : Hid (∀ j, 1 ≤ j → j < k + 1 → (trieP wss).up[j]? = some x → (trieP wss).byt[j]? ≠ some d) := fun j h1 h2 h3 h4 => by
      by_cases hjk : j = k
      ·
       subst hjk
       rw [HY.out] at h4
       exact hyd (Option.some.inj h4)
      · exact HP.out j h1 (by omega) h3 h4
     clear hyd
     go_upto_region 4 with fail
     refine wp_region_quiet_below mixed (by kernel_rfl) ?_
     repeat (go_big_quiet_step (exact grown_same (HFr _ _)))
     refine wpQuiet_nil ?_
     rintro _ ⟨⟨dq, osq⟩, rfl⟩
     have hb0 := below_regrown wr dq osq
     have HB2 : Hid (Below w.heap.size w (grow (redrawn wr dq) osq)) := HB.out.trans (hb0.mono HB.out.size)
     clear hb0
     go_wp2
     go_roundw
     case rel => exact ⟨k + 1, by omega, by omega, by go_num, HB2, HP2⟩
     case measure => simp [intOf]; omega
   ·
    have d1 : (x == i) = false := by simpa using hxi
    have HP2 : Hid (∀ j, 1 ≤ j → j < k + 1 → (trieP wss).up[j]? = some i → (trieP wss).byt[j]? ≠ some d) := fun j h1 h2 h3 h4 => by
     by_cases hjk : j = k
     ·
      subst hjk
      rw [HX.out] at h3
      exact hxi (Option.some.inj h3)
     · exact HP.out j h1 (by omega) h3 h4
    clear hxi
    go_upto_region 4 with fail
    refine wp_region_quiet_below mixed (by kernel_rfl) ?_
    repeat (go_big_quiet_step (exact grown_same (HFr _ _)))
    refine wpQuiet_nil ?_
    rintro _ ⟨⟨dq, osq⟩, rfl⟩
    have hb0 := below_regrown wr dq osq
    have HB2 : Hid (Below w.heap.size w (grow (redrawn wr dq) osq)) := HB.out.trans (hb0.mono HB.out.size)
    clear hb0
    go_wp2
    go_roundw
    case rel => exact ⟨k + 1, by omega, by omega, by go_num, HB2, HP2⟩
    case measure => simp [intOf]; omega
  ·
   obtain rfl : k = t.un := by omega
   have d0 : decide ((t.un : Int) < (t.un : Int)) = false := by simp
   have HRE : Hid (R = (0, false)) := by
    rw [Hid, ← HR.out]
    refine kidW_none (fun j h1 h2 h3 h4 => ?_)
    rw [HD.out] at h4
    exact HP.out j h1 (by rw [← HN.out.1]; exact h2) h3 h4
   clear hk
   go_wp2
   go_ret2
   exact ⟨by rw [HRE.out]; rfl, HB.out⟩
/-- Where bytes lead, by the document. -/
theorem rnext12_any {T : Nat} {u : List Value} {vs vo vk : Value} {t : TV} (i : Int) (b : Option Addr) (lb cb : Nat) (bs : List Int) (w : World) (h : DkR w T fold wss u vs vo vk t) (hr : rightP fold wss = true) (hk : OkT fold wss) (hB4 : Bd4 t) (hn : (nodesL wss).length ≤ 400) (hX : Bys w b lb bs) (hlb : lb ≤ 1000000) :
  Calls Tryz.prog 18 #[.pointer (some ⟨T, 0, none⟩), .int .i64 i, .slice b lb cb] w fun e w' => e = .returned (.tuple #[.int .i64 (nextT fold wss i bs).1, .bool (nextT fold wss i bs).2]) ∧ Below w.heap.size w w' := by
 have hup := h.tr.up
 have hlu : (nodesL wss).length = t.un := by rw [← hup.1, up_len]
 have c2 := h.dk.up h.u2.1
 by_cases hi : 0 ≤ i ∧ i < (t.un : Int)
 ·
  obtain ⟨j, rfl⟩ := Int.eq_ofNat_of_zero_le hi.1
  obtain ⟨x, hx⟩ : ∃ x, (nodesL wss)[j]? = some x := ⟨(nodesL wss)[j]'(by omega), by simp⟩
  rw [nextT_node hx]
  have hxm := List.mem_of_getElem? hx
  have hrd : readP (trieP wss) = some (nodesL wss, wss) := readP_iff.2 ⟨right_false hr, rfl, rfl⟩
  have hlt : linksT (trieP wss) = linksP wss := by unfold linksT; rw [hrd]
  have hrl := rlinks8_any t (trieP wss) w h.tr hB4
  rw [hlt] at hrl
  have HL := Lib.hid hrl
  have HKD := Lib.hid (fun V (hV : Below w.heap.size w V) (i : Int) (c : Nat) (hc : c < 256) => rkid12_any i c V (h.below hV) hn hc)
  have c3 := h.dk.up h.u2.2.1
  have c4 := h.dk.up h.u2.2.2.1
  have c5 := h.dk.up h.u2.2.2.2
  have d0 : decide ((j : Int) < 0) = false := by simp
  have d1 : decide ((t.un : Int) ≤ (j : Int)) = false := by simp; omega
  have d1' : decide (t.un ≤ j) = false := by simp; omega
  have HX := Lib.hid hX
  have HNX := Lib.hid hx
  have HLU := Lib.hid hlu
  have HXM := Lib.hid hxm
  have hun : t.un ≤ 400 := by omega
  have hbl := hX.1.1
  clear hrd hlt hrl hi hup hlu h hr hX hx hxm hn
  go_enter Tryz.func18, Tryz.ntmps18
  go_upto_region 4 with (go_at_call 34; refine HL.out.mono ?_; rintro e w1 ⟨v, rfl, hown, hb1⟩)
  unfold OwnI at hown
  obtain ⟨la, lc, rfl, _, hsl⟩ := own_sl1 hown
  rw [linksP_len, HLU.out]
  have HSL := Lib.hid (fun V (hV : Below w1.heap.size w1 V) => hsl.below hV)
  have HB1 := Lib.hid hb1
  clear hown hsl hb1 HL c2 c3 c4 c5 d0 d1 d1'
  go_upto_region 5 with fail
  go_loopw [1, 10] (fun s1 s10 wr => ∃ (q z : Nat) (y : List Int), q ≤ lb ∧ s10 = .int .i64 (q : Int) ∧ s1 = .int .i64 (z : Int) ∧ Hid ((nodesL wss)[z]? = some y) ∧ Hid (y = goesB fold wss x (bs.take q)) ∧ Hid (Below w1.heap.size w1 wr)) (fun _ s _ => lb - (intOf s).toNat)
  case atStart => exact ⟨0, j, x, Nat.zero_le _, rfl, rfl, HNX, by rw [Hid, List.take_zero, goesB_nil HXM.out], Below.refl _ _⟩
  case round =>
   obtain ⟨q, z, y, hq, rfl, rfl, HY, HYG, HB⟩ := hrel
   have HBW : Hid (Below w.heap.size w wr) := HB1.out.trans (HB.out.mono HB1.out.size)
   by_cases hql : q < lb
   ·
    obtain ⟨b0, o0, cv, e0, hl0, cx, hc⟩ := sl1_at (HX.out.below HBW.out).1 hql
    have hcb := HX.out.2 cv (List.mem_of_getElem? hc)
    obtain ⟨c, rfl⟩ : ∃ c : Nat, cv = (c : Int) := ⟨cv.toNat, by omega⟩
    have hc6 : c < 256 := by omega
    subst e0
    obtain ⟨G, hG⟩ : ∃ G, goesV wss y (fcB fold (c : Int)) = G := ⟨_, rfl⟩
    have HG := Lib.hid hG
    have hGN : ∃ (z' : Nat) (y' : List Int), G = (z' : Int) ∧ (nodesL wss)[z']? = some y' ∧ y' = goesB fold wss x (bs.take (q + 1)) := by
     have e1 : bs.take (q + 1) = bs.take q ++ [(c : Int)] := by rw [take_step hc]
     obtain ⟨z', h1, h2, _⟩ := node_ex (goesB_mem (fold := fold) (ws := wss) (x := x) (bs.take (q + 1)))
     refine ⟨z', _, ?_, h1, rfl⟩
     rw [← hG, HYG.out, ← h2, e1, goesB_snoc]
    have HGN := Lib.hid hGN
    obtain ⟨d, hd⟩ : ∃ d, fcB fold (c : Int) = d := ⟨_, rfl⟩
    rw [hd] at HG
    have HKF : Hid (∀ (z : Nat) (y : List Int), (nodesL wss)[z]? = some y → kidW fold wss (z : Int) c = findP (nodesL wss) (y ++ [d])) := fun z y hy => by rw [kidW_node hy, hd]
    have hkq := HKD.out wr HBW.out (z : Int) c hc6
    obtain ⟨⟨r0, ok0⟩, hro⟩ : ∃ R, kidW fold wss (z : Int) c = R := ⟨_, rfl⟩
    rw [hro] at hkq
    dsimp only at hkq
    have HRO := Lib.hid hro
    have e0 : decide ((q : Int) < (lb : Int)) = true := by simp; omega
    have e0' : decide (q < lb) = true := by simp; omega
    have i0 : (0 : Int) ≤ (q : Int) := by omega
    have i1 : (q : Int) < (lb : Int) := by omega
    have HC := Lib.hid hc
    have HCX : Hid (∀ V, Below wr.heap.size wr V → V.cell? ⟨b0, o0 + q, none⟩ = some (.int .u8 (c : Int))) := fun V hV => (hV.cell (p := ⟨b0, o0 + q, none⟩) hl0).trans cx
    clear hG hGN hd hro hc hcb hql
    go_upto_region 8 with (go_at_call 17; refine hkq.mono ?_; rintro e w2 ⟨rfl, hb2⟩)
    obtain ⟨W0, hW0⟩ : ∃ X, X = wr := ⟨_, rfl⟩
    subst hW0
    clear cx hkq e0 e0'
    have HB2 := Lib.hid hb2
    clear hb2
    go_loopw [1, 11, 12] (fun s1 s11 s12 wr => ∃ (z : Nat) (y : List Int) (r : Int) (ok : Bool), s1 = .int .i64 (z : Int) ∧ s11 = .int .i64 r ∧ s12 = .bool ok ∧ Hid ((nodesL wss)[z]? = some y) ∧ Hid (kidW fold wss (z : Int) c = (r, ok)) ∧ Hid (goesV wss y d = G) ∧ Hid (Below W0.heap.size W0 wr)) (fun s _ _ _ => (intOf s).toNat)
    case atStart => exact ⟨z, y, r0, ok0, rfl, rfl, rfl, HY, HRO, HG, HB2⟩
    case round =>
     clear HG HRO HB2 HY
     obtain ⟨z', y', r, ok, rfl, rfl, rfl, HY', HRO, HG, HB2⟩ := hrel
     have HBW2 : Hid (Below w.heap.size w wr) := HBW.out.trans (HB2.out.mono HBW.out.size)
     have HB3 : Hid (Below w1.heap.size w1 wr) := HB.out.trans (HB2.out.mono HB.out.size)
     have hfin : ok = true ∨ (ok = false ∧ z' = 0) → r = G := fun hh => by
      have h1 := HRO.out
      rw [HKF.out z' y' HY'.out] at h1
      by_cases hm : y' ++ [d] ∈ nodesL wss
      ·
       rw [on_here hm, HG.out] at h1
       exact (congrArg Prod.fst h1).symm
      ·
       rw [findP_no hm] at h1
       have e2 := congrArg Prod.snd h1
       have e1 := congrArg Prod.fst h1
       dsimp only at e1 e2
       rcases hh with hh | ⟨_, hz⟩
       · rw [hh] at e2; cases e2
       ·
        subst hz
        have hy0 : y' = [] := (node_zero HY'.out).1 rfl
        subst hy0
        rw [← HG.out, on_root hm, ← e1]
     have HFIN := Lib.hid hfin
     clear hfin
     cases ok with
     | true =>
      obtain rfl : r = G := HFIN.out (.inl rfl)
      obtain ⟨z2, y2, rfl, h1, h2⟩ := HGN.out
      have HY2 := Lib.hid h1
      have HG2 := Lib.hid h2
      clear h1 h2
      go_wp2
      go_roundw
      case rel => exact ⟨q + 1, z2, y2, by omega, by go_num, rfl, HY2, HG2, HB3⟩
      case measure => simp [intOf]; omega
     | false =>
      by_cases hz0 : z' = 0
      ·
       subst hz0
       obtain rfl : r = G := HFIN.out (.inr ⟨rfl, rfl⟩)
       obtain ⟨z2, y2, rfl, h1, h2⟩ := HGN.out
       have HY2 := Lib.hid h1
       have HG2 := Lib.hid h2
       clear h1 h2
       go_wp2
       go_roundw
       case rel => exact ⟨q + 1, z2, y2, by omega, by go_num, rfl, HY2, HG2, HB3⟩
       case measure => simp [intOf]; omega
      ·
       have hm : y' ++ [d] ∉ nodesL wss := fun hm => by
        have h1 := HRO.out
        rw [HKF.out z' y' HY'.out, on_here hm] at h1
        cases congrArg Prod.snd h1
       have hy0 : y' ≠ [] := fun e => hz0 ((node_zero HY'.out).2 e)
       obtain ⟨k, hk1, hk2, hk3⟩ := link_low HY'.out hz0
       have hzl : z' < t.un := by rw [← HLU.out]; exact (List.getElem?_eq_some_iff.1 HY'.out).1
       obtain ⟨b1, o1, v1, e1, hl1, cl, hv1⟩ := sl1_at (HSL.out wr HB3.out) (by rw [linksP_len, HLU.out]; exact hzl)
       have hvk : v1 = (k : Int) := by rw [hk1] at hv1; exact (Option.some.inj hv1).symm
       subst hvk
       subst e1
       have HY2 := Lib.hid hk3
       have HG2 : Hid (goesV wss (linkL (nodesL wss) y') d = G) := by rw [Hid, ← on_fall hy0 hm]; exact HG.out
       have hcx := HCX.out wr HB2.out
       have hkq := HKD.out wr HBW2.out (k : Int) c hc6
       obtain ⟨⟨r1, ok1⟩, hro⟩ : ∃ R, kidW fold wss (k : Int) c = R := ⟨_, rfl⟩
       rw [hro] at hkq
       dsimp only at hkq
       have HRO1 := Lib.hid hro
       have e0 : ((z' : Int) == 0) = false := by simpa using hz0
       have e1 : ((z' : Int) != 0) = true := by simpa using hz0
       have e2 : (z' == 0) = false := by simpa using hz0
       have e3 : (z' != 0) = true := by simpa using hz0
       have j0 : (0 : Int) ≤ (z' : Int) := by omega
       have j1 : (z' : Int) < (t.un : Int) := by omega
       have HK2 := Lib.hid hk2
       clear hm hy0 hk1 hk2 hk3 hv1 hro hz0 hzl
       go_wp2_with (go_at_call 17; refine hkq.mono ?_; rintro e w3 ⟨rfl, hb3⟩; have HB4 := Lib.hid (HB2.out.trans (hb3.mono HB2.out.size)); clear hb3)
       go_roundw
       case rel => exact ⟨k, _, r1, ok1, rfl, rfl, rfl, HY2, HRO1, HG2, HB4⟩
       case measure =>
        have := HK2.out
        simp [intOf]
        omega
   ·
    obtain rfl : q = lb := by omega
    have e0 : decide ((q : Int) < (q : Int)) = false := by simp
    have HR : Hid (nodeI wss (goesB fold wss x bs) = (z : Int)) := by
     have h1 := HYG.out
     rw [List.take_of_length_le (by rw [hbl]; exact Nat.le_refl _)] at h1
     rw [Hid, ← h1, nodeI_at HY.out]
    clear hql
    go_wp2
    go_ret2
    exact ⟨by rw [HR.out]; rfl, HBW.out⟩
 ·
  have hR : nextT fold wss i bs = (0, false) := nextT_out (by omega) bs
  rw [hR]
  dsimp only
  have e0 : decide (i < 0) = true ∨ (decide (i < 0) = false ∧ decide ((t.un : Int) ≤ i) = true) := by
   by_cases h0 : i < 0
   · exact .inl (by simpa using h0)
   · exact .inr ⟨by simpa using h0, by simp; omega⟩
  clear hi hup hlu h hR hX
  rcases e0 with e1 | ⟨e1, e2⟩
  all_goals
   go_enter Tryz.func18, Tryz.ntmps18
   go_wp2
   go_ret2
   exact ⟨rfl, Below.refl _ _⟩
end
end Go.Proofs.YtglfdclpjmhoiaaGreat

/- The law DenseClass (layer 11): walked. Printed by exp.py. -/

namespace Go.Proofs.YtglfdclpjmhoiaaGreat
open Go.RowKit Go.Sort

theorem any_take {α : Type} (f : α → Bool) {l : List α} {i : Nat} {x : α} (h : l[i]? = some x) : (l.take (i + 1)).any f = ((l.take i).any f || f x) := by
 rw [List.take_add_one, h, List.any_append]; simp

end Go.Proofs.YtglfdclpjmhoiaaGreat

/- The document's classes (layer 10): is a byte one of a set's; walked. Printed by exp.py. -/

namespace Go.Proofs.YtglfdclpjmhoiaaGreat
open Go.RowKit Go.Sort

/-- .. or one that is the same by fold. -/
def sameQ (fold : Bool) (ws : List (List Int)) (c : Int) : Bool := ws.any fun w => w.any fun x => sameL fold [x] [c]
theorem sameQ_inB {fold : Bool} {ws : List (List Int)} (hg : noGreat fold ws) (c : Int) : sameQ fold ws c = inB fold ws c := by
 rw [Bool.eq_iff_iff, inB_fc hg]
 unfold sameQ wordB
 rw [List.any_eq_true]
 have key : ∀ x, wordB ws x → (sameL fold [x] [c] = true ↔ x = fcB fold c) := fun x hx => by
  unfold sameL
  rw [decide_eq_true_iff, foldL_fcB, foldL_fcB]
  have hfx : fcB fold x = x := by
   unfold fcB foldI
   cases fold with
   | false => rfl
   | true => rw [if_pos rfl, if_neg (hg rfl x hx)]
  simp [hfx]
 constructor
 ·
  rintro ⟨w, h1, h2⟩
  rw [List.any_eq_true] at h2
  obtain ⟨x, h3, h4⟩ := h2
  have := (key x ⟨w, h1, h3⟩).1 h4
  subst this
  exact ⟨w, h1, h3⟩
 ·
  rintro ⟨w, h1, h2⟩
  exact ⟨w, h1, by rw [List.any_eq_true]; exact ⟨_, h2, (key _ ⟨w, h1, h2⟩).2 rfl⟩⟩

set_option maxRecDepth 100000 in
set_option maxHeartbeats 8000000 in
theorem in10_any (fold : Bool) (a : Option Addr) (la ca : Nat) (c : Nat) (wss : List (List Int)) (w : World) (hA : Wds w a la wss) (hla : la ≤ 1000000) (hM : ∀ x ∈ wss, x.length ≤ 1000000) (hc : c < 256) :
  Calls Tryz.prog 38 #[.agg (setV fold a la ca), .int .u8 (c : Int)] w fun e w' => e = .returned (.bool (sameQ fold wss (c : Int))) ∧ Below w.heap.size w w' := by
 have HL := Lib.hid hA.len
 obtain ⟨W, hW⟩ : ∃ W, W = w.alloc (.cells (setV fold a la ca) 24) := ⟨_, rfl⟩
 have hB : Below w.heap.size w W := by rw [hW]; exact below_alloc _ _
 have hO : Bx w.heap.size [.cells (setV fold a la ca) 24] W := by rw [hW]; exact (Bx.nil _ w).snoc _ rfl
 have KS : Hid (∀ V, RowKit.Below W.heap.size W V → V.cell? ⟨w.heap.size, 0, none⟩ = some (.bool fold) ∧ V.cell? ⟨w.heap.size, 1, none⟩ = some (.slice a la ca)) := fun V hV =>
  have h := hO.below hV
  ⟨h.cell (i := 0) rfl rfl, h.cell (i := 0) rfl rfl⟩
 have HA := Lib.hid (hA.below hB)
 have HB := Lib.hid hB
 have HM := Lib.hid hM
 obtain ⟨res, hres⟩ : ∃ r, sameQ fold wss (c : Int) = r := ⟨_, rfl⟩
 rw [hres]
 have HRES := Lib.hid hres
 clear hA hO hB hM hres
 go_enter Tryz.func38, Tryz.ntmps38
 go_upto_region 1 with fail
 rw [← hW]
 clear hW
 go_wp2_with fail
 go_loopw [5] (fun s5 wr => ∃ i : Nat, i ≤ la ∧ s5 = .int .i64 i ∧ Hid ((wss.take i).any (fun w => w.any fun x => sameL fold [x] [(c : Int)]) = false) ∧ RowKit.Below W.heap.size W wr) (fun s _ => la - (intOf s).toNat)
 case atStart => exact ⟨0, Nat.zero_le _, rfl, rfl, Below.refl _ _⟩
 case round =>
  obtain ⟨i, hi, rfl, HBB, hBr⟩ := hrel
  obtain ⟨c0, c1⟩ := KS.out wr hBr
  by_cases hil : i < la
  ·
   have hd : decide ((i : Int) < (la : Int)) = true := by simp; omega
   obtain ⟨bb, off, aw, lw, cw, z, hbb, hbl, hcell, hy, hY, hlc⟩ := (HA.out.below hBr).at_ hil
   subst hbb
   have i5 : (0 : Int) ≤ (i : Int) := by omega
   have i6 : (i : Int) < (la : Int) := by omega
   have HYY := Lib.hid hy
   have HY := Lib.hid hY
   have HBr := Lib.hid hBr
   have i7 : lw ≤ 1000000 := by have := HM.out z (List.mem_of_getElem? HYY.out); rw [HY.out.len] at this; exact this
   have KS2 : Hid (∀ V, RowKit.Below wr.heap.size wr V → V.cell? ⟨w.heap.size, 0, none⟩ = some (.bool fold) ∧ V.cell? ⟨w.heap.size, 1, none⟩ = some (.slice (some ⟨bb, off, none⟩) la ca) ∧ V.cell? ⟨bb, off + i, none⟩ = some (.slice aw lw cw)) := fun V hV => by
    obtain ⟨q0, q1⟩ := KS.out V (HBr.out.trans (hV.mono HBr.out.size))
    exact ⟨q0, q1, (World.cell?_of_block (hV.block _ hbl)).trans hcell⟩
   clear hy hY hBr
   go_wp2_with fail
   go_loopw [6] (fun s6 wq => ∃ k : Nat, k ≤ lw ∧ s6 = .int .i64 k ∧ Hid ((z.take k).any (fun x => sameL fold [x] [(c : Int)]) = false) ∧ Hid (RowKit.Below wr.heap.size wr wq)) (fun s _ => lw - (intOf s).toNat)
   case atStart => exact ⟨0, Nat.zero_le _, rfl, rfl, Below.refl _ _⟩
   case round =>
    obtain ⟨k, hk, rfl, HB1, hBq⟩ := hrel
    obtain ⟨c0, c1, c2⟩ := KS2.out wr hBq.out
    have HBw := Lib.hid (HBr.out.trans (hBq.out.mono HBr.out.size))
    by_cases hkl : k < lw
    ·
     have hd2 : decide ((k : Int) < (lw : Int)) = true := by simp; omega
     obtain ⟨b3, o3, cI, e3, hl3, cc, hc3⟩ := sl1_at ((HY.out.below hBq.out).1) hkl
     subst e3
     have hcr := HY.out.2 cI (List.mem_of_getElem? hc3)
     obtain ⟨x, rfl⟩ : ∃ x : Nat, cI = (x : Int) := ⟨cI.toNat, by omega⟩
     have j1 : (0 : Int) ≤ (k : Int) := by omega
     have j2 : (k : Int) < (lw : Int) := by omega
     obtain ⟨H, hH⟩ : ∃ H, (fun x => sameL fold [x] [(c : Int)]) (x : Int) = H := ⟨_, rfl⟩
     have HT : Hid (H = true → res = true) := fun e => by
      rw [← HRES.out]
      unfold sameQ
      rw [List.any_eq_true]
      refine ⟨z, List.mem_of_getElem? HYY.out, ?_⟩
      rw [List.any_eq_true]
      exact ⟨_, List.mem_of_getElem? hc3, hH.trans e⟩
     have HF : Hid (H = false → (z.take (k + 1)).any (fun x => sameL fold [x] [(c : Int)]) = false) := fun e => by
      rw [any_take _ hc3, HB1.out]; exact hH.trans e
     have hyw := HY.out.below hBq.out
     have hcut := hyw.cut (lo := k) (m := 1) (by omega)
     have hz1 : (z.drop k).take 1 = [(x : Int)] := by
      obtain ⟨hlt, he⟩ := List.getElem?_eq_some_iff.1 hc3
      rw [List.drop_eq_getElem_cons hlt, he]; rfl
     rw [hz1] at hcut
     have KQ : Hid (∀ V, RowKit.Below wr.heap.size wr V → V.cell? ⟨w.heap.size, 0, none⟩ = some (.bool fold) ∧ V.cell? ⟨w.heap.size, 1, none⟩ = some (.slice (some ⟨bb, off, none⟩) la ca) ∧ V.cell? ⟨bb, off + i, none⟩ = some (.slice (some ⟨b3, o3, none⟩) lw cw)) := fun V hV => KS2.out V (hBq.out.trans (hV.mono hBq.out.size))
     have hcut2 : Bys wr (some ⟨b3, o3 + k, none⟩) 1 [(x : Int)] := by simpa [add_plain] using hcut
     have HCUT := Lib.hid hcut2
     have e4 : IntKind.i64.wrap ((k : Int) + 1) = (k : Int) + 1 := by have := wrap_nat (x := k + 1) (by omega); simpa using this
     have e5 : ((k : Int) + 1).toNat = k + 1 := by omega
     have e6 : ¬ cw = k := by omega
     have e7 : (0 : Int) ≤ (k : Int) + 1 := by omega
     have j3 : (k : Int) + 1 ≤ (cw : Int) := by omega
     have j4 : (k : Int) ≤ (k : Int) + 1 := by omega
     have j5 : (k : Int) ≤ (cw : Int) := by omega
     clear hc3 hyw hcut hcut2 hz1 cc
     go_upto_region 7 with fail
     refine wp_region_noPanic ?_
     refine wp_region_held_drew (S := RowKit.Below wr.heap.size wr) (by kernel_rfl) (bel_drewN wr 1) (fun hHeld => ?_)
     change wpAnyH _ _ _ _ _ 14 _ _ _
     refine tkW 0 (v := ?_) ?_ ?_
     rotate_left
     ·
      intro V hV
      first | (go_simp; done) | (go_simp; with_reducible rfl)
     try simp only [Act.put, pA, pB, pC]
     refine tkW 1 (v := ?_) ?_ ?_
     rotate_left
     ·
      intro V hV
      obtain ⟨q0, q1, q2⟩ := KQ.out V hV
      first | (go_simp; done) | (go_simp; with_reducible rfl)
     try simp only [Act.put, pA, pB, pC]
     refine tkW 2 (v := ?_) ?_ ?_
     rotate_left
     ·
      intro V hV
      first | (go_simp; done) | (go_simp; with_reducible rfl)
     try simp only [Act.put, pA, pB, pC]
     refine tkW 3 (v := ?_) ?_ ?_
     rotate_left
     ·
      intro V hV
      obtain ⟨q0, q1, q2⟩ := KQ.out V hV
      first | (go_simp; done) | (go_simp; with_reducible rfl)
     try simp only [Act.put, pA, pB, pC]
     iterate 2 (refine tkF 13 (v := ?_) ?_ ?_; rotate_left; (· intro V hV; first | (go_simp; done) | (go_simp; with_reducible rfl)); try simp only [Act.put, pA, pB, pC])
     refine tkW 6 (v := ?_) ?_ ?_
     rotate_left
     ·
      intro V hV
      obtain ⟨q0, q1, q2⟩ := KQ.out V hV
      first | (go_simp; done) | (go_simp; with_reducible rfl)
     try simp only [Act.put, pA, pB, pC]
     iterate 5 (refine tkF 13 (v := ?_) ?_ ?_; rotate_left; (· intro V hV; first | (go_simp; done) | (go_simp; with_reducible rfl)); try simp only [Act.put, pA, pB, pC])
     refine rdy 12 (fun K hK => ?_)
     go_simp
     obtain ⟨WX, hWX⟩ : ∃ WX, WX = (wr.alloc (.cells #[.int .u8 (c : Int)] 5)).drew := ⟨_, rfl⟩
     have hBX : RowKit.Below wr.heap.size wr WX := by rw [hWX]; exact (below_alloc wr _).drew
     have hX1 : Bys WX (some ⟨wr.heap.size, 0, none⟩) 1 [(c : Int)] := by
      rw [hWX]
      exact (bys_lay [(c : Int)] (fun y hy => by simp at hy; omega) _ _ rfl).below (Below.refl _ _).drew
     have hX2 := HCUT.out.below hBX
     rw [← hWX]
     refine hK.out _ _ hBX (fun hNew => ?_)
     clear hK K hHeld hNew hWX
     try simp only [Act.put, pA, pB, pC]
     refine rdy 13 (fun K hK => ?_)
     go_simp
     go_at_call 53; refine (rsame_any fold (some ⟨b3, o3 + k, none⟩) (some ⟨wr.heap.size, 0, none⟩) 1 (cw - k) 1 1 [(x : Int)] [(c : Int)] WX hX2 hX1 (by decide) (by decide)).mono ?_; rintro e w4 ⟨rfl, hb4⟩
     have hB4 : RowKit.Below wr.heap.size wr w4 := hBX.trans (hb4.mono hBX.size)
     refine hK.out _ _ hB4 (fun hNew => ?_)
     clear hK K hNew hX1 hX2 hBX hb4
     try simp only [Act.put, pA, pB, pC]
     refine wpAnyH_done (by kernel_rfl) ?_ _
     refine NoPanic.normal ?_
     have hH2 : sameL fold [(x : Int)] [(c : Int)] = H := hH
     rw [hH2]
     have HB4 := Lib.hid hB4
     clear hB4 hH hH2
     cases H with
     | true =>
      have hr := HT.out rfl
      subst hr
      clear HT HF
      go_wp2_with fail
      go_ret
      exact ⟨rfl, HB.out.trans ((HBw.out.trans (HB4.out.mono HBw.out.size)).mono HB.out.size)⟩
     | false =>
      have HNX := Lib.hid (HF.out rfl)
      clear HT HF
      go_wp2_with fail
      go_roundw
      case rel => exact ⟨k + 1, by omega, by go_num, HNX, hBq.out.trans (HB4.out.mono hBq.out.size)⟩
      case measure => simp [intOf]; omega
    ·
     obtain rfl : k = lw := by omega
     have hd2 : decide ((k : Int) < (k : Int)) = false := by simp
     have HNX : Hid ((wss.take (i + 1)).any (fun w => w.any fun x => sameL fold [x] [(c : Int)]) = false) := by
      have := HB1.out
      rw [List.take_of_length_le (by rw [HY.out.len]; exact Nat.le_refl _)] at this
      rw [Hid, any_take _ HYY.out, HBB.out, this]
      rfl
     go_wp2_with fail
     go_roundw
     case rel => exact ⟨i + 1, by omega, by go_num, HNX, HBw.out⟩
     case measure => simp [intOf]; omega
  ·
   obtain rfl : i = la := by omega
   have hd : decide ((i : Int) < (i : Int)) = false := by simp
   have hr : res = false := by
    have := HBB.out
    rw [List.take_of_length_le (by rw [HL.out]; exact Nat.le_refl _)] at this
    exact HRES.out.symm.trans this
   subst hr
   go_wp2_with fail
   go_ret
   exact ⟨rfl, HB.out.trans (hBr.mono HB.out.size)⟩

end Go.Proofs.YtglfdclpjmhoiaaGreat

/- The document's classes (layer 10): of each byte its class; walked. -/

namespace Go.Proofs.YtglfdclpjmhoiaaGreat
open Go.RowKit Go.Sort

/-- 256 numbers, of which the first ones are told. -/
def fullC (p : Int → Bool) (fold : Bool) (i : Nat) : List Int := (clsN p fold i).1 ++ List.replicate (256 - i) 0
theorem fullC_len (p : Int → Bool) (fold : Bool) {i : Nat} (h : i ≤ 256) : (fullC p fold i).length = 256 := by
 unfold fullC
 rw [List.length_append, clsN_len, List.length_replicate]; omega
theorem fullC_end (p : Int → Bool) (fold : Bool) : fullC p fold 256 = (clsN p fold 256).1 := by
 unfold fullC
 rw [Nat.sub_self, List.replicate_zero, List.append_nil]
theorem fullC_at {p : Int → Bool} {fold : Bool} {i j : Nat} (h : j < i) : (fullC p fold i)[j]? = (clsN p fold i).1[j]? := by
 unfold fullC
 exact List.getElem?_append_left (by rw [clsN_len]; exact h)
theorem fullC_set {p : Int → Bool} {fold : Bool} {i : Nat} (h : i < 256) (v : Int) (hv : (clsN p fold (i + 1)).1 = (clsN p fold i).1 ++ [v]) : (fullC p fold i).set i v = fullC p fold (i + 1) := by
 unfold fullC
 obtain ⟨m, hm⟩ : ∃ m, 256 - i = m + 1 := ⟨255 - i, by omega⟩
 rw [hm, List.set_append_right _ _ (by rw [clsN_len]; exact Nat.le_refl _), clsN_len, Nat.sub_self, List.replicate_succ, List.set_cons_zero, hv, List.append_assoc, show 256 - (i + 1) = m by omega]
 rfl
theorem fullC_zero {p : Int → Bool} {fold : Bool} {i : Nat} (h : i < 256) (hv : (clsN p fold (i + 1)).1 = (clsN p fold i).1 ++ [0]) : fullC p fold i = fullC p fold (i + 1) := by
 unfold fullC
 obtain ⟨m, hm⟩ : ∃ m, 256 - i = m + 1 := ⟨255 - i, by omega⟩
 rw [hm, List.replicate_succ, hv, List.append_assoc, show 256 - (i + 1) = m by omega]
 rfl
/-- A row of numbers in a variable of 256. -/
def ArrB (W : World) (B : Nat) (l : List Int) : Prop := W.heap[B]? = some (.cells (l.map (Value.int .i64)).toArray 51 (0, 0))
theorem ArrB.lt {W : World} {B : Nat} {l : List Int} (h : ArrB W B l) : B < W.heap.size := (Array.getElem?_eq_some_iff.1 h).1
theorem ArrB.cell {W : World} {B : Nat} {l : List Int} (h : ArrB W B l) {i : Nat} {v : Int} (hv : l[i]? = some v) : W.cell? ⟨B, i, none⟩ = some (.int .i64 v) := by
 rw [cell_of_row W B i _ _ _ h]
 simp [hv]
theorem ArrB.frozen {W : World} {B : Nat} {l : List Int} (h : ArrB W B l) (i : Nat) : W.frozen? ⟨B, i, none⟩ = false := by
 have h2 : W.heap[B]? = some (.cells (l.map (Value.int .i64)).toArray 51 (0, 0)) := h
 simp [World.frozen?, h2]
theorem ArrB.set {W : World} {B : Nat} {l : List Int} (h : ArrB W B l) (i : Nat) (v : Int) : ArrB (W.setCell ⟨B, i, none⟩ (.int .i64 v)) B (l.set i v) := by
 have h2 : W.heap[B]? = some (.cells (l.map (Value.int .i64)).toArray 51 (0, 0)) := h
 unfold ArrB
 rw [setCell_eq_setRow W B i _ _ _ _ h2, setRow_heap W B _ _ _ _ h2]
 simp [List.map_set]
theorem ArrB.below {W V : World} {B : Nat} {l : List Int} (h : ArrB W B l) (hb : Below W.heap.size W V) : ArrB V B l := (hb.block B h.lt).trans h

set_option maxRecDepth 100000 in
set_option maxHeartbeats 8000000 in
theorem rof10_yes (fold : Bool) (a : Option Addr) (la ca : Nat) (wss : List (List Int)) (w : World) (hA : Wds w a la wss) (hla : la ≤ 1000000) (hM : ∀ x ∈ wss, x.length ≤ 1000000) (hr : rightP fold wss = true) :
  Calls Tryz.prog 20 #[.agg (setV fold a la ca)] w fun e w' => e = .returned (.tuple #[clsV (clsP fold wss), .int .i64 (manyP fold wss), .int .i64 0]) ∧ Below w.heap.size w w' := by
 obtain ⟨W, hW⟩ : ∃ W, W = ((w.alloc (.cells (setV fold a la ca) 24)).alloc (.cells Tryz.zeroCells51 51)).alloc (.cells Tryz.zeroCells51 51) := ⟨_, rfl⟩
 have hB : Below w.heap.size w W := by rw [hW]; exact (((Below.refl _ _).alloc (Nat.le_refl _) _).alloc (by simp) _).alloc (by simp; omega) _
 have hO : Bx w.heap.size [.cells (setV fold a la ca) 24, .cells Tryz.zeroCells51 51, .cells Tryz.zeroCells51 51] W := by rw [hW]; exact (((Bx.nil _ w).snoc _ rfl).snoc _ (by simp)).snoc _ (by simp)
 have HO := Lib.hid hO
 have HA0 := Lib.hid hA
 have HB := Lib.hid hB
 have hg : noGreat fold wss := noGreat_of (right_nodup hr).2
 have HG := Lib.hid hg
 have hR := rright_any fold a la ca wss W (hA.below hB) hla hM
 rw [← right_eq, hr] at hR
 have HR := Lib.hid hR
 have s0 : W.cell? ⟨w.heap.size, 0, none⟩ = some (.bool fold) := hO.cell (i := 0) rfl rfl
 have s1 : W.cell? ⟨w.heap.size, 1, none⟩ = some (.slice a la ca) := hO.cell (i := 0) rfl rfl
 clear hA hO hB hg hR hr
 go_enter Tryz.func20, Tryz.ntmps20
 go_upto_region 2 with fail
 rw [← hW]
 clear hW
 go_wp2_with fail
 refine HR.out.mono ?_
 rintro e w1 ⟨rfl, hb1⟩
 have hO1 := HO.out.below hb1
 obtain ⟨p, hp⟩ : ∃ p, inB fold wss = p := ⟨_, rfl⟩
 have HP := Lib.hid hp
 have hA1 : ArrB w1 (w.heap.size + 2) (fullC p fold 0) := by
  have h := hO1 2 _ rfl
  rw [zero25] at h
  exact h
 have KS : Hid (∀ V, RowKit.Below (w.heap.size + 2) w1 V → V.cell? ⟨w.heap.size, 0, none⟩ = some (.bool fold) ∧ V.cell? ⟨w.heap.size, 1, none⟩ = some (.slice a la ca)) := fun V hV => by
  have h0 := hO1 0 _ rfl
  have h1 : V.heap[w.heap.size]? = _ := (hV.block _ (by omega)).trans h0
  simp [World.cell?, h1]
 have HZ1 : Hid (w1.heap[w.heap.size + 1]? = some (.cells Tryz.zeroCells51 51 (0, 0))) := hO1 1 _ rfl
 have HBB := Lib.hid (HB.out.trans (hb1.mono HB.out.size))
 have hl1 : w.heap.size + 2 < w1.heap.size := hA1.lt
 have hIN : Hid (∀ V, RowKit.Below (w.heap.size + 2) w1 V → ∀ c : Nat, c < 256 → Calls Tryz.prog 38 #[.agg (setV fold a la ca), .int .u8 (c : Int)] V fun e w' => e = .returned (.bool (p (c : Int))) ∧ RowKit.Below V.heap.size V w') := fun V hV c hc => by
  have hAV : Wds V a la wss := HA0.out.below (HBB.out.trans (hV.mono (by omega)))
  have h := in10_any fold a la ca c wss V hAV hla hM hc
  rw [sameQ_inB HG.out, HP.out] at h
  exact h
 clear s0 s1 hO1 hb1
 go_wp2_with fail
 go_loopw [6, 7] (fun s6 s7 wr => ∃ i : Nat, i ≤ 256 ∧ s7 = .int .i64 i ∧ s6 = .int .i64 ((clsN p fold i).2 : Int) ∧ Hid (ArrB wr (w.heap.size + 2) (fullC p fold i)) ∧ Hid (RowKit.Below (w.heap.size + 2) w1 wr)) (fun _ s _ => 256 - (intOf s).toNat)
 case atStart => exact ⟨0, by decide, rfl, rfl, hA1, Below.refl _ _⟩
 case round =>
  obtain ⟨i, hi, rfl, rfl, HAr, HBr⟩ := hrel
  obtain ⟨c0, c1⟩ := KS.out wr HBr.out
  by_cases hil : i < 256
  ·
   have hd : decide ((i : Int) < 256) = true := by simp; omega
   have hd' : decide (i < 256) = true := by simpa using hil
   have i1 : (0 : Int) ≤ (i : Int) := by omega
   have i2 : (i : Int) < 256 := by omega
   have e1 : IntKind.u8.wrap (i : Int) = (i : Int) := by simp [IntKind.wrap, IntKind.bits, IntKind.signed]; omega
   have HC := Lib.hid (hIN.out wr HBr.out i hil)
   have hl2 : w.heap.size + 2 < wr.heap.size := HAr.out.lt
   cases hb : p (i : Int) with
   | false =>
    rw [hb] at HC
    have HPB := Lib.hid hb
    clear hb
    go_upto_region 9 with (go_at_call 38; refine HC.out.mono ?_; rintro e w3 ⟨rfl, hb3⟩; have hA3 := HAr.out.below hb3; have hB3 := HBr.out.trans (hb3.mono (Nat.le_of_lt (Nat.lt_of_lt_of_le hl1 HBr.out.size))); obtain ⟨g0, g1⟩ := KS.out w3 hB3; have HA3 := Lib.hid hA3; have HB3 := Lib.hid hB3; clear hb3 hB3 hA3)
    have HAn : Hid (ArrB w3 (w.heap.size + 2) (fullC p fold (i + 1))) := by
     rw [Hid, ← fullC_zero hil (by rw [clsN_succ, if_pos HPB.out])]
     exact HA3.out
    have hm2 : (clsN p fold (i + 1)).2 = (clsN p fold i).2 := by rw [clsN_succ, if_pos HPB.out]
    have HM2 := Lib.hid hm2
    clear hm2
    go_roundw
    case rel => exact ⟨i + 1, by omega, by go_num, by rw [HM2.out], HAn, HB3⟩
    case measure => simp [intOf]; omega
   | true =>
    rw [hb] at HC
    have HPB := Lib.hid hb
    clear hb
    go_upto_region 9 with (go_at_call 38; refine HC.out.mono ?_; rintro e w3 ⟨rfl, hb3⟩; have hA3 := HAr.out.below hb3; have hB3 := HBr.out.trans (hb3.mono (Nat.le_of_lt (Nat.lt_of_lt_of_le hl1 HBr.out.size))); obtain ⟨g0, g1⟩ := KS.out w3 hB3; have HA3 := Lib.hid hA3; have HB3 := Lib.hid hB3; clear hb3 hB3 hA3)
    clear c0 c1
    cases fold with
    | false =>

     have hsm : ¬ (false && smallI (i : Int)) = true := by simp
     have f3 := HA3.out.frozen i
     obtain ⟨y0, hy0⟩ : ∃ y, (fullC p false i)[i]? = some y := ⟨(fullC p false i)[i]'(by rw [fullC_len p false hi]; exact hil), by simp⟩
     have f4 := HA3.out.cell hy0
     have HAn : Hid (ArrB (w3.setCell ⟨w.heap.size + 2, i, none⟩ (.int .i64 ((clsN p false i).2 : Int))) (w.heap.size + 2) (fullC p false (i + 1))) := by
      rw [Hid, ← fullC_set hil _ (by rw [clsN_succ, if_neg (by rw [HPB.out]; decide), if_neg hsm])]
      exact HA3.out.set i _
     have hm2 : (clsN p false (i + 1)).2 = (clsN p false i).2 + 1 := by rw [clsN_succ, if_neg (by rw [HPB.out]; decide), if_neg hsm]
     have HM2 := Lib.hid hm2
     have hmb := (clsN_many p false i).2
     have hBn : Hid (RowKit.Below (w.heap.size + 2) w1 (w3.setCell ⟨w.heap.size + 2, i, none⟩ (.int .i64 ((clsN p false i).2 : Int)))) := HB3.out.setCell (Nat.le_refl _) _
     obtain ⟨mi, hmi⟩ : ∃ m, (clsN p false i).2 = m := ⟨_, rfl⟩
     rw [hmi] at hmb HAn HM2 hBn ⊢
     clear hm2 hmi hy0 hsm
     go_wp2_with fail
     go_roundw
     case rel => exact ⟨i + 1, by omega, by go_num, by rw [HM2.out]; go_num, HAn, hBn⟩
     case measure => simp [intOf]; omega
    | true =>

     by_cases h97 : 97 ≤ i
     ·
      have q2 : decide ((97 : Int) ≤ (i : Int)) = true := by simp; omega
      have q2' : decide (97 ≤ i) = true := by simpa using h97
      by_cases h122 : i ≤ 122
      ·
       have q3 : decide ((i : Int) ≤ 122) = true := by simp; omega
       have q3' : decide (i ≤ 122) = true := by simpa using h122
       have hsm : (true && smallI (i : Int)) = true := by unfold smallI; simp; omega
       obtain ⟨j, hj⟩ : ∃ j, i = j + 32 := ⟨i - 32, by omega⟩
       have hij : i - 32 = j := by omega
       obtain ⟨v, hv⟩ : ∃ v, (clsN p true i).1[j]? = some v := ⟨(clsN p true i).1[j]'(by rw [clsN_len]; omega), by simp⟩
       have hsu : clsN p true (i + 1) = ((clsN p true i).1 ++ [v], (clsN p true i).2) := by rw [clsN_succ, if_neg (by rw [HPB.out]; decide), if_pos hsm, hij, hv]; rfl
       have f3 := HA3.out.frozen i
       obtain ⟨y0, hy0⟩ : ∃ y, (fullC p true i)[i]? = some y := ⟨(fullC p true i)[i]'(by rw [fullC_len p true hi]; exact hil), by simp⟩
       have f4 := HA3.out.cell hy0
       have f5 := HA3.out.cell ((fullC_at (show j < i by omega)).trans hv)
       have e2 : IntKind.i64.wrap ((i : Int) - 32) = (j : Int) := by have := wrap_nat (x := j) (by omega); rw [show (i : Int) - 32 = (j : Int) by omega]; exact this
       have e3 : wrap64 ((i : Int) - 32) = (j : Int) := by unfold wrap64; omega
       have j1 : (0 : Int) ≤ (j : Int) := by omega
       have j2 : (j : Int) < 256 := by omega
       have HAn : Hid (ArrB (w3.setCell ⟨w.heap.size + 2, i, none⟩ (.int .i64 v)) (w.heap.size + 2) (fullC p true (i + 1))) := by
        rw [Hid, ← fullC_set hil v (by rw [hsu])]
        exact HA3.out.set i _
       have HM2 : Hid ((clsN p true (i + 1)).2 = (clsN p true i).2) := by rw [Hid, hsu]
       have hBn : Hid (RowKit.Below (w.heap.size + 2) w1 (w3.setCell ⟨w.heap.size + 2, i, none⟩ (.int .i64 v))) := HB3.out.setCell (Nat.le_refl _) _
       obtain ⟨mi, hmi⟩ : ∃ m, (clsN p true i).2 = m := ⟨_, rfl⟩
       rw [hmi] at HM2 ⊢
       clear hmi hy0 hsm hsu hv hij hj
       go_wp2_with fail
       go_roundw
       case rel => exact ⟨i + 1, by omega, by go_num, by rw [HM2.out], HAn, hBn⟩
       case measure => simp [intOf]; omega
      ·
       have q3 : decide ((i : Int) ≤ 122) = false := by simp; omega
       have q3' : decide (i ≤ 122) = false := by simp; omega
       have hsm : ¬ (true && smallI (i : Int)) = true := by unfold smallI; simp; omega
       have f3 := HA3.out.frozen i
       obtain ⟨y0, hy0⟩ : ∃ y, (fullC p true i)[i]? = some y := ⟨(fullC p true i)[i]'(by rw [fullC_len p true hi]; exact hil), by simp⟩
       have f4 := HA3.out.cell hy0
       have HAn : Hid (ArrB (w3.setCell ⟨w.heap.size + 2, i, none⟩ (.int .i64 ((clsN p true i).2 : Int))) (w.heap.size + 2) (fullC p true (i + 1))) := by
        rw [Hid, ← fullC_set hil _ (by rw [clsN_succ, if_neg (by rw [HPB.out]; decide), if_neg hsm])]
        exact HA3.out.set i _
       have hm2 : (clsN p true (i + 1)).2 = (clsN p true i).2 + 1 := by rw [clsN_succ, if_neg (by rw [HPB.out]; decide), if_neg hsm]
       have HM2 := Lib.hid hm2
       have hmb := (clsN_many p true i).2
       have hBn : Hid (RowKit.Below (w.heap.size + 2) w1 (w3.setCell ⟨w.heap.size + 2, i, none⟩ (.int .i64 ((clsN p true i).2 : Int)))) := HB3.out.setCell (Nat.le_refl _) _
       obtain ⟨mi, hmi⟩ : ∃ m, (clsN p true i).2 = m := ⟨_, rfl⟩
       rw [hmi] at hmb HAn HM2 hBn ⊢
       clear hm2 hmi hy0 hsm
       go_wp2_with fail
       go_roundw
       case rel => exact ⟨i + 1, by omega, by go_num, by rw [HM2.out]; go_num, HAn, hBn⟩
       case measure => simp [intOf]; omega
     ·
      have q2 : decide ((97 : Int) ≤ (i : Int)) = false := by simp; omega
      have q2' : decide (97 ≤ i) = false := by simp; omega
      have hsm : ¬ (true && smallI (i : Int)) = true := by unfold smallI; simp; omega
      have f3 := HA3.out.frozen i
      obtain ⟨y0, hy0⟩ : ∃ y, (fullC p true i)[i]? = some y := ⟨(fullC p true i)[i]'(by rw [fullC_len p true hi]; exact hil), by simp⟩
      have f4 := HA3.out.cell hy0
      have HAn : Hid (ArrB (w3.setCell ⟨w.heap.size + 2, i, none⟩ (.int .i64 ((clsN p true i).2 : Int))) (w.heap.size + 2) (fullC p true (i + 1))) := by
       rw [Hid, ← fullC_set hil _ (by rw [clsN_succ, if_neg (by rw [HPB.out]; decide), if_neg hsm])]
       exact HA3.out.set i _
      have hm2 : (clsN p true (i + 1)).2 = (clsN p true i).2 + 1 := by rw [clsN_succ, if_neg (by rw [HPB.out]; decide), if_neg hsm]
      have HM2 := Lib.hid hm2
      have hmb := (clsN_many p true i).2
      have hBn : Hid (RowKit.Below (w.heap.size + 2) w1 (w3.setCell ⟨w.heap.size + 2, i, none⟩ (.int .i64 ((clsN p true i).2 : Int)))) := HB3.out.setCell (Nat.le_refl _) _
      obtain ⟨mi, hmi⟩ : ∃ m, (clsN p true i).2 = m := ⟨_, rfl⟩
      rw [hmi] at hmb HAn HM2 hBn ⊢
      clear hm2 hmi hy0 hsm
      go_wp2_with fail
      go_roundw
      case rel => exact ⟨i + 1, by omega, by go_num, by rw [HM2.out]; go_num, HAn, hBn⟩
      case measure => simp [intOf]; omega
  ·
   obtain rfl : i = 256 := by omega
   have hd : decide ((256 : Int) < 256) = false := by decide
   have hfe := fullC_end p fold
   have hfl : (fullC p fold 256).length = 256 := fullC_len p fold (Nat.le_refl _)
   have hAl : wr.heap[w.heap.size + 2]? = some (.cells ((fullC p fold 256).map (Value.int .i64)).toArray 51 (0, 0)) := HAr.out
   have hz2 : wr.heap[w.heap.size + 1]? = some (.cells Tryz.zeroCells51 51 (0, 0)) := (HBr.out.block _ (by omega)).trans HZ1.out
   have hcl : clsP fold wss = fullC p fold 256 := by rw [hfe, ← HP.out]; rfl
   have hmn : manyP fold wss = (clsN p fold 256).2 := by rw [← HP.out]; rfl
   obtain ⟨Z, hZ⟩ : ∃ Z, fullC p fold 256 = Z := ⟨_, rfl⟩
   rw [hZ] at hfl hAl hcl
   obtain ⟨mm, hmm⟩ : ∃ m, (clsN p fold 256).2 = m := ⟨_, rfl⟩
   rw [hmm] at hmn ⊢
   have HCL := Lib.hid hcl
   have HMN := Lib.hid hmn
   have HAl := Lib.hid hAl
   have HZ2 := Lib.hid hz2
   have HIZ : Hid ((Tryz.prog.info? 51).map (·.size) = some (Z.map (Value.int .i64)).toArray.size) := by rw [Hid, rowI_size, hfl]; exact info25
   have HSZ : Hid ((Tryz.zeroCells51).size = (Z.map (Value.int .i64)).toArray.size) := by rw [Hid, zero25, rowI_size, rowI_size, hfl]; exact List.length_replicate
   have H2 := Lib.hid (setRow_heap wr (w.heap.size + 1) _ ((Z.map (Value.int .i64)).toArray) _ _ hz2)
   have HFL := Lib.hid hfl
   clear hfl hAl hz2 hcl hmn hZ hmm hfe
   go_upto_region 13 with fail
   go_wp2_with (first
    | (refine wpList_load_row rfl 51 _ rfl (w.heap.size + 2) rfl 51 _ (0, 0) _ HAl.out Tryz.underlying51 rfl HIZ.out ?_)
    | (refine wpList_store_row rfl 51 _ _ rfl (w.heap.size + 1) _ rfl rfl 51 _ HZ2.out HIZ.out HSZ.out (rowI_one Z) ?_))
   refine bodyPost_ret (results_row3 rfl rfl H2.out (by rw [rowI_size]; exact HFL.out)) rfl ?_
   exact ⟨by rw [HCL.out, HMN.out]; rfl, below_setRow (HBB.out.trans (HBr.out.mono (by omega))) (by omega) _⟩
end Go.Proofs.YtglfdclpjmhoiaaGreat
