/- Parts of the proof, one behind the other: G5, G6, G7, N1, N2, N3, Mp, M4, O4, O5, O6, ME, M2, MF, HP, Oq, E1, MH. No condition but what each theorem states. -/
import Derived.Laws.StructEq
import Derived.Test.YtbldfgaogmfoaaaGreatZP2
import Derived.Test.YtbldfgaogmfoaaaGreatZP3
import Derived.Test.YtbldfgaogmfoaaaGreatZP4
import Derived.Test.YtbldfgaogmfoaaaGreatZP5
import Derived.Test.YtbldfgaogmfoaaaGreatZP6
import Derived.Test.YtbldfgaogmfoaaaGreatZP7
import Derived.Test.YtbldfgaogmfoaaaGreatZP9
import Derived.Test.YtbldfgaogmfoaaaGreatZP10
import Derived.Test.YtbldfgaogmfoaaaGreatZP11
import Derived.Test.YtbldfgaogmfoaaaGreatZP12
set_option linter.unusedVariables false
set_option linter.unusedSimpArgs false

/- The document's tries (layer 7): the words that a trie tells; walked. -/

namespace Go.Proofs.YtbldfgaogmfoaaaGreat
open Go.RowKit Go.Sort

theorem words_hit {T : TrieT} {q i : Nat} (h : T.wrd[i]? = some (q : Int)) (hn : ∀ j < i, T.wrd[j]? ≠ some (q : Int)) (f : Nat) : wordsFrom T (f + 1) q = spellR T i :: wordsFrom T f (q + 1) := by
 have hi := (List.getElem?_eq_some_iff.1 h)
 have e : T.wrd.findIdx? (fun v => decide (v = (q : Int))) = some i := by
  rw [List.findIdx?_eq_some_iff_getElem]
  refine ⟨hi.1, by rw [hi.2]; exact decide_eq_true rfl, fun j hj => ?_⟩
  intro hc
  exact hn j hj (by rw [List.getElem?_eq_getElem (by have := hi.1; omega)]; exact congrArg some (of_decide_eq_true hc))
 conv => lhs; unfold wordsFrom
 rw [e]
theorem words_no {T : TrieT} {q : Nat} (hn : ∀ j < T.wrd.length, T.wrd[j]? ≠ some (q : Int)) (f : Nat) : wordsFrom T f q = [] := by
 cases f with
 | zero => rfl
 | succ f =>
  have e : T.wrd.findIdx? (fun v => decide (v = (q : Int))) = none := by
   rw [List.findIdx?_eq_none_iff]
   intro v hv
   obtain ⟨i, hi⟩ := List.getElem?_of_mem hv
   refine decide_eq_false (fun e => ?_)
   rw [e] at hi
   exact hn i (List.getElem?_eq_some_iff.1 hi).1 hi
  unfold wordsFrom
  rw [e]
theorem wordsR_mem {T : TrieT} : ∀ (f q : Nat), ∀ x ∈ wordsFrom T f q, ∃ z, x = spellR T z
 | 0, q, x, h => by simp [wordsFrom] at h
 | f + 1, q, x, h => by
  unfold wordsFrom at h
  split at h
  · simp at h
  ·
   rename_i i _
   rw [List.mem_cons] at h
   rcases h with h | h
   · exact ⟨_, h⟩
   · exact wordsR_mem f _ x h
theorem wordsFrom_len (T : TrieT) : ∀ (f q : Nat), (wordsFrom T f q).length ≤ f
 | 0, q => by simp [wordsFrom]
 | f + 1, q => by
  unfold wordsFrom
  split
  · simp
  ·
   have := wordsFrom_len T f (q + 1)
   simp
   omega
theorem wordsR_bd (T : TrieT) : (wordsR T).length ≤ 64 ∧ ∀ x ∈ wordsR T, x.length ≤ 32 :=
 ⟨wordsFrom_len T 64 0, fun x hx => by obtain ⟨z, rfl⟩ := wordsR_mem 64 0 x hx; exact spellR_len T z⟩

theorem OwnW.mono {w : World} {b b' : Nat} {v : Value} {wss : List (List Int)} (h : OwnW w b v wss) (hb : b' ≤ b) : OwnW w b' v wss := by
 obtain ⟨es, h1, h2, h3⟩ := h
 exact ⟨es, row_mono h1 hb, h2, fun i e xs he hx => ⟨row_mono (h3 i e xs he hx).1 hb, (h3 i e xs he hx).2⟩⟩

set_option maxRecDepth 100000 in
set_option maxHeartbeats 4000000 in
theorem rwords7_any (t : TV) (T : TrieT) (w : World) (hT : Tri w t T) (hb : t.xn ≤ 140737488351232) :
  Calls Tryz.prog 129 #[.agg t.cells] w fun e w' => ∃ v, e = .returned v ∧ OwnW w' w.heap.size v (wordsR T) ∧ Below w.heap.size w w' := by
 obtain ⟨i0, hi, hz0, hz1, hz2⟩ := info_parts sl_info
 obtain ⟨ua, un, uc, da, dn, dc, xa, xn, xc, ba, bn, bc⟩ := t
 obtain ⟨W, hW⟩ : ∃ W, W = w.alloc (.cells #[.slice ua un uc, .slice da dn dc, .slice xa xn xc, .slice ba bn bc] 34) := ⟨_, rfl⟩
 have hB : Below w.heap.size w W := by rw [hW]; exact below_alloc _ _
 have hQ : W.heap[w.heap.size]? = some (.cells #[.slice ua un uc, .slice da dn dc, .slice xa xn xc, .slice ba bn bc] 34 (0, 0)) := by rw [hW]; exact World.alloc_heap_new _ _
 obtain ⟨Q, hQe⟩ : ∃ Q, w.heap.size = Q := ⟨_, rfl⟩
 have HB := Lib.hid hB
 have hbQ : W.heap.size = Q + 1 := by rw [hW, ← hQe]; simp
 have HT := Lib.hid (hT.below hB)
 have HXL := Lib.hid hT.wrd.1
 have HBD := Lib.hid (spellR_bd hT.byt)
 have hbx : xn ≤ 140737488351232 := hb
 clear hT hb
 go_enter Tryz.func129, Tryz.ntmps129
 go_upto_region 1 with fail
 rw [← hW]
 rw [hQe] at hQ
 clear hW
 have HQ := Lib.hid hQ
 have HQe := Lib.hid hQe
 have HbQ := Lib.hid hbQ
 clear hQ hB hQe hbQ
 go_wp2
 go_loopw [3, 4] (fun s3 s4 wr => ∃ (q : Nat) (L : List (List Int)) (v3 : Value), q ≤ 64 ∧ v3 = s3 ∧ s4 = .int .i64 q ∧ L.length = q ∧ Hid (wordsR T = L ++ wordsFrom T (64 - q) q) ∧ OwnW wr W.heap.size v3 L ∧ RowKit.Below W.heap.size W wr) (fun _ s4 _ => 64 - (intOf s4).toNat)
 case atStart => exact ⟨0, [], _, Nat.zero_le _, rfl, rfl, rfl, rfl, OwnW.nil _ _, RowKit.Below.refl _ _⟩
 case round =>
  obtain ⟨q, L, v3, hq, rfl, rfl, hl, HS, hOW, hBe⟩ := hrel
  have hQr : wr.heap[Q]? = _ := (hBe.block Q (by rw [HbQ.out]; omega)).trans HQ.out
  have HOW := Lib.hid hOW
  have HBE := Lib.hid hBe
  have HLL := Lib.hid hl
  have HQR := Lib.hid hQr
  clear hOW hBe hl hQr
  by_cases hq2 : q < 64
  ·
   have e4 : decide ((q : Int) < 64) = true := by simp; omega
   have e4' : decide (q < 64) = true := by simp; omega
   go_wp2
   go_loopw [5] (fun s5 wi => ∃ i : Nat, i ≤ xn ∧ s5 = .int .i64 i ∧ Hid (∀ j < i, T.wrd[j]? ≠ some (q : Int)) ∧ RowKit.Below wr.heap.size wr wi) (fun s5 _ => xn - (intOf s5).toNat)
   case atStart => exact ⟨0, Nat.zero_le _, rfl, (fun j hj => absurd hj (Nat.not_lt_zero _)), RowKit.Below.refl _ _⟩
   case round =>
    obtain ⟨i, hin, rfl, HN, hBi⟩ := hrel
    have hTi := HT.out.below (HBE.out.trans (hBi.mono HBE.out.size))
    have hQi : wr.heap[Q]? = some (.cells #[.slice ua un uc, .slice da dn dc, .slice xa xn xc, .slice ba bn bc] 34 (0, 0)) := (hBi.block Q (Array.getElem?_eq_some_iff.1 HQR.out).1).trans HQR.out
    have c0 : wr.cell? ⟨Q, 0, none⟩ = some (.slice ua un uc) := by simp [World.cell?, hQi]
    have c1 : wr.cell? ⟨Q, 1, none⟩ = some (.slice da dn dc) := by simp [World.cell?, hQi]
    have c2 : wr.cell? ⟨Q, 2, none⟩ = some (.slice xa xn xc) := by simp [World.cell?, hQi]
    have c3 : wr.cell? ⟨Q, 3, none⟩ = some (.slice ba bn bc) := by simp [World.cell?, hQi]
    have HTI := Lib.hid hTi
    have HBI := Lib.hid hBi
    clear hQi hTi hBi
    by_cases hil : i < xn
    ·
     have hd : decide ((i : Int) < xn) = true := by simp; omega
     obtain ⟨b1, o1, u, f1, hb1, g1, hu⟩ := sl1_at HTI.out.wrd (k := i) hil
     dsimp only at f1
     subst f1
     have i1 : (0 : Int) ≤ (i : Int) := by omega
     have i2 : (i : Int) < (xn : Int) := by omega
     have HU := Lib.hid hu
     clear hu
     by_cases huq : u = (q : Int)
     ·
      have e6 : ((u : Int) != (q : Int)) = false := by simp [huq]
      have HS2 := Lib.hid (words_hit (T := T) (q := q) (i := i) (by rw [HU.out, huq]) HN.out (64 - (q + 1)))
      rw [show 64 - (q + 1) + 1 = 64 - q by omega] at HS2
      clear huq
      have e7 : ((i : Int) == (xn : Int)) = false := by simp; omega
      have HC := Lib.hid (rspell7_any _ T (i : Int) wr HTI.out)
      go_wp2_with fail
      refine HC.out.mono ?_
      rintro e w5 ⟨v8, rfl, hv8, hb5⟩
      obtain ⟨a8, c8, rfl, hc8, _⟩ := own_sl1 hv8
      obtain ⟨es, e1, e2, e3⟩ := HOW.out
      have hB05 := HBI.out.trans (hb5.mono HBI.out.size)
      have hsz0 := HBE.out.size
      have hsz1 := hB05.size
      have r1 := row_below e1 hB05
      have hLL := HLL.out
      rw [hLL] at r1
      clear c0 c1 c2 c3 g1
      go_wp2_with (at_builtin; refine wpList_append_own _ rfl _ _ 22 rfl W.heap.size 25 i0 (.slice none 0 0) 1 24 Tryz.underlying22 hi hz0 hz1 hz2 rfl (by decide) _ _ _ rfl (r1.alloc _) ⟨w5.heap.size, 0, none⟩ 1 1 [.slice a8 (spellR T (i : Int)).length c8] rfl rfl (cells_new _ _ (by simp)) (by simp [Value.oneCell']) (by unfold maxLen; omega) (by omega) (by simp; omega) ?_; intro v' w9 hown' hgrow hat)
      have hB9 := ((HBE.out.trans (hB05.mono hsz0)).alloc (by omega) (.cells #[.slice a8 (spellR T (i : Int)).length c8] 25)).grown hgrow (by simp; omega) (fun j hj => (row_lt r1 j hj).1)
      have hst := OwnW.step (W := w5.alloc (.cells #[.slice a8 (spellR T (i : Int)).length c8] 25)) (base := W.heap.size) (v := v3) (wss := L) (xs := spellR T (i : Int)) (e := .slice a8 (spellR T (i : Int)).length c8) (es := es) (by rw [hLL]; exact r1.alloc _) e2
       (fun k e xs he hx => ⟨World.ownsRow.alloc (own_below_ (e3 k e xs he hx).1 hB05) _, (e3 k e xs he hx).2⟩) (World.ownsRow.alloc (row_mono hv8 (by have := HBI.out.size; omega)) _) (HBD.out _) (by rw [hLL]; exact hown') hgrow
      have HS3 : Hid (wordsR T = (L ++ [spellR T (i : Int)]) ++ wordsFrom T (64 - (q + 1)) (q + 1)) := by
       rw [Hid, HS.out, HS2.out, List.append_assoc]
       rfl
      have hl9 : (L ++ [spellR T (i : Int)]).length = q + 1 := by rw [List.length_append, hLL]; rfl
      have HL9 := Lib.hid hl9
      have HST := Lib.hid hst
      clear hl9 hst hLL hown' r1 e1 e2 e3
      go_roundw
      case rel => exact ⟨q + 1, _, _, by omega, rfl, by go_num, HL9.out, HS3, HST.out, hB9⟩
      case measure => simp [intOf]; omega
     ·
      have e6 : ((u : Int) != (q : Int)) = true := by simp [huq]
      have HN2 : Hid (∀ j < i + 1, T.wrd[j]? ≠ some (q : Int)) := by
       intro j hj e
       by_cases hji : j < i
       · exact HN.out j hji e
       ·
        obtain rfl : j = i := by omega
        rw [HU.out] at e
        exact huq (Option.some.inj e)
      clear huq
      go_wp2
      go_roundw
      case rel => exact ⟨i + 1, by omega, by go_num, HN2, HBI.out⟩
      case measure => simp [intOf]; omega
    ·
     obtain rfl : i = xn := by omega
     have hd : decide ((i : Int) < i) = false := by simp
     have e7 : ((i : Int) == (i : Int)) = true := by simp
     have HE : Hid (wordsR T = L) := by rw [Hid, HS.out, words_no (fun j hj => HN.out j (by rw [HXL.out] at hj; exact hj)), List.append_nil]
     have HR := Lib.hid (OwnW.below HOW.out HBI.out)
     go_wp2
     go_ret
     refine ⟨v3, rfl, ?_, HB.out.trans ((HBE.out.trans (HBI.out.mono HBE.out.size)).mono HB.out.size)⟩
     rw [HE.out]
     exact OwnW.mono HR.out HB.out.size
  ·
   obtain rfl : q = 64 := by omega
   have e4 : decide (((64 : Nat) : Int) < 64) = false := by decide
   have HE : Hid (wordsR T = L) := by rw [Hid, HS.out, Nat.sub_self]; simp [wordsFrom]
   go_wp2
   go_ret
   refine ⟨v3, rfl, ?_, HB.out.trans (HBE.out.mono HB.out.size)⟩
   rw [HE.out]
   exact OwnW.mono HOW.out HB.out.size
end Go.Proofs.YtbldfgaogmfoaaaGreat

/- The document's tries (layer 7): which may be; how many nodes; words; a node's bytes; where bytes are found; which are too great; walked. -/

namespace Go.Proofs.YtbldfgaogmfoaaaGreat
open Go.RowKit Go.Sort

set_option maxRecDepth 100000 in
set_option maxHeartbeats 4000000 in
theorem rright7_any (t : TV) (T : TrieT) (w : World) (hT : Tri w t T) (hb : t.un ≤ 140737488351232 ∧ t.dn ≤ 140737488351232 ∧ t.xn ≤ 140737488351232 ∧ t.bn ≤ 140737488351232) :
  Calls Tryz.prog 93 #[.agg t.cells] w fun e w' => e = .returned (.bool (rightT T)) ∧ Below w.heap.size w w' := by
 have HE : Hid (rightT T = rightR7 T) := (rightR7_eq T).symm
 obtain ⟨ua, un, uc, da, dn, dc, xa, xn, xc, ba, bn, bc⟩ := t
 obtain ⟨hb1, hb2, hb3, hb4⟩ := hb
 dsimp only at hb1 hb2 hb3 hb4
 obtain ⟨W, hW⟩ : ∃ W, W = w.alloc (.cells #[.slice ua un uc, .slice da dn dc, .slice xa xn xc, .slice ba bn bc] 34) := ⟨_, rfl⟩
 have hB : Below w.heap.size w W := by rw [hW]; exact below_alloc _ _
 have hO : Bx w.heap.size [.cells #[.slice ua un uc, .slice da dn dc, .slice xa xn xc, .slice ba bn bc] 34] W := by rw [hW]; exact (Bx.nil _ w).snoc _ rfl
 have hT2 := hT.below hB
 have c0 : W.cell? ⟨w.heap.size, 0, none⟩ = some (.slice ua un uc) := hO.cell (i := 0) rfl rfl
 have c1 : W.cell? ⟨w.heap.size, 1, none⟩ = some (.slice da dn dc) := hO.cell (i := 0) rfl rfl
 have c2 : W.cell? ⟨w.heap.size, 2, none⟩ = some (.slice xa xn xc) := hO.cell (i := 0) rfl rfl
 have c3 : W.cell? ⟨w.heap.size, 3, none⟩ = some (.slice ba bn bc) := hO.cell (i := 0) rfl rfl
 have HUL := Lib.hid hT.up.1
 have HXL := Lib.hid hT.wrd.1
 clear hT
 by_cases hs : un ≤ 400 ∧ xn ≤ 400
 ·
  obtain ⟨hs1, hs2⟩ := hs
  have e1 : decide ((400 : Int) < (un : Int)) = false := by simp; omega
  have e1' : decide (400 < un) = false := by simp; omega
  have e2 : decide ((400 : Int) < (xn : Int)) = false := by simp; omega
  have e2' : decide (400 < xn) = false := by simp; omega
  have HZ : Hid (rightT T = (rightP false (wordsR T) && eqT (trieP (wordsR T)) T)) := by
   rw [Hid, HE.out]
   unfold rightR7
   rw [decide_eq_true (show T.up.length ≤ 400 ∧ T.wrd.length ≤ 400 by rw [HUL.out, HXL.out]; exact ⟨hs1, hs2⟩), Bool.true_and]
  have HC := Lib.hid (rwords7_any _ T W hT2 (by show xn ≤ _; omega))
  have HT2 := Lib.hid hT2
  clear hT2 HE
  go_enter Tryz.func93, Tryz.ntmps93
  go_upto_region 1 with fail
  rw [← hW]
  clear hW
  go_wp2_with fail
  refine HC.out.mono ?_
  rintro e w1 ⟨v, rfl, hv, hb1⟩
  obtain ⟨av, cv, rfl, hcv, hwd⟩ := hv.wds
  have hO1 := hO.below hb1
  have hB1 := hB.trans (hb1.mono hB.size)
  have hT1 := HT2.out.below hb1
  clear c0 c1 c2 c3 hO hB hb1 HC hv e1 e1' e2 e2'
  obtain ⟨m, hm⟩ : ∃ m, (wordsR T).length = m := ⟨_, rfl⟩
  have hm64 : m ≤ 64 := by rw [← hm]; exact (wordsR_bd T).1
  rw [hm] at hwd hcv ⊢
  clear hm
  cases hr : rightP false (wordsR T) with
  | false =>
   have HZ2 : Hid (rightT T = false) := by rw [Hid, HZ.out, hr]; rfl
   have HM := Lib.hid (rmake7_no false av m cv (wordsR T) w1 hwd (by omega) (fun x hx => by have := (wordsR_bd T).2 x hx; omega) hr)
   clear hr HZ
   go_wp2_with fail
   refine HM.out.mono ?_
   rintro e w2 ⟨rfl, hb2⟩
   have hB2 := hB1.trans (hb2.mono hB1.size)
   go_wp2
   go_ret
   exact ⟨by rw [HZ2.out]; rfl, hB2.alloc hB2.size _⟩
  | true =>
   have HZ2 : Hid (rightT T = eqT (trieP (wordsR T)) T) := by rw [Hid, HZ.out, hr, Bool.true_and]
   have HM := Lib.hid (rmake7_yes false av m cv (wordsR T) w1 hwd hr)
   have HNL : Hid ((nodesL (wordsR T)).length ≤ 400) := (right_nodes hr).2
   clear hr HZ
   go_wp2_with fail
   refine HM.out.mono ?_
   rintro e w2 ⟨t2, rfl, hT3, hb2⟩
   have hB2 := hB1.trans (hb2.mono hB1.size)
   have hO2 := hO1.below hb2
   have hT4 := hT1.below hb2
   obtain ⟨ua2, un2, uc2, da2, dn2, dc2, xa2, xn2, xc2, ba2, bn2, bc2⟩ := t2
   have hl1 : (nodesL (wordsR T)).length = un2 := by have := hT3.up.1; rw [trie_lens.1] at this; exact this
   have hl2 : (nodesL (wordsR T)).length = dn2 := by have := hT3.dep.1; rw [(trie_lens (ws := wordsR T)).2.1] at this; exact this
   have hl3 : (nodesL (wordsR T)).length = xn2 := by have := hT3.wrd.1; rw [trie_lens.2.2.1] at this; exact this
   have hl4 : (nodesL (wordsR T)).length = bn2 := by have := hT3.byt.1.1; rw [(trie_lens (ws := wordsR T)).2.2.2] at this; exact this
   have hn4 := HNL.out
   have hbd : un2 ≤ 4611686018427387904 ∧ dn2 ≤ 4611686018427387904 ∧ xn2 ≤ 4611686018427387904 ∧ bn2 ≤ 4611686018427387904 := by omega
   clear hl1 hl2 hl3 hl4 hn4
   obtain ⟨W4, hW4⟩ : ∃ W, W = w2.alloc (.cells #[.slice ua2 un2 uc2, .slice da2 dn2 dc2, .slice xa2 xn2 xc2, .slice ba2 bn2 bc2] 34) := ⟨_, rfl⟩
   have hb4 : Below w2.heap.size w2 W4 := by rw [hW4]; exact below_alloc _ _
   have hQ : W4.heap[w2.heap.size]? = some (.cells #[.slice ua2 un2 uc2, .slice da2 dn2 dc2, .slice xa2 xn2 xc2, .slice ba2 bn2 bc2] 34 (0, 0)) := by rw [hW4]; exact World.alloc_heap_new _ _
   go_upto_region 4 with fail
   rw [← hW4]
   clear hW4
   have hO4 := hO2.below hb4
   have c0 : W4.cell? ⟨w.heap.size, 0, none⟩ = some (.slice ua un uc) := hO4.cell (i := 0) rfl rfl
   have c1 : W4.cell? ⟨w.heap.size, 1, none⟩ = some (.slice da dn dc) := hO4.cell (i := 0) rfl rfl
   have c2 : W4.cell? ⟨w.heap.size, 2, none⟩ = some (.slice xa xn xc) := hO4.cell (i := 0) rfl rfl
   have c3 : W4.cell? ⟨w.heap.size, 3, none⟩ = some (.slice ba bn bc) := hO4.cell (i := 0) rfl rfl
   have k0 : W4.cell? ⟨w2.heap.size, 0, none⟩ = some (.slice ua2 un2 uc2) := by simp [World.cell?, hQ]
   have k1 : W4.cell? ⟨w2.heap.size, 1, none⟩ = some (.slice da2 dn2 dc2) := by simp [World.cell?, hQ]
   have k2 : W4.cell? ⟨w2.heap.size, 2, none⟩ = some (.slice xa2 xn2 xc2) := by simp [World.cell?, hQ]
   have k3 : W4.cell? ⟨w2.heap.size, 3, none⟩ = some (.slice ba2 bn2 bc2) := by simp [World.cell?, hQ]
   have HSM := Lib.hid (rsame7_any _ _ _ _ W4 (hT3.below hb4) (hT4.below hb4) hbd)
   have hB4 := hB2.trans (hb4.mono hB2.size)
   clear hT3 hT4 hO4 hO2 hO1 hQ hb4 hb2
   go_wp2_with fail
   refine HSM.out.mono ?_
   rintro e w5 ⟨rfl, hb5⟩
   have hB5 := hB4.trans (hb5.mono hB4.size)
   clear c0 c1 c2 c3 k0 k1 k2 k3
   obtain ⟨B, hBB⟩ : ∃ B, eqT (trieP (wordsR T)) T = B := ⟨_, rfl⟩
   have HZ3 : Hid (rightT T = B) := by rw [Hid, HZ2.out, hBB]
   rw [hBB]
   clear hBB
   cases B
   all_goals
    go_wp2
    go_ret
    exact ⟨by rw [HZ3.out]; rfl, hB5⟩
 ·
  have HZ : Hid (rightT T = false) := by
   rw [Hid, HE.out]
   unfold rightR7
   rw [decide_eq_false (show ¬ (T.up.length ≤ 400 ∧ T.wrd.length ≤ 400) by rw [HUL.out, HXL.out]; exact hs), Bool.false_and]
  clear hT2 HE
  have e0 : (decide ((400 : Int) < (un : Int)) = true ∧ decide (400 < un) = true) ∨ ((decide ((400 : Int) < (un : Int)) = false ∧ decide (400 < un) = false) ∧ (decide ((400 : Int) < (xn : Int)) = true ∧ decide (400 < xn) = true)) := by
   by_cases h : un ≤ 400
   · exact .inr ⟨⟨by simp; omega, by simp; omega⟩, by simp; omega, by simp; omega⟩
   · exact .inl ⟨by simp; omega, by simp; omega⟩
  clear hs
  rcases e0 with ⟨e1, e1'⟩ | ⟨⟨e1, e1'⟩, e2, e2'⟩
  all_goals
   go_enter Tryz.func93, Tryz.ntmps93
   go_upto_region 1 with fail
   rw [← hW]
   clear hW
   go_wp2
   go_ret
   exact ⟨by rw [HZ.out]; rfl, hB⟩

set_option maxHeartbeats 2000000 in
theorem rWords7_any (t : TV) (T : TrieT) (w : World) (hT : Tri w t T) (hb : t.un ≤ 140737488351232 ∧ t.dn ≤ 140737488351232 ∧ t.xn ≤ 140737488351232 ∧ t.bn ≤ 140737488351232) :
  Calls Tryz.prog 94 #[.agg t.cells] w fun e w' => ∃ v, e = .returned v ∧ OwnW w' w.heap.size v (wordsT T) ∧ Below w.heap.size w w' := by
 obtain ⟨ua, un, uc, da, dn, dc, xa, xn, xc, ba, bn, bc⟩ := t
 obtain ⟨W, hW⟩ : ∃ W, W = w.alloc (.cells #[.slice ua un uc, .slice da dn dc, .slice xa xn xc, .slice ba bn bc] 34) := ⟨_, rfl⟩
 have hB : Below w.heap.size w W := by rw [hW]; exact below_alloc _ _
 have hO : Bx w.heap.size [.cells #[.slice ua un uc, .slice da dn dc, .slice xa xn xc, .slice ba bn bc] 34] W := by rw [hW]; exact (Bx.nil _ w).snoc _ rfl
 have c0 : W.cell? ⟨w.heap.size, 0, none⟩ = some (.slice ua un uc) := hO.cell (i := 0) rfl rfl
 have c1 : W.cell? ⟨w.heap.size, 1, none⟩ = some (.slice da dn dc) := hO.cell (i := 0) rfl rfl
 have c2 : W.cell? ⟨w.heap.size, 2, none⟩ = some (.slice xa xn xc) := hO.cell (i := 0) rfl rfl
 have c3 : W.cell? ⟨w.heap.size, 3, none⟩ = some (.slice ba bn bc) := hO.cell (i := 0) rfl rfl
 have HC := Lib.hid (rright7_any _ T W (hT.below hB) hb)
 have HT := Lib.hid (hT.below hB)
 have HB3 := Lib.hid hb.2.2.1
 clear hT hb
 cases hr : readP T with
 | none =>
  have HZ : Hid (wordsT T = []) := by unfold Hid wordsT; rw [hr]
  have HR : rightT T = false := by unfold rightT; rw [hr]; rfl
  rw [HR] at HC
  clear hr HR
  go_enter Tryz.func94, Tryz.ntmps94
  go_upto_region 1 with fail
  rw [← hW]
  clear hW
  go_wp2_with fail
  refine HC.out.mono ?_
  rintro e w1 ⟨rfl, hb1⟩
  go_wp2
  go_ret
  exact ⟨_, rfl, by rw [HZ.out]; exact OwnW.nil _ _, hB.trans (hb1.mono hB.size)⟩
 | some r =>
  have HZ : Hid (wordsT T = wordsR T) := by
   unfold Hid wordsT
   rw [hr]
   exact (readR7 (sp := r.1) (ws := r.2) hr).1.symm
  have HR : rightT T = true := by unfold rightT; rw [hr]; rfl
  rw [HR] at HC
  clear hr HR
  go_enter Tryz.func94, Tryz.ntmps94
  go_upto_region 1 with fail
  rw [← hW]
  clear hW
  go_wp2_with fail
  refine HC.out.mono ?_
  rintro e w1 ⟨rfl, hb1⟩
  have hO1 := hO.below hb1
  clear c0 c1 c2 c3
  have c0 : w1.cell? ⟨w.heap.size, 0, none⟩ = some (.slice ua un uc) := hO1.cell (i := 0) rfl rfl
  have c1 : w1.cell? ⟨w.heap.size, 1, none⟩ = some (.slice da dn dc) := hO1.cell (i := 0) rfl rfl
  have c2 : w1.cell? ⟨w.heap.size, 2, none⟩ = some (.slice xa xn xc) := hO1.cell (i := 0) rfl rfl
  have c3 : w1.cell? ⟨w.heap.size, 3, none⟩ = some (.slice ba bn bc) := hO1.cell (i := 0) rfl rfl
  have HW := Lib.hid (rwords7_any _ T w1 (HT.out.below hb1) HB3.out)
  go_wp2_with fail
  refine HW.out.mono ?_
  rintro e w2 ⟨v, rfl, hv, hb2⟩
  have hB1 := hB.trans (hb1.mono hB.size)
  go_wp2
  go_ret
  exact ⟨v, rfl, by rw [HZ.out]; exact hv.mono hB1.size, hB1.trans (hb2.mono hB1.size)⟩

set_option maxHeartbeats 2000000 in
theorem rspell7_no (t : TV) (T : TrieT) (node : Int) (w : World) (hT : Tri w t T) (hb : t.un ≤ 140737488351232 ∧ t.dn ≤ 140737488351232 ∧ t.xn ≤ 140737488351232 ∧ t.bn ≤ 140737488351232) (hs : spellT T node = none) :
  Calls Tryz.prog 107 #[.agg t.cells, .int .i64 node] w fun e w' => e = .returned (.tuple #[.slice none 0 0, .bool false]) ∧ Below w.heap.size w w' := by
 obtain ⟨ua, un, uc, da, dn, dc, xa, xn, xc, ba, bn, bc⟩ := t
 obtain ⟨W, hW⟩ : ∃ W, W = w.alloc (.cells #[.slice ua un uc, .slice da dn dc, .slice xa xn xc, .slice ba bn bc] 34) := ⟨_, rfl⟩
 have hB : Below w.heap.size w W := by rw [hW]; exact below_alloc _ _
 have hO : Bx w.heap.size [.cells #[.slice ua un uc, .slice da dn dc, .slice xa xn xc, .slice ba bn bc] 34] W := by rw [hW]; exact (Bx.nil _ w).snoc _ rfl
 have c0 : W.cell? ⟨w.heap.size, 0, none⟩ = some (.slice ua un uc) := hO.cell (i := 0) rfl rfl
 have c1 : W.cell? ⟨w.heap.size, 1, none⟩ = some (.slice da dn dc) := hO.cell (i := 0) rfl rfl
 have c2 : W.cell? ⟨w.heap.size, 2, none⟩ = some (.slice xa xn xc) := hO.cell (i := 0) rfl rfl
 have c3 : W.cell? ⟨w.heap.size, 3, none⟩ = some (.slice ba bn bc) := hO.cell (i := 0) rfl rfl
 have HC := Lib.hid (rright7_any _ T W (hT.below hB) hb)
 have hul : T.up.length = un := hT.up.1
 clear hT hb
 have e0 : rightT T = false ∨ (rightT T = true ∧ (decide (node < 0) = true ∨ (decide (node < 0) = false ∧ decide ((un : Int) ≤ node) = true))) := by
  unfold spellT at hs
  unfold rightT
  cases hr : readP T with
  | none => exact .inl rfl
  | some r =>
   rw [hr] at hs
   refine .inr ⟨rfl, ?_⟩
   dsimp only at hs
   by_cases h0 : node < 0
   · exact .inl (by simpa using h0)
   ·
    rw [if_neg h0] at hs
    refine .inr ⟨by simpa using h0, ?_⟩
    have h1 := List.getElem?_eq_none_iff.1 hs
    have h2 := (readP_len (sp := r.1) (ws := r.2) hr).2.2
    simp
    omega
 clear hs hul
 rcases e0 with e1 | ⟨e1, e2 | ⟨e2, e3⟩⟩
 all_goals
  rw [e1] at HC
  clear e1
  go_enter Tryz.func107, Tryz.ntmps107
  go_upto_region 1 with fail
  rw [← hW]
  clear hW
  go_wp2_with fail
  refine HC.out.mono ?_
  rintro e w1 ⟨rfl, hb1⟩
  have hO1 := hO.below hb1
  clear c0 c1 c2 c3
  have c0 : w1.cell? ⟨w.heap.size, 0, none⟩ = some (.slice ua un uc) := hO1.cell (i := 0) rfl rfl
  go_wp2
  go_ret2
  exact ⟨rfl, hB.trans (hb1.mono hB.size)⟩

set_option maxHeartbeats 2000000 in
theorem rspell7_yes (t : TV) (T : TrieT) (node : Int) (x : List Int) (w : World) (hT : Tri w t T) (hb : t.un ≤ 140737488351232 ∧ t.dn ≤ 140737488351232 ∧ t.xn ≤ 140737488351232 ∧ t.bn ≤ 140737488351232) (hs : spellT T node = some x) :
  Calls Tryz.prog 107 #[.agg t.cells, .int .i64 node] w fun e w' => ∃ v, e = .returned (.tuple #[v, .bool true]) ∧ OwnU w' w.heap.size v x ∧ Below w.heap.size w w' := by
 obtain ⟨ua, un, uc, da, dn, dc, xa, xn, xc, ba, bn, bc⟩ := t
 obtain ⟨W, hW⟩ : ∃ W, W = w.alloc (.cells #[.slice ua un uc, .slice da dn dc, .slice xa xn xc, .slice ba bn bc] 34) := ⟨_, rfl⟩
 have hB : Below w.heap.size w W := by rw [hW]; exact below_alloc _ _
 have hO : Bx w.heap.size [.cells #[.slice ua un uc, .slice da dn dc, .slice xa xn xc, .slice ba bn bc] 34] W := by rw [hW]; exact (Bx.nil _ w).snoc _ rfl
 have c0 : W.cell? ⟨w.heap.size, 0, none⟩ = some (.slice ua un uc) := hO.cell (i := 0) rfl rfl
 have c1 : W.cell? ⟨w.heap.size, 1, none⟩ = some (.slice da dn dc) := hO.cell (i := 0) rfl rfl
 have c2 : W.cell? ⟨w.heap.size, 2, none⟩ = some (.slice xa xn xc) := hO.cell (i := 0) rfl rfl
 have c3 : W.cell? ⟨w.heap.size, 3, none⟩ = some (.slice ba bn bc) := hO.cell (i := 0) rfl rfl
 have HC := Lib.hid (rright7_any _ T W (hT.below hB) hb)
 have HT := Lib.hid (hT.below hB)
 have hul : T.up.length = un := hT.up.1
 clear hT hb
 have e0 : rightT T = true ∧ decide (node < 0) = false ∧ decide ((un : Int) ≤ node) = false ∧ spellR T node = x := by
  unfold spellT at hs
  unfold rightT
  cases hr : readP T with
  | none => rw [hr] at hs; cases hs
  | some r =>
   rw [hr] at hs
   dsimp only at hs
   by_cases h0 : node < 0
   · rw [if_pos h0] at hs; cases hs
   ·
    rw [if_neg h0] at hs
    obtain ⟨j, rfl⟩ := Int.eq_ofNat_of_zero_le (show 0 ≤ node by omega)
    rw [Int.toNat_natCast] at hs
    have h1 := (List.getElem?_eq_some_iff.1 hs).1
    have h2 := (readP_len (sp := r.1) (ws := r.2) hr).2.2
    refine ⟨rfl, by simp, by simp; omega, (readR7 (sp := r.1) (ws := r.2) hr).2 j x hs⟩
 clear hs hul
 obtain ⟨e1, e2, e3, e4⟩ := e0
 have HS := Lib.hid e4
 rw [e1] at HC
 clear e1 e4
 go_enter Tryz.func107, Tryz.ntmps107
 go_upto_region 1 with fail
 rw [← hW]
 clear hW
 go_wp2_with fail
 refine HC.out.mono ?_
 rintro e w1 ⟨rfl, hb1⟩
 have hO1 := hO.below hb1
 clear c0 c1 c2 c3
 have c0 : w1.cell? ⟨w.heap.size, 0, none⟩ = some (.slice ua un uc) := hO1.cell (i := 0) rfl rfl
 have c1 : w1.cell? ⟨w.heap.size, 1, none⟩ = some (.slice da dn dc) := hO1.cell (i := 0) rfl rfl
 have c2 : w1.cell? ⟨w.heap.size, 2, none⟩ = some (.slice xa xn xc) := hO1.cell (i := 0) rfl rfl
 have c3 : w1.cell? ⟨w.heap.size, 3, none⟩ = some (.slice ba bn bc) := hO1.cell (i := 0) rfl rfl
 have HW := Lib.hid (rspell7_any _ T node w1 (HT.out.below hb1))
 go_wp2_with fail
 refine HW.out.mono ?_
 rintro e w2 ⟨v, rfl, hv, hb2⟩
 have hB1 := hB.trans (hb1.mono hB.size)
 rw [HS.out] at hv
 go_wp2
 go_ret2
 exact ⟨v, rfl, row_mono hv hB1.size, hB1.trans (hb2.mono hB1.size)⟩
end Go.Proofs.YtbldfgaogmfoaaaGreat

/- The document's tries (layer 7): where bytes are found, kids, which are too great; walked. Printed by exp.py. -/

namespace Go.Proofs.YtbldfgaogmfoaaaGreat
open Go.RowKit Go.Sort

abbrev Bd4 (t : TV) : Prop := t.un ≤ 140737488351232 ∧ t.dn ≤ 140737488351232 ∧ t.xn ≤ 140737488351232 ∧ t.bn ≤ 140737488351232
end Go.Proofs.YtbldfgaogmfoaaaGreat

/- The document's links (layer 8): all nodes, the node of bytes, the longest end that is a node; walked. -/

namespace Go.Proofs.YtbldfgaogmfoaaaGreat
open Go.RowKit Go.Sort

/-- All nodes' bytes; none: the trie may not be. -/
def nodesT (T : TrieT) : List (List Int) := match readP T with | some r => nodesL r.2 | none => []
theorem nodesT_none {T : TrieT} (h : readP T = none) : nodesT T = [] := by unfold nodesT; rw [h]
theorem nodesT_some {T : TrieT} {r : List (List Int) × List (List Int)} (h : readP T = some r) : nodesT T = nodesL r.2 := by unfold nodesT; rw [h]
theorem nodesT_bd (T : TrieT) : (nodesT T).length ≤ 400 ∧ ∀ x ∈ nodesT T, x.length ≤ 32 := by
 cases h : readP T with
 | none => rw [nodesT_none h]; simp
 | some r =>
  rw [nodesT_some h]
  obtain ⟨h1, _, _⟩ := readP_iff.1 (show readP T = some (r.1, r.2) from h)
  exact ⟨(right_nodes h1).2, fun x hx => by obtain ⟨j, hj⟩ := List.getElem?_of_mem hx; exact node_len h1 hj⟩

set_option maxRecDepth 100000 in
set_option maxHeartbeats 2000000 in
theorem rnodes8_any (t : TV) (T : TrieT) (w : World) (hT : Tri w t T) (hb : Bd4 t) :
  Calls Tryz.prog 60 #[.agg t.cells] w fun e w' => ∃ a c, e = .returned (.slice a (nodesT T).length c) ∧ (nodesT T).length ≤ c ∧ Wds w' a (nodesT T).length (nodesT T) ∧ Below w.heap.size w w' := by
 obtain ⟨ua, un, uc, da, dn, dc, xa, xn, xc, ba, bn, bc⟩ := t
 obtain ⟨W, hW⟩ : ∃ W, W = w.alloc (.cells #[.slice ua un uc, .slice da dn dc, .slice xa xn xc, .slice ba bn bc] 34) := ⟨_, rfl⟩
 have hB : Below w.heap.size w W := by rw [hW]; exact below_alloc _ _
 have hO : Bx w.heap.size [.cells #[.slice ua un uc, .slice da dn dc, .slice xa xn xc, .slice ba bn bc] 34] W := by rw [hW]; exact (Bx.nil _ w).snoc _ rfl
 have c0 : W.cell? ⟨w.heap.size, 0, none⟩ = some (.slice ua un uc) := hO.cell (i := 0) rfl rfl
 have c1 : W.cell? ⟨w.heap.size, 1, none⟩ = some (.slice da dn dc) := hO.cell (i := 0) rfl rfl
 have c2 : W.cell? ⟨w.heap.size, 2, none⟩ = some (.slice xa xn xc) := hO.cell (i := 0) rfl rfl
 have c3 : W.cell? ⟨w.heap.size, 3, none⟩ = some (.slice ba bn bc) := hO.cell (i := 0) rfl rfl
 have HC := Lib.hid (rright7_any _ T W (hT.below hB) hb)
 have HT := Lib.hid (hT.below hB)
 have HBB := Lib.hid hb
 clear hT hb
 cases hr : readP T with
 | none =>
  have HZ := Lib.hid (nodesT_none hr)
  have HR : rightT T = false := by unfold rightT; rw [hr]; rfl
  rw [HR] at HC
  clear hr HR
  go_enter Tryz.func60, Tryz.ntmps60
  go_upto_region 1 with fail
  rw [← hW]
  clear hW
  go_wp2_with fail
  refine HC.out.mono ?_
  rintro e w1 ⟨rfl, hb1⟩
  go_wp2
  go_ret
  rw [HZ.out]
  exact ⟨none, 0, rfl, Nat.le_refl _, Wds.nil _ _, hB.trans (hb1.mono hB.size)⟩
 | some r =>
  have HZ : Hid (nodesT T = nodesL (wordsT T)) := by rw [Hid, nodesT_some hr]; unfold wordsT; rw [hr]
  have HL : Hid ((wordsT T).length ≤ 400 ∧ ∀ x ∈ wordsT T, x.length ≤ 32) := by
   obtain ⟨h1, _, _⟩ := readP_iff.1 (show readP T = some (r.1, r.2) from hr)
   have h2 : wordsT T = r.2 := by unfold wordsT; rw [hr]
   rw [Hid, h2]
   exact ⟨(readP_len (sp := r.1) (ws := r.2) hr).2.1, fun x hx => ((right_spec h1).2.2.1 x hx).2⟩
  have HR : rightT T = true := by unfold rightT; rw [hr]; rfl
  rw [HR] at HC
  clear hr HR
  go_enter Tryz.func60, Tryz.ntmps60
  go_upto_region 1 with fail
  rw [← hW]
  clear hW
  go_wp2_with fail
  refine HC.out.mono ?_
  rintro e w1 ⟨rfl, hb1⟩
  have hO1 := hO.below hb1
  clear c0 c1 c2 c3
  have c0 : w1.cell? ⟨w.heap.size, 0, none⟩ = some (.slice ua un uc) := hO1.cell (i := 0) rfl rfl
  have c1 : w1.cell? ⟨w.heap.size, 1, none⟩ = some (.slice da dn dc) := hO1.cell (i := 0) rfl rfl
  have c2 : w1.cell? ⟨w.heap.size, 2, none⟩ = some (.slice xa xn xc) := hO1.cell (i := 0) rfl rfl
  have c3 : w1.cell? ⟨w.heap.size, 3, none⟩ = some (.slice ba bn bc) := hO1.cell (i := 0) rfl rfl
  have HW := Lib.hid (rWords7_any _ T w1 (HT.out.below hb1) HBB.out)
  have hB1 := hB.trans (hb1.mono hB.size)
  go_wp2_with fail
  refine HW.out.mono ?_
  rintro e w2 ⟨v, rfl, hv, hb2⟩
  obtain ⟨av, cv, rfl, hcv, hwd⟩ := hv.wds
  have hB2 := hB1.trans (hb2.mono hB1.size)
  have hlw := HL.out.1
  have HN := Lib.hid (rnodes7_any av _ cv (wordsT T) w2 hwd (by omega) (fun y hy => by have := HL.out.2 y hy; omega))
  clear hv hwd c0 c1 c2 c3 hO1 hO hb1 hb2 hB hB1
  go_wp2_with fail
  refine HN.out.mono ?_
  rintro e w3 ⟨an, cn, rfl, hcn, hnd, hb3⟩
  have hB3 := hB2.trans (hb3.mono hB2.size)
  go_wp2
  go_ret
  rw [HZ.out]
  exact ⟨an, cn, rfl, hcn, hnd, hB3⟩

set_option maxHeartbeats 2000000 in
theorem rplace8_any (a b : Option Addr) (la ca lb cb : Nat) (l : List (List Int)) (x : List Int) (w : World) (hA : Wds w a la l) (hB : Bys w b lb x) (hla : la ≤ 1000000) :
  Calls Tryz.prog 95 #[.slice a la ca, .slice b lb cb] w fun e w' => e = .returned (.int .i64 (placeS l x)) ∧ Below w.heap.size w w' := by
 have HL := Lib.hid hA.len
 have HA := Lib.hid hA
 have HB := Lib.hid hB
 clear hA hB
 go_enter Tryz.func95, Tryz.ntmps95
 go_wp2
 go_loopw [5] (fun i wr => ∃ k : Nat, k ≤ la ∧ i = .int .i64 k ∧ Hid (x ∉ l.take k) ∧ Below w.heap.size w wr) (fun i _ => la - (intOf i).toNat)
 case atStart => exact ⟨0, Nat.zero_le _, rfl, by simp [Hid], Below.refl _ _⟩
 case round =>
  obtain ⟨k, hk, rfl, HK, hBe⟩ := hrel
  by_cases hlt : k < la
  ·
   have hd : decide ((k : Int) < la) = true := by simp; omega
   obtain ⟨bb, off, aw, lw, cw, y, hbb, hbl, hcell, hy, hY, hlc⟩ := (HA.out.below hBe).at_ hlt
   subst hbb
   have f2 : ∀ d os, (grow (redrawn wr d) os).cell? ⟨bb, off + k, none⟩ = some (.slice aw lw cw) := fun d os => ((below_regrown wr d os).cell (p := ⟨bb, off + k, none⟩) hbl).trans hcell
   have f4 := fun d os => conv_bys (hY.below (below_regrown wr d os)) cw
   have f5 := fun d os => conv_bys ((HB.out.below hBe).below (below_regrown wr d os)) cb
   have i1 : (0 : Int) ≤ (k : Int) := by omega
   have i2 : (k : Int) < (la : Int) := by omega
   have HY := Lib.hid hy
   have HYB := Lib.hid hY.2
   have HE := Lib.hid (str_beq HYB.out HB.out.2)
   have HBE := Lib.hid hBe
   clear hy hY hcell hlc hBe
   by_cases e : y = x
   ·
    have hq : ((strOfNums y).toList == (strOfNums x).toList) = true := by rw [HE.out]; simpa using e
    have HS : Hid (placeS l x = k) := by rw [← e] at HK ⊢; exact placeS_first HY.out HK.out
    clear e
    go_wp2
    refine wp_region_quiet_below mixed (by kernel_rfl) ?_
    repeat (go_big_quiet_step (fail))
    refine wpQuiet_nil ?_
    rintro _ ⟨⟨dq, osq⟩, rfl⟩
    go_wp2
    go_ret
    exact ⟨by rw [HS.out]; rfl, HBE.out.trans ((below_regrown wr dq osq).mono HBE.out.size)⟩
   ·
    have hq : ((strOfNums y).toList == (strOfNums x).toList) = false := by rw [HE.out]; simpa using e
    have HS : Hid (x ∉ l.take (k + 1)) := by
     rw [Hid, take_step HY.out, List.mem_append, List.mem_singleton]
     exact fun h => h.elim HK.out (fun e2 => e e2.symm)
    clear e
    go_wp2
    refine wp_region_quiet_below mixed (by kernel_rfl) ?_
    repeat (go_big_quiet_step (fail))
    refine wpQuiet_nil ?_
    rintro _ ⟨⟨dq, osq⟩, rfl⟩
    have hBq := HBE.out.trans ((below_regrown wr dq osq).mono HBE.out.size)
    clear f2 f4 f5
    go_wp2
    go_roundw
    case rel => exact ⟨k + 1, by omega, by go_num, HS, hBq⟩
    case measure => simp [intOf]; omega
  ·
   obtain rfl : k = la := by omega
   have HS : Hid (placeS l x = -1) := by
    refine placeS_no ?_
    have h := HK.out
    rwa [List.take_of_length_le (by rw [HL.out]; exact Nat.le_refl _)] at h
   go_wp2
   go_ret
   exact ⟨by rw [HS.out]; rfl, hBe⟩

set_option maxRecDepth 100000 in
set_option maxHeartbeats 2000000 in
theorem rlongest8_any (a b : Option Addr) (la ca lb cb : Nat) (N : List (List Int)) (x : List Int) (k0 : Nat) (w : World) (hA : Wds w a la N) (hB : Bys w b lb x) (hla : la ≤ 1000000) (hlb : lb ≤ 1000000) (hcb : lb ≤ cb) (h0 : placeS N [] = 0) :
  Calls Tryz.prog 61 #[.slice a la ca, .slice b lb cb, .int .i64 (k0 : Int)] w fun e w' => e = .returned (.int .i64 (placeS N (lsf N (x.drop k0)))) ∧ Below w.heap.size w w' := by
 have HX := Lib.hid hB.len
 have HA := Lib.hid hA
 have HB := Lib.hid hB
 have H0 := Lib.hid h0
 clear hA hB h0
 go_enter Tryz.func61, Tryz.ntmps61
 go_wp2
 go_loopw [7] (fun s7 wr => ∃ k : Nat, s7 = .int .i64 k ∧ Hid (lsf N (x.drop k0) = lsf N (x.drop k)) ∧ RowKit.Below w.heap.size w wr) (fun s _ => lb - (intOf s).toNat)
 case atStart => exact ⟨k0, rfl, rfl, RowKit.Below.refl _ _⟩
 case round =>
  obtain ⟨k, rfl, HK, hBe⟩ := hrel
  by_cases hkl : k < lb
  ·
   have hd : decide ((k : Int) < lb) = true := by simp; omega
   have hR := (HB.out.below hBe).drop (m := k) (by omega)
   have HP := Lib.hid (rplace8_any a _ la ca (lb - k) (cb - k) N (x.drop k) wr (HA.out.below hBe) hR hla)
   have i1 : (0 : Int) ≤ (k : Int) := by omega
   have i2 : (k : Int) ≤ (lb : Int) := by omega
   clear hR
   go_wp2_with fail
   refine HP.out.mono ?_
   rintro e w1 ⟨rfl, hb1⟩
   have hB1 := hBe.trans (hb1.mono hBe.size)
   by_cases hm : x.drop k ∈ N
   ·
    have HE : Hid (placeS N (lsf N (x.drop k0)) = placeS N (x.drop k)) := by rw [Hid, HK.out, lsf_here hm]
    obtain ⟨p, hp⟩ : ∃ p, placeS N (x.drop k) = p := ⟨_, rfl⟩
    have hp0 : 0 ≤ p := by rw [← hp]; unfold placeS; rw [if_pos hm]; omega
    have e3 : decide (0 ≤ p) = true := by simpa using hp0
    rw [hp] at HE ⊢
    clear hp hm
    go_wp2
    go_ret
    exact ⟨by rw [HE.out]; rfl, hB1⟩
   ·
    have HE : Hid (lsf N (x.drop k0) = lsf N (x.drop (k + 1))) := by rw [Hid, HK.out]; exact lsf_next (by rw [HX.out]; exact hkl) hm
    rw [placeS_no hm]
    clear hm
    go_wp2
    go_roundw
    case rel => exact ⟨k + 1, by go_num, HE, hB1⟩
    case measure => simp [intOf]; omega
  ·
   have hd : decide ((k : Int) < lb) = false := by simp; omega
   have HE : Hid (placeS N (lsf N (x.drop k0)) = 0) := by rw [Hid, HK.out, lsf_end N x (by rw [HX.out]; omega), H0.out]
   go_wp2
   go_ret
   exact ⟨by rw [HE.out]; rfl, hBe⟩
end Go.Proofs.YtbldfgaogmfoaaaGreat

/- The document's links (layer 8): all links, which may be, chains, the deepest node, a step; walked. -/

namespace Go.Proofs.YtbldfgaogmfoaaaGreat
open Go.RowKit Go.Sort

theorem place0 (ws : List (List Int)) : placeS (nodesL ws) [] = 0 := placeS_at (nodesL_srt ws).nodup (nodesL_head ws)
end Go.Proofs.YtbldfgaogmfoaaaGreat

/- The document's links (layer 8): chains, the deepest node, a step; walked. -/

namespace Go.Proofs.YtbldfgaogmfoaaaGreat
open Go.RowKit Go.Sort

set_option maxRecDepth 100000 in
set_option maxHeartbeats 4000000 in
theorem rdeep8_any (t : TV) (T : TrieT) (b : Option Addr) (lb cb : Nat) (x : List Int) (w : World) (hT : Tri w t T) (hb : Bd4 t) (hX : Bys w b lb x) (hlb : lb ≤ 1000000) (hcb : lb ≤ cb) :
  Calls Tryz.prog 26 #[.agg t.cells, .slice b lb cb] w fun e w' => e = .returned (.tuple #[.int .i64 (deepT T x).1, .bool (deepT T x).2]) ∧ Below w.heap.size w w' := by
 obtain ⟨ua, un, uc, da, dn, dc, xa, xn, xc, ba, bn, bc⟩ := t
 obtain ⟨W, hW⟩ : ∃ W, W = w.alloc (.cells #[.slice ua un uc, .slice da dn dc, .slice xa xn xc, .slice ba bn bc] 34) := ⟨_, rfl⟩
 have hB : Below w.heap.size w W := by rw [hW]; exact below_alloc _ _
 have hO : Bx w.heap.size [.cells #[.slice ua un uc, .slice da dn dc, .slice xa xn xc, .slice ba bn bc] 34] W := by rw [hW]; exact (Bx.nil _ w).snoc _ rfl
 have c0 : W.cell? ⟨w.heap.size, 0, none⟩ = some (.slice ua un uc) := hO.cell (i := 0) rfl rfl
 have c1 : W.cell? ⟨w.heap.size, 1, none⟩ = some (.slice da dn dc) := hO.cell (i := 0) rfl rfl
 have c2 : W.cell? ⟨w.heap.size, 2, none⟩ = some (.slice xa xn xc) := hO.cell (i := 0) rfl rfl
 have c3 : W.cell? ⟨w.heap.size, 3, none⟩ = some (.slice ba bn bc) := hO.cell (i := 0) rfl rfl
 have HC := Lib.hid (rnodes8_any _ T W (hT.below hB) hb)
 have HBD := Lib.hid (nodesT_bd T)
 have HX := Lib.hid (hX.below hB)
 clear hT hb hX
 cases hr : readP T with
 | none =>
  have HZ : Hid (nodesT T = [] ∧ deepT T x = (0, false)) := ⟨nodesT_none hr, by unfold deepT; rw [hr]⟩
  have HC2 := HC.out
  rw [HZ.out.1] at HC2
  have HC3 := Lib.hid HC2
  clear hr HC2
  go_enter Tryz.func26, Tryz.ntmps26
  go_upto_region 1 with fail
  rw [← hW]
  clear hW
  go_wp2_with fail
  refine HC3.out.mono ?_
  rintro e w1 ⟨a1, c1, rfl, _, _, hb1⟩
  go_wp2
  go_ret2
  exact ⟨by rw [HZ.out.2]; rfl, hB.trans (hb1.mono hB.size)⟩
 | some r =>
  obtain ⟨ws, hws⟩ : ∃ ws, r.2 = ws := ⟨_, rfl⟩
  have HZ : Hid (nodesT T = nodesL ws ∧ deepT T x = (placeS (nodesL ws) (lsf (nodesL ws) x), true)) := ⟨by rw [nodesT_some hr, hws], by unfold deepT; rw [hr]; dsimp only; rw [hws]⟩
  have hn0 : (nodesL ws).length ≠ 0 := fun e => nodesL_ne ws (List.eq_nil_of_length_eq_zero e)
  rw [HZ.out.1] at HC HBD
  have HLD := Lib.hid (lsf_drop (N := nodesL ws) (M := 32) (nodes_pre ws).1 HBD.out.2 x)
  obtain ⟨n, hn⟩ : ∃ n, (nodesL ws).length = n := ⟨_, rfl⟩
  rw [hn] at HC HBD hn0
  have hn4 := HBD.out.1
  have e0 : ((n : Int) == 0) = false := by simp; omega
  have e0' : (n == 0) = false := by simp; omega
  have hmx : max ((lb : Int) - 32) 0 = ((lb - 32 : Nat) : Int) := by omega
  clear hr hws hn hn0
  go_enter Tryz.func26, Tryz.ntmps26
  go_upto_region 1 with fail
  rw [← hW]
  clear hW
  go_wp2_with fail
  refine HC.out.mono ?_
  rintro e w1 ⟨na, nc, rfl, hnc, hN, hb1⟩
  have h8 := rlongest8_any na b n nc lb cb (nodesL ws) x (lb - 32) w1 hN (HX.out.below hb1) (by omega) hlb hcb (place0 ws)
  rw [show lb - 32 = x.length - 32 by rw [HX.out.len], HLD.out, HX.out.len] at h8
  have HQ := Lib.hid h8
  clear h8 hN c0 c1 c2 c3
  go_wp2_with fail
  refine HQ.out.mono ?_
  rintro e w2 ⟨rfl, hb2⟩
  have hB1 := hB.trans (hb1.mono hB.size)
  have hB2 := hB1.trans (hb2.mono hB1.size)
  go_wp2
  go_ret2
  exact ⟨by rw [HZ.out.2]; rfl, hB2⟩
end Go.Proofs.YtbldfgaogmfoaaaGreat

/- Machines (layer 13): the words that stand at a text's end, as the document's loops tell them: plain. -/

namespace Go.Proofs.YtbldfgaogmfoaaaGreat

theorem foldL_drop (fold : Bool) (x : List Int) (k : Nat) : foldL fold (x.drop k) = (foldL fold x).drop k := by
 rw [foldL_map, foldL_map, List.map_drop]
theorem atL_end {fold : Bool} {y : List Int} (hy : foldL fold y = y) (b : List Int) : atL fold b (b.length : Int) y = decide (y <:+ foldL fold b) := by
 unfold atL sameL
 rw [Int.toNat_natCast, hy]
 by_cases h : y <:+ foldL fold b
 ·
  have hl := h.length_le
  rw [foldL_length] at hl
  have e := suffix_drop h
  rw [foldL_length] at e
  rw [decide_eq_true h, decide_eq_true ⟨by omega, Int.le_refl _⟩, Bool.true_and, List.take_of_length_le (by rw [List.length_drop]; omega), foldL_drop, ← e]
  simp
 ·
  rw [decide_eq_false h]
  by_cases hl : y.length ≤ b.length
  ·
   rw [decide_eq_true ⟨by omega, Int.le_refl _⟩, Bool.true_and, decide_eq_false]
   intro e
   rw [List.take_of_length_le (by rw [List.length_drop]; omega), foldL_drop] at e
   exact h (by rw [← e]; exact List.drop_suffix _ _)
  · rw [decide_eq_false (fun hh => by omega), Bool.false_and]

end Go.Proofs.YtbldfgaogmfoaaaGreat

/- Machines (layer 13): a node's words, its hits; walked. -/

namespace Go.Proofs.YtbldfgaogmfoaaaGreat
open Go.RowKit Go.Sort

set_option maxRecDepth 100000 in
set_option maxHeartbeats 2000000 in
theorem words13_in (B : Nat) (L : List Int) (m : Int) (n j : Nat) (row : Value) (fold : Bool) (sw : Value) (lo mo : Int) (wa : Option Addr) (wc : Nat) (W : List (List Int)) (xs : List Int) (w : World) (h : Mc w B L m (n : Int) row fold sw lo mo (.slice wa n wc)) (hW : Lls w wa n W) (hj : j < n) (hx : W[j]? = some xs) (hxl : xs.length ≤ 1000000) :
  Calls Tryz.prog 105 #[.pointer (some ⟨B, 0, none⟩), .int .i64 (j : Int)] w fun e w' => ∃ v, e = .returned v ∧ OwnI w' w.heap.size v xs ∧ Below w.heap.size w w' := by
 obtain ⟨i0, hi, hz0, hz1, hz2⟩ := info_parts i64_info7
 obtain ⟨b, off, a', l, c, ys, rfl, hbl, hcell, hy, hs, hlc⟩ := hW.at_ hj
 obtain rfl : ys = xs := by have := hy.symm.trans hx; cases this; rfl
 have hl := hs.1
 have s0 := h.cells.2.2.2.2.2.2.2
 have hi2 := is13_any B L m n row fold sw lo mo (.slice (some ⟨b, off, none⟩) n wc) j w h
 rw [show decide (0 ≤ (j : Int) ∧ (j : Int) < (n : Int)) = true by simp; omega] at hi2
 have HI := Lib.hid hi2
 have HS := Lib.hid hs
 have i1 : (0 : Int) ≤ (j : Int) := by omega
 have i2 : (j : Int) < (n : Int) := by omega
 subst hl
 clear hi2 h hW hx hy hs hj
 go_enter Tryz.func105, Tryz.ntmps105
 go_wp2_with (first
  | (go_at_call 103; refine HI.out.mono ?_; rintro e w4 ⟨rfl, rfl⟩)
  | (at_builtin; refine wpList_append_sl1 rfl _ _ 32 rfl (enc := Value.int .i64) (fun _ => rfl) w.heap.size 3 i0 (.int .i64 0) 8 Tryz.underlying32 hi hz0 hz1 hz2 rfl _ 0 [] rfl (World.ownsRow_nil _ _ _ _) a' _ c ys rfl HS.out (by unfold maxLen; omega) (by omega) (Nat.le_refl _) ?_; intro v' w5 hown' hgrow hat))
 go_ret
 refine ⟨_, rfl, ?_, (Below.refl _ _).grown hgrow (Nat.le_refl _) (fun k e => by cases e)⟩
 simpa [OwnI] using hown'

set_option maxHeartbeats 2000000 in
theorem words13_out (B : Nat) (L : List Int) (m n : Int) (row : Value) (fold : Bool) (sw : Value) (lo mo : Int) (wd : Value) (j : Int) (w : World) (h : Mc w B L m n row fold sw lo mo wd) (hj : j < 0 ∨ n ≤ j) :
  Calls Tryz.prog 105 #[.pointer (some ⟨B, 0, none⟩), .int .i64 j] w fun e w' => ∃ v, e = .returned v ∧ OwnI w' w.heap.size v [] ∧ Below w.heap.size w w' := by
 have hi := is13_any B L m n row fold sw lo mo wd j w h
 rw [show decide (0 ≤ j ∧ j < n) = false by simp; omega] at hi
 have HI := Lib.hid hi
 clear hi h hj
 go_enter Tryz.func105, Tryz.ntmps105
 go_wp2_with (go_at_call 103; refine HI.out.mono ?_; rintro e w4 ⟨rfl, rfl⟩)
 go_ret
 exact ⟨_, rfl, World.ownsRow_nil _ _ _ _, Below.refl _ _⟩

/-- The words of a node of a set's machine: none, if there is no such node. -/
def words13 (wss : List (List Int)) (node : Int) : List Int := if 0 ≤ node ∧ node < ((nodesL wss).length : Int) then words9 wss node.toNat else []
theorem words13_any {B R la ca wc : Nat} {fold : Bool} {wss : List (List Int)} {lo mo : Int} {a wa : Option Addr} (node : Int) (w : World) (h : MOK w B fold wss lo mo R a la ca wa wc) (hx : (words13 wss node).length ≤ 1000000) :
  Calls Tryz.prog 105 #[.pointer (some ⟨B, 0, none⟩), .int .i64 node] w fun e w' => ∃ v, e = .returned v ∧ OwnI w' w.heap.size v (words13 wss node) ∧ Below w.heap.size w w' := by
 unfold words13 at hx ⊢
 by_cases hj : 0 ≤ node ∧ node < ((nodesL wss).length : Int)
 ·
  rw [if_pos hj] at hx ⊢
  obtain ⟨j, rfl⟩ : ∃ k : Nat, node = (k : Int) := ⟨node.toNat, by omega⟩
  rw [Int.toNat_natCast] at hx ⊢
  exact words13_in B _ _ _ j _ fold _ lo mo _ _ _ _ w h.mc h.lls (by omega) (by rw [List.getElem?_map, List.getElem?_range (by omega)]; rfl) hx
 ·
  rw [if_neg hj]
  exact words13_out B _ _ _ _ fold _ lo mo _ node w h.mc (by omega)

set_option maxRecDepth 100000 in
set_option maxHeartbeats 4000000 in
theorem hits13_run (p : Value) (node at_ : Int) (xs : List Int) (w : World) (hxl : xs.length ≤ 1000000)
  (hw : ∀ V, Below w.heap.size w V → Calls Tryz.prog 105 #[p, .int .i64 node] V fun e w' => ∃ v, e = .returned v ∧ OwnI w' V.heap.size v xs ∧ Below V.heap.size V w') :
  Calls Tryz.prog 71 #[p, .int .i64 node, .int .i64 at_] w fun e w' => ∃ v, e = .returned v ∧ OwnH w' w.heap.size v (xs.map fun x => (at_, x)) ∧ Below w.heap.size w w' := by
 obtain ⟨i0, hi, hz0, hz1, hz2⟩ := info_parts hit_info
 have HW := Lib.hid hw
 clear hw
 go_enter Tryz.func71, Tryz.ntmps71
 go_upto_region 2 with fail
 go_wp2_with (go_at_call 105; refine (HW.out _ (Below.refl _ _)).mono ?_; rintro e w1 ⟨v, rfl, hown0, hb1⟩; obtain ⟨a1, c1, rfl, hlc, hs1⟩ := own_sl1 hown0)
 have HO0 := Lib.hid hown0
 have HS1 := Lib.hid hs1
 clear hown0 hs1
 go_loopw [7, 14] (fun v i wr => ∃ k : Nat, k ≤ xs.length ∧ i = .int .i64 k ∧ Below w1.heap.size w1 wr ∧ OwnH wr w1.heap.size v ((xs.take k).map fun x => (at_, x))) (fun _ i _ => xs.length - (intOf i).toNat)
 case atStart => exact ⟨0, Nat.zero_le _, rfl, Below.refl _ _, by simpa [OwnH, hcells] using World.ownsRow_nil w1 w1.heap.size 87 2⟩
 case round =>
  obtain ⟨k, hk, rfl, hBe, hown⟩ := hrel
  by_cases hlt : k < xs.length
  ·
   have hd : decide ((k : Int) < (xs.length : Int)) = true := by simp; omega
   obtain ⟨b0, o0, x, e0, hl0, cx, hx⟩ := sl1_at (HS1.out.below hBe) hlt
   subst e0
   have i1 : (0 : Int) ≤ (k : Int) := by omega
   have i2 : (k : Int) < (xs.length : Int) := by omega
   have HX := Lib.hid hx
   obtain ⟨m, hm⟩ : ∃ m, ((xs.take k).map fun x => (at_, x)).length = m := ⟨_, rfl⟩
   have hml : m = k := by rw [← hm, List.length_map, List.length_take]; omega
   unfold OwnH at hown
   rw [hm] at hown
   have HM := Lib.hid hm
   clear hm hx
   go_wp2_with (at_builtin; refine wpList_append_own _ rfl _ _ 67 rfl w1.heap.size 87 i0 (.agg #[.int .i64 0, .int .i64 0]) 2 16 Tryz.underlying67 hi hz0 hz1 hz2 rfl (by decide) _ _ _ rfl (hown.alloc _) ⟨wr.heap.size, 0, none⟩ 1 1 [.int .i64 at_, .int .i64 x] rfl rfl (cells_new _ _ rfl) (by simp [Value.oneCell']) (by unfold maxLen; omega) (by omega) (by have := hBe.size; simp; omega) ?_; intro v' w5 hown' hgrow hnil)
   have hB5 : Below w1.heap.size w1 w5 := (hBe.alloc (by have := hBe.size; omega) _).grown hgrow (by have := hBe.size; simp; omega) (fun j hj => (hown.lt j hj).1)
   go_roundw
   case rel =>
    refine ⟨k + 1, by omega, by go_num, hB5, ?_⟩
    unfold OwnH
    rw [take_step HX.out, List.map_append, List.length_append, HM.out]
    show w5.ownsRow w1.heap.size 87 2 v' (m + 1) (hcells (((xs.take k).map fun x => (at_, x)) ++ [(at_, x)]))
    rw [hcells_snoc]
    exact hown'
   case measure => simp [intOf]; omega
  ·
   obtain rfl : k = xs.length := by omega
   have hd : decide ((xs.length : Int) < (xs.length : Int)) = false := by simp
   rw [List.take_length] at hown
   go_wp2
   go_ret
   exact ⟨_, rfl, Go.Joins.ownsRow_le hown hb1.size, hb1.trans (hBe.mono hb1.size)⟩

theorem hits13_any {B R la ca wc : Nat} {fold : Bool} {wss : List (List Int)} {lo mo : Int} {a wa : Option Addr} (node at_ : Int) (w : World) (h : MOK w B fold wss lo mo R a la ca wa wc) (hx : (words13 wss node).length ≤ 1000000) :
  Calls Tryz.prog 71 #[.pointer (some ⟨B, 0, none⟩), .int .i64 node, .int .i64 at_] w fun e w' => ∃ v, e = .returned v ∧ OwnH w' w.heap.size v ((words13 wss node).map fun x => (at_, x)) ∧ Below w.heap.size w w' :=
 hits13_run _ node at_ _ w hx (fun V hV => words13_any node V (h.below hV) hx)
end Go.Proofs.YtbldfgaogmfoaaaGreat

/- Which sets and places may be, which hit comes ahead, whether hits rise (layer 6): walked. -/

namespace Go.Proofs.YtbldfgaogmfoaaaGreat
open Go.RowKit Go.Sort

def mayP (fold : Bool) (wss : List (List Int)) (frm : Int) : Bool := decide (0 ≤ frm ∧ frm ≤ 4611686018427387904) && rightP fold wss

end Go.Proofs.YtbldfgaogmfoaaaGreat

/- Which hits stand, those between two places, lists joined, the same (layer 6): walked. -/

namespace Go.Proofs.YtbldfgaogmfoaaaGreat
open Go.RowKit Go.Sort

theorem mayP_frm {fold : Bool} {wss : List (List Int)} {frm : Int} (h : mayP fold wss frm = true) : 0 ≤ frm ∧ frm ≤ 4611686018427387904 := by
 unfold mayP at h
 rw [Bool.and_eq_true] at h
 exact of_decide_eq_true h.1

end Go.Proofs.YtbldfgaogmfoaaaGreat

/- Two lists of hits that are the same, lists joined (layer 6, and the document's): walked. -/

namespace Go.Proofs.YtbldfgaogmfoaaaGreat
open Go.RowKit Go.Sort

theorem hit_fields : ((Tryz.prog.fieldsOf 87).toList.map fun f => (f.name, f.type, f.offset)) = [("End", 3, 0), ("Word", 3, 1)] := by kernel_rfl
theorem eqFields_map (d : Nat) (xs ys : Array Value) (fs gs : List Field) (h : fs.map (fun f => (f.name, f.type, f.offset)) = gs.map (fun f => (f.name, f.type, f.offset))) : Op.eqFields d xs ys fs = Op.eqFields d xs ys gs := by
 induction fs generalizing gs with
 | nil => cases gs with
  | nil => rfl
  | cons g gs => simp at h
 | cons f fs ih => cases gs with
  | nil => simp at h
  | cons g gs =>
   simp only [List.map_cons, List.cons.injEq, Prod.mk.injEq] at h
   obtain ⟨⟨h1, h2, h3⟩, h4⟩ := h
   simp only [Op.eqFields, h1, h2, h3, ih gs h4]
theorem equalIn_hit (x y : HitP) (W : World) : (Op.equalIn 10000 87 (.agg #[.int .i64 x.1, .int .i64 x.2]) (.agg #[.int .i64 y.1, .int .i64 y.2])).run Tryz.prog W = .ok (decide (x = y)) W := by
 rw [run_equalIn_agg W 9999 87 _ _ (by kernel_rfl) (by kernel_rfl)]
 rw [eqFields_map 9999 _ _ _ [⟨ "End", 3, 0, false, "", "", 0⟩, ⟨ "Word", 3, 1, false, "", "", 0⟩] hit_fields]
 have h0 : ∀ W : World, (part 3 #[.int .i64 x.1, .int .i64 x.2] 0).run Tryz.prog W = .ok (.int .i64 x.1) W := fun W => by kernel_rfl
 have h1 : ∀ W : World, (part 3 #[.int .i64 x.1, .int .i64 x.2] 1).run Tryz.prog W = .ok (.int .i64 x.2) W := fun W => by kernel_rfl
 have g0 : ∀ W : World, (part 3 #[.int .i64 y.1, .int .i64 y.2] 0).run Tryz.prog W = .ok (.int .i64 y.1) W := fun W => by kernel_rfl
 have g1 : ∀ W : World, (part 3 #[.int .i64 y.1, .int .i64 y.2] 1).run Tryz.prog W = .ok (.int .i64 y.2) W := fun W => by kernel_rfl
 simp only [Op.eqFields, Sem.run_bind, Sem.run_ite, Sem.run_pure, h0, h1, g0, g1, Result.andThen_ok, run_equalIn_int _ _ _ _ _ _ _ Tryz.underlying3]
 obtain ⟨a, b⟩ := x
 obtain ⟨c, d⟩ := y
 by_cases e1 : a = c <;> by_cases e2 : b = d <;> simp [e1, e2]
theorem eql_hit (x y : HitP) (W : World) : (binOp .eql 87 (.agg #[.int .i64 x.1, .int .i64 x.2]) (.agg #[.int .i64 y.1, .int .i64 y.2])).run Tryz.prog W = .ok (.bool (decide (x = y))) W := by
 rw [run_eql_struct, equalIn_hit]
 rfl
theorem neq_hit (x y : HitP) (W : World) : (binOp .neq 87 (.agg #[.int .i64 x.1, .int .i64 x.2]) (.agg #[.int .i64 y.1, .int .i64 y.2])).run Tryz.prog W = .ok (.bool (!decide (x = y))) W := by
 rw [run_neq_struct, equalIn_hit]
 rfl
theorem hit_guard : Tryz.prog.eqGuardType Tryz.prog.depth 87 = false := by kernel_rfl

set_option maxHeartbeats 2000000 in
theorem rsame6_any (a b : Option Addr) (la ca lb cb : Nat) (l m : List HitP) (w : World) (hA : Hts w a la l) (hB : Hts w b lb m) (hla : la ≤ 4611686018427387904) :
  Calls Tryz.prog 33 #[.slice a la ca, .slice b lb cb] w fun e w' => e = .returned (.bool (decide (l = m))) ∧ Below w.heap.size w w' := by
 have HA := Lib.hid hA.len
 have HB := Lib.hid hB.len
 have hgt := hit_guard
 by_cases hl : la = lb
 ·
  subst hl
  go_enter Tryz.func33, Tryz.ntmps33
  go_wp2
  go_loopw [5] (fun i wr => ∃ k : Nat, k ≤ la ∧ i = .int .i64 k ∧ Hid (l.take k = m.take k) ∧ Below w.heap.size w wr) (fun i _ => la - (intOf i).toNat)
  case atStart => exact ⟨0, Nat.zero_le _, rfl, by simp [Hid], Below.refl _ _⟩
  case round =>
   obtain ⟨k, hk, rfl, HK, hBe⟩ := hrel
   by_cases hlt : k < la
   ·
    obtain ⟨b1, o1, x, rfl, hb1, x0, x1, hx, _, _⟩ := (hA.below hBe).at_ hlt
    obtain ⟨b2, o2, y, rfl, hb2, y0, y1, hy, _, _⟩ := (hB.below hBe).at_ hlt
    have HX := Lib.hid hx
    have HY := Lib.hid hy
    clear hx hy
    have hd : decide ((k : Int) < la) = true := by simp; omega
    have hne := fun W => neq_hit x y W
    by_cases h : x = y
    ·
     have HS : Hid (l.take (k + 1) = m.take (k + 1)) := by rw [take_step HX.out, take_step HY.out, HK.out, h]; rfl
     have hdd : decide (x = y) = true := by simp [h]
     rw [hdd] at hne
     clear h hdd
     go_wp2
     go_quiet (fail)
     go_wp2
     go_roundw
     case rel => exact ⟨k + 1, by omega, by go_num, HS, hBe.trans ⟨rfl, rfl, rfl, Nat.le_refl _, fun _ _ => rfl⟩⟩
     case measure => simp [intOf]; omega
    ·
     have HS : Hid (decide (l = m) = false) := by
      have : l ≠ m := fun e => by
       have h1 := HX.out
       rw [e, HY.out] at h1
       exact h (Option.some.inj h1).symm
      simp [Hid, this]
     have hdd : decide (x = y) = false := by simp [h]
     rw [hdd] at hne
     clear h hdd
     go_wp2
     go_quiet (fail)
     go_wp2
     go_ret
     exact ⟨by rw [HS.out]; rfl, hBe.trans ⟨rfl, rfl, rfl, Nat.le_refl _, fun _ _ => rfl⟩⟩
   ·
    obtain rfl : k = la := by omega
    have HS : Hid (decide (l = m) = true) := by
     have h := HK.out
     rw [List.take_of_length_le (by rw [HA.out]; exact Nat.le_refl _), List.take_of_length_le (by rw [HB.out]; exact Nat.le_refl _)] at h
     simp [Hid, h]
    go_wp2
    go_ret
    exact ⟨by rw [HS.out]; rfl, hBe⟩
 ·
  have HS : Hid (decide (l = m) = false) := by
   have : l ≠ m := fun e => hl (by rw [← HA.out, ← HB.out, e])
   simp [Hid, this]
  have hne : ((la : Int) != (lb : Int)) = true := by simp; omega
  go_enter Tryz.func33, Tryz.ntmps33
  go_wp2
  go_ret
  exact ⟨by rw [HS.out]; rfl, Below.refl _ _⟩

/-- Some lists of hits. -/
def Hss (w : World) (a : Option Addr) (len : Nat) (ls : List (List HitP)) : Prop :=
 ∃ vs : List (Option Addr × Nat × Nat), Sl1 (fun v => Value.slice v.1 v.2.1 v.2.2) w a len vs ∧ vs.length = ls.length ∧ ∀ (i : Nat) (v : Option Addr × Nat × Nat) (l : List HitP), vs[i]? = some v → ls[i]? = some l → Hts w v.1 v.2.1 l
theorem Hss.below {w w' : World} {a : Option Addr} {len : Nat} {ls : List (List HitP)} (h : Hss w a len ls) (hb : Below w.heap.size w w') : Hss w' a len ls := by
 obtain ⟨vs, h1, h2, h3⟩ := h
 exact ⟨vs, h1.below hb, h2, fun i v l hv hl => (h3 i v l hv hl).below hb⟩
theorem Hss.len {w : World} {a : Option Addr} {len : Nat} {ls : List (List HitP)} (h : Hss w a len ls) : ls.length = len := by
 obtain ⟨vs, h1, h2, h3⟩ := h
 rw [← h2, h1.1]
theorem Hss.at_ {w : World} {a : Option Addr} {len : Nat} {ls : List (List HitP)} (h : Hss w a len ls) {k : Nat} (hk : k < len) :
  ∃ b off a' l c x, a = some ⟨b, off, none⟩ ∧ b < w.heap.size ∧ w.cell? ⟨b, off + k, none⟩ = some (.slice a' l c) ∧ ls[k]? = some x ∧ Hts w a' l x := by
 have hl := h.len
 obtain ⟨vs, ⟨h0, h1⟩, h2, h3⟩ := h
 obtain ⟨b, off, rfl, hlt, hc⟩ := h1.resolve_left (by omega)
 obtain ⟨v, hv⟩ : ∃ v, vs[k]? = some v := ⟨vs[k]'(by omega), by simp⟩
 obtain ⟨x, hx⟩ : ∃ v, ls[k]? = some v := ⟨ls[k]'(by omega), by simp⟩
 exact ⟨b, off, v.1, v.2.1, v.2.2, x, rfl, hlt, hc k v hv, hx, h3 k v x hv hx⟩
end Go.Proofs.YtbldfgaogmfoaaaGreat

/- Machines (layer 13): the document's words that stand at a text's end; walked. -/

namespace Go.Proofs.YtbldfgaogmfoaaaGreat
open Go.RowKit Go.Sort

theorem longL_aux : ∀ (l : List (List Int)) (k : Nat), ∃ N : Nat, l.foldl (fun n w => max n (w.length : Int)) (k : Int) = (N : Int) ∧ k ≤ N ∧ (∀ y ∈ l, y.length ≤ N) ∧ ∀ M, k ≤ M → (∀ y ∈ l, y.length ≤ M) → N ≤ M
 | [], k => ⟨k, rfl, Nat.le_refl _, fun y hy => by simp at hy, fun M h _ => h⟩
 | x :: l, k => by
  obtain ⟨N, h1, h2, h3, h4⟩ := longL_aux l (max k x.length)
  refine ⟨N, ?_, by omega, fun y hy => ?_, fun M hk hM => h4 M (by have := hM x (List.mem_cons_self ..); omega) fun y hy => hM y (List.mem_cons_of_mem _ hy)⟩
  ·
   rw [List.foldl_cons, ← h1]
   congr 1
   omega
  ·
   rcases List.mem_cons.1 hy with rfl | hy
   · omega
   · exact h3 y hy
theorem longL_spec (l : List (List Int)) : ∃ N : Nat, longL l = (N : Int) ∧ (∀ y ∈ l, y.length ≤ N) ∧ ∀ M, (∀ y ∈ l, y.length ≤ M) → N ≤ M := by
 obtain ⟨N, h1, _, h3, h4⟩ := longL_aux l 0
 exact ⟨N, h1, h3, fun M hM => h4 M (Nat.zero_le _) hM⟩

end Go.Proofs.YtbldfgaogmfoaaaGreat

/- Machines (layer 13): where one goes on, behind bytes; how many nodes, the longest, most: walked. -/

namespace Go.Proofs.YtbldfgaogmfoaaaGreat
open Go.RowKit Go.Sort

theorem goD_some {L F : List Int} {m j c : Nat} {y : Int} (h : goD L (m : Int) F (j : Int) c = some y) (hL : L.length = 256) (hc : c < 256) : ∃ v : Nat, L[c]? = some (v : Int) ∧ v < m ∧ F[j * m + v]? = some y := by
 obtain ⟨v, hv⟩ : ∃ v, L[c]? = some v := ⟨L[c]'(by omega), by simp⟩
 unfold goD at h
 rw [hv, Option.getD_some] at h
 split at h
 · exact absurd h (by simp)
 ·
  rename_i hn
  obtain ⟨v, rfl⟩ : ∃ k : Nat, v = (k : Int) := ⟨v.toNat, by omega⟩
  refine ⟨v, hv, by omega, ?_⟩
  rw [show ((j : Int) * (m : Int) + (v : Int)).toNat = j * m + v by rw [← Int.natCast_mul]; omega] at h
  exact h

set_option maxRecDepth 100000 in
set_option maxHeartbeats 4000000 in
theorem on13_any (B R : Nat) (L F : List Int) (m j c n0 c0 : Nat) (y n : Int) (fold : Bool) (sw : Value) (lo mo : Int) (wd : Value) (w : World) (h : Mc w B L m n (.slice (some ⟨R, 0, none⟩) n0 c0) fold sw lo mo wd) (hF : Sl1 (Value.int .i64) w (some ⟨R, 0, none⟩) n0 F) (hn : n0 ≤ 1000000000) (hc : c < 256) (hy : goD L (m : Int) F (j : Int) c = some y) :
  Calls Tryz.prog 104 #[.pointer (some ⟨B, 0, none⟩), .int .i64 (j : Int), .int .u8 (c : Int)] w fun e w' => e = .returned (.int .i64 y) ∧ Below w.heap.size w w' := by
 obtain ⟨v, hv, hvm, hx⟩ := goD_some hy h.len hc
 have c1 : (j : Int) * (m : Int) = ((j * m : Nat) : Int) := (Int.natCast_mul _ _).symm
 obtain ⟨P, hP⟩ : ∃ P, j * m = P := ⟨_, rfl⟩
 rw [hP] at c1 hx
 have l1 : P + v < n0 := by have := (List.getElem?_eq_some_iff.1 hx).1; have := hF.1; omega
 obtain ⟨b0, o0, x, e0, hlt, cx, hx2⟩ := sl1_at hF l1
 cases e0
 obtain rfl : x = y := by have := hx2.symm.trans hx; cases this; rfl
 obtain ⟨s0, s1, s2⟩ := And.intro (h.cls hv) (And.intro h.cells.1 h.cells.2.2.1)
 have i1 : (0 : Int) ≤ (c : Int) := by omega
 have i2 : (c : Int) < 256 := by omega
 have l2 : (0 : Int) ≤ (P : Int) + (v : Int) := by omega
 have l3 : (P : Int) + (v : Int) < (n0 : Int) := by omega
 have e1 : wrap64 ((j : Int) * (m : Int)) = (P : Int) := by rw [c1]; unfold wrap64; omega
 have hB := h.lt
 have f0 : ∀ d os, (grow (redrawn w d) os).cell? ⟨B, c, none⟩ = some (.int .i64 (v : Int)) := fun d os => ((below_regrown w d os).cell (p := ⟨B, c, none⟩) hB).trans s0
 have f1 : ∀ d os, (grow (redrawn w d) os).cell? ⟨B, 256, none⟩ = some (.int .i64 (m : Int)) := fun d os => ((below_regrown w d os).cell (p := ⟨B, 256, none⟩) hB).trans s1
 have f2 : ∀ d os, (grow (redrawn w d) os).cell? ⟨B, 258, none⟩ = some (.slice (some ⟨R, 0, none⟩) n0 c0) := fun d os => ((below_regrown w d os).cell (p := ⟨B, 258, none⟩) hB).trans s2
 have f3 : ∀ d os, (grow (redrawn w d) os).cell? ⟨R, 0 + (P + v), none⟩ = some (.int .i64 x) := fun d os => ((below_regrown w d os).cell (p := ⟨R, 0 + (P + v), none⟩) hlt).trans cx
 simp only [Nat.zero_add] at f3
 clear hP hF hx hx2 hy hv h hlt hB
 go_enter Tryz.func104, Tryz.ntmps104
 go_wp2_with fail
 refine wp_region_quiet_below mixed (by kernel_rfl) ?_
 repeat (go_big_quiet_step (fail))
 refine wpQuiet_nil ?_
 rintro _ ⟨⟨dq, osq⟩, rfl⟩
 go_wp2
 go_ret
 exact ⟨rfl, below_regrown _ _ _⟩

set_option maxHeartbeats 2000000 in
theorem step13_in (B R : Nat) (L F : List Int) (m j c n0 c0 : Nat) (y n : Int) (fold : Bool) (sw : Value) (lo mo : Int) (wd : Value) (w : World) (h : Mc w B L m n (.slice (some ⟨R, 0, none⟩) n0 c0) fold sw lo mo wd) (hF : Sl1 (Value.int .i64) w (some ⟨R, 0, none⟩) n0 F) (hn : n0 ≤ 1000000000) (hc : c < 256) (hj : (j : Int) < n) (hy : goD L (m : Int) F (j : Int) c = some y) :
  Calls Tryz.prog 70 #[.pointer (some ⟨B, 0, none⟩), .int .i64 (j : Int), .int .u8 (c : Int)] w fun e w' => e = .returned (.tuple #[.int .i64 y, .bool true]) ∧ Below w.heap.size w w' := by
 have HO := Lib.hid (on13_any B R L F m j c n0 c0 y n fold sw lo mo wd w h hF hn hc hy)
 have hi := is13_any B L m n (.slice (some ⟨R, 0, none⟩) n0 c0) fold sw lo mo wd j w h
 rw [show decide (0 ≤ (j : Int) ∧ (j : Int) < n) = true by simp; omega] at hi
 have HI := Lib.hid hi
 clear hi h hF hy hj
 go_enter Tryz.func70, Tryz.ntmps70
 go_wp2_with (first
  | (go_at_call 103; refine HI.out.mono ?_; rintro e w4 ⟨rfl, rfl⟩)
  | (go_at_call 104; refine HO.out.mono ?_; rintro e w4 ⟨rfl, hb4⟩))
 go_ret2
 exact ⟨rfl, hb4⟩

set_option maxHeartbeats 2000000 in
theorem step13_out (B : Nat) (L : List Int) (m n : Int) (row : Value) (fold : Bool) (sw : Value) (lo mo : Int) (wd : Value) (j : Int) (c : Nat) (w : World) (h : Mc w B L m n row fold sw lo mo wd) (hj : j < 0 ∨ n ≤ j) :
  Calls Tryz.prog 70 #[.pointer (some ⟨B, 0, none⟩), .int .i64 j, .int .u8 (c : Int)] w fun e w' => e = .returned (.tuple #[.int .i64 0, .bool false]) ∧ w = w' := by
 have hi := is13_any B L m n row fold sw lo mo wd j w h
 rw [show decide (0 ≤ j ∧ j < n) = false by simp; omega] at hi
 have HI := Lib.hid hi
 clear hi h hj
 go_enter Tryz.func70, Tryz.ntmps70
 go_wp2_with (go_at_call 103; refine HI.out.mono ?_; rintro e w4 ⟨rfl, rfl⟩)
 go_ret2
 exact ⟨rfl, rfl⟩

/-- A machine in memory leads where its set's table does. -/
theorem step13_any {B R la ca wc : Nat} {fold : Bool} {wss : List (List Int)} {lo mo : Int} {a wa : Option Addr} (node : Int) (c : Nat) (w : World) (h : MOK w B fold wss lo mo R a la ca wa wc) (ht : OkT fold wss) (hn : manyP fold wss * (nodesL wss).length ≤ 1000000000) (hc : c < 256) :
  Calls Tryz.prog 70 #[.pointer (some ⟨B, 0, none⟩), .int .i64 node, .int .u8 (c : Int)] w fun e w' => e = .returned (goDV (goD (clsP fold wss) (manyP fold wss) (tabP fold wss) node c)) ∧ Below w.heap.size w w' := by
 by_cases hj : node < 0 ∨ ((nodesL wss).length : Int) ≤ node
 ·
  rw [goD_out ht hj]
  exact (step13_out B _ _ _ _ fold _ lo mo _ node c w h.mc hj).mono fun e w' ⟨h1, h2⟩ => ⟨h1, by rw [← h2]; exact Below.refl _ _⟩
 ·
  obtain ⟨j, rfl⟩ : ∃ k : Nat, node = (k : Int) := ⟨node.toNat, by omega⟩
  obtain ⟨x, hx⟩ : ∃ x, (nodesL wss)[j]? = some x := ⟨(nodesL wss)[j]'(by omega), by simp⟩
  have hg := goD_tab ht hx hc
  rw [hg]
  have hF : Sl1 (Value.int .i64) w (some ⟨R, 0, none⟩) (manyP fold wss * (nodesL wss).length) (tabP fold wss) := by
   rw [← tabP_len ht]; exact h.row.sl1
  exact step13_in B R _ _ _ j c _ _ _ _ fold _ lo mo _ w h.mc hF hn hc (by omega) hg

set_option maxHeartbeats 2000000 in
theorem states13_any (B : Nat) (L : List Int) (m n : Int) (row : Value) (fold : Bool) (sw : Value) (lo mo : Int) (wd : Value) (w : World) (h : Mc w B L m n row fold sw lo mo wd) :
  Calls Tryz.prog 74 #[.pointer (some ⟨B, 0, none⟩)] w fun e w' => e = .returned (.int .i64 n) ∧ w = w' := by
 have c5 := h.cells.2.1
 clear h
 go_enter Tryz.func74, Tryz.ntmps74
 go_wp2
 go_ret
 exact ⟨rfl, rfl⟩
set_option maxHeartbeats 2000000 in
theorem longest13_any (B : Nat) (L : List Int) (m n : Int) (row : Value) (fold : Bool) (sw : Value) (lo mo : Int) (wd : Value) (w : World) (h : Mc w B L m n row fold sw lo mo wd) :
  Calls Tryz.prog 108 #[.pointer (some ⟨B, 0, none⟩)] w fun e w' => e = .returned (.int .i64 lo) ∧ w = w' := by
 have c5 := h.cells.2.2.2.2.2.1
 clear h
 go_enter Tryz.func108, Tryz.ntmps108
 go_wp2
 go_ret
 exact ⟨rfl, rfl⟩
end Go.Proofs.YtbldfgaogmfoaaaGreat

/- What the document says of ushe (layer 13): walked. -/

namespace Go.Proofs.YtbldfgaogmfoaaaGreat
open Go.RowKit Go.Sort

/-- What a machine that is asked answers. -/
structure MUse (W0 : World) (B : Nat) (fold : Bool) (wss : List (List Int)) (V : World) : Prop where
 ex : ∃ (R la ca wc : Nat) (a wa : Option Addr), MOK V B fold wss (longL wss) ((mostN wss (nodesL wss).length : Nat) : Int) R a la ca wa wc ∧ la ≤ 1000000
 ok : OkT fold wss
 tab : manyP fold wss * (nodesL wss).length ≤ 1000000000
 len : ∀ x ∈ wss, x.length ≤ 1000000
 nod : (nodesL wss).length ≤ 1000000
 bel : Below W0.heap.size W0 V
section
variable {W0 V V' : World} {B : Nat} {fold : Bool} {wss : List (List Int)}
theorem MUse.below (h : MUse W0 B fold wss V) (hb : Below V.heap.size V V') : MUse W0 B fold wss V' := by
 obtain ⟨⟨R, la, ca, wc, a, wa, h1, h2⟩, h3, h4, h5, h6, h7⟩ := h
 exact ⟨⟨R, la, ca, wc, a, wa, h1.below hb, h2⟩, h3, h4, h5, h6, h7.trans (hb.mono h7.size)⟩
theorem words13_le (wss : List (List Int)) (node : Int) (h : (nodesL wss).length ≤ 1000000) : (words13 wss node).length ≤ 1000000 := by
 unfold words13
 split
 ·
  have := words9_len wss node.toNat
  omega
 · simp
theorem MUse.step (h : MUse W0 B fold wss V) (node : Int) (c : Nat) (hc : c < 256) :
  Calls Tryz.prog 70 #[.pointer (some ⟨B, 0, none⟩), .int .i64 node, .int .u8 (c : Int)] V fun e w' => e = .returned (goDV (goD (clsP fold wss) (manyP fold wss) (tabP fold wss) node c)) ∧ Below V.heap.size V w' := by
 obtain ⟨⟨R, la, ca, wc, a, wa, h1, h2⟩, h3, h4, h5, h6, h7⟩ := h
 exact step13_any node c V h1 h3 h4 hc
theorem MUse.words (h : MUse W0 B fold wss V) (node : Int) :
  Calls Tryz.prog 105 #[.pointer (some ⟨B, 0, none⟩), .int .i64 node] V fun e w' => ∃ (a : Option Addr) (c : Nat), e = .returned (.slice a (words13 wss node).length c) ∧ Sl1 (Value.int .i64) w' a (words13 wss node).length (words13 wss node) ∧ OwnI w' V.heap.size (.slice a (words13 wss node).length c) (words13 wss node) ∧ Below V.heap.size V w' := by
 obtain ⟨⟨R, la, ca, wc, a, wa, h1, h2⟩, h3, h4, h5, h6, h7⟩ := h
 refine (words13_any node V h1 (words13_le wss node h6)).mono ?_
 rintro e w' ⟨v, rfl, ho, hb⟩
 obtain ⟨a1, c1, rfl, hc, hs⟩ := own_sl1 (enc := Value.int .i64) ho
 exact ⟨a1, c1, rfl, hs, ho, hb⟩
theorem MUse.hits (h : MUse W0 B fold wss V) (node at_ : Int) (hat : I64 at_) (hws : ∀ x ∈ words13 wss node, I64 x) :
  Calls Tryz.prog 71 #[.pointer (some ⟨B, 0, none⟩), .int .i64 node, .int .i64 at_] V fun e w' => ∃ (a : Option Addr) (c : Nat), e = .returned (.slice a (words13 wss node).length c) ∧ Hts w' a (words13 wss node).length ((words13 wss node).map fun x => (at_, x)) ∧ OwnH w' V.heap.size (.slice a (words13 wss node).length c) ((words13 wss node).map fun x => (at_, x)) ∧ Below V.heap.size V w' := by
 obtain ⟨⟨R, la, ca, wc, a, wa, h1, h2⟩, h3, h4, h5, h6, h7⟩ := h
 refine (hits13_any node at_ V h1 (words13_le wss node h6)).mono ?_
 rintro e w' ⟨v, rfl, ho, hb⟩
 obtain ⟨a1, c1, rfl, hc, hs⟩ := OwnH.hts ho (fun h hh => by
  obtain ⟨x, hx, rfl⟩ := List.mem_map.1 hh
  exact ⟨hat, hws x hx⟩)
 rw [List.length_map] at hs ho ⊢
 exact ⟨a1, c1, rfl, hs, ho, hb⟩
theorem MUse.states (h : MUse W0 B fold wss V) :
  Calls Tryz.prog 74 #[.pointer (some ⟨B, 0, none⟩)] V fun e w' => e = .returned (.int .i64 ((nodesL wss).length : Int)) ∧ V = w' := by
 obtain ⟨⟨R, la, ca, wc, a, wa, h1, h2⟩, h3, h4, h5, h6, h7⟩ := h
 exact states13_any B _ _ _ _ _ _ _ _ _ V h1.mc
theorem MUse.longest (h : MUse W0 B fold wss V) :
  Calls Tryz.prog 108 #[.pointer (some ⟨B, 0, none⟩)] V fun e w' => e = .returned (.int .i64 (longL wss)) ∧ V = w' := by
 obtain ⟨⟨R, la, ca, wc, a, wa, h1, h2⟩, h3, h4, h5, h6, h7⟩ := h
 exact longest13_any B _ _ _ _ _ _ _ _ _ V h1.mc
end
/-- A machine whose blocks lie at q or beyond. -/
structure MUseF (q B : Nat) (fold : Bool) (wss : List (List Int)) (V : World) : Prop where
 ex : ∃ (R la ca wc : Nat) (a wa : Option Addr), MOK V B fold wss (longL wss) ((mostN wss (nodesL wss).length : Nat) : Int) R a la ca wa wc ∧ la ≤ 1000000 ∧ MFar q V B R a la ca wss wa
 ok : OkT fold wss
 tab : manyP fold wss * (nodesL wss).length ≤ 1000000000
 len : ∀ x ∈ wss, x.length ≤ 1000000
 nod : (nodesL wss).length ≤ 1000000
theorem MUseF.kept {q B : Nat} {fold : Bool} {wss : List (List Int)} {V V' : World} (h : MUseF q B fold wss V) (hk : CKept q V V') : MUseF q B fold wss V' := by
 obtain ⟨⟨R, la, ca, wc, a, wa, h1, h2, h8⟩, h3, h4, h5, h6⟩ := h
 exact ⟨⟨R, la, ca, wc, a, wa, h8.mok hk h1, h2, h8.kept hk⟩, h3, h4, h5, h6⟩
/-- A set that may be has a machine. -/
theorem compile13_far (fold : Bool) (a : Option Addr) (la ca : Nat) (wss : List (List Int)) (w : World) (hA : Wds w a la wss) (hla : la ≤ 1000000) (hM : ∀ x ∈ wss, x.length ≤ 1000000) (hT : (begL fold wss).length ≤ 1000000) (hr : rightP fold wss = true) :
  Calls Tryz.prog 30 #[.agg (setV fold a la ca)] w fun e w' => ∃ B, e = .returned (.tuple #[.pointer (some ⟨B, 0, none⟩), .int .i64 0]) ∧ MUseF w.heap.size B fold wss w' ∧ Below w.heap.size w w' := by
 have hOK := okT hr (fun x hx c hc => hA.bytes x hx c hc)
 have hn4 : (nodesL wss).length ≤ 400 := read_n (readP_iff.2 ⟨right_false hr, rfl, rfl⟩)
 have hm : manyP fold wss ≤ 257 := (clsN_many _ _ _).2
 refine (compile13_yes fold a la ca wss w hA hla hM hT hr).mono ?_
 rintro e w' ⟨B, R, ca', wc, a', wa, h1, h2, h3, h4⟩
 exact ⟨B, h1, ⟨⟨R, la, ca', wc, a', wa, h2, hla, h4⟩, hOK, Nat.le_trans (Nat.mul_le_mul hm hn4) (by omega), hM, by omega⟩, h3⟩
theorem compile13_use (fold : Bool) (a : Option Addr) (la ca : Nat) (wss : List (List Int)) (w : World) (hA : Wds w a la wss) (hla : la ≤ 1000000) (hM : ∀ x ∈ wss, x.length ≤ 1000000) (hT : (begL fold wss).length ≤ 1000000) (hr : rightP fold wss = true) :
  Calls Tryz.prog 30 #[.agg (setV fold a la ca)] w fun e w' => ∃ B, e = .returned (.tuple #[.pointer (some ⟨B, 0, none⟩), .int .i64 0]) ∧ MUse w B fold wss w' := by
 refine (compile13_far fold a la ca wss w hA hla hM hT hr).mono ?_
 rintro e w' ⟨B, h1, h2, h3⟩
 obtain ⟨⟨R, la, ca, wc, a, wa, g1, g2, _⟩, g3, g4, g5, g6⟩ := h2
 exact ⟨B, h1, ⟨R, la, ca, wc, a, wa, g1, g2⟩, g3, g4, g5, g6, h3⟩
end Go.Proofs.YtbldfgaogmfoaaaGreat

/- A drawn region with held cells: operations whose values are known by a relation; one, and two of which either may come first. -/

namespace Go.Proofs.YtbldfgaogmfoaaaGreat
open Go.RowKit Go.Sort

section
variable {P : Program} {md : Region.Mode} {ops : Array Oper} {Q : Exit → Act → World → Prop} {S : World → Prop}
/-- An operation that is carried out in whatever world that meets S: what it tells meets R, and S holds behind it. -/
def StepsG (P : Program) (ops : Array Oper) (Q : Exit → Act → World → Prop) (S : World → Prop) (o : Oper) (R : Value → World → Prop) (a : Act) : Prop :=
 ∀ w, S w → ∀ K : Act → World → Prop, (∀ v w', S w' → R v w' → RowKit.Below w.heap.size w w' → K (a.put o.dst v) w') → if Region.wanted o (yielded ops a.tmps) = true then Oper.wp P o a w K Q else K (a.put o.dst undef) w
end
end Go.Proofs.YtbldfgaogmfoaaaGreat

/- Plain laws of layer 6: how many hits there are, a text in parts. -/

namespace Go.Proofs.YtbldfgaogmfoaaaGreat

theorem putH_length (wss : List (List Int)) (l : List HitP) (h : HitP) : (putH wss l h).length = l.length + 1 := by
 have := putN_le wss l h
 unfold putH
 simp
 omega
theorem hereD_length (fold : Bool) (wss : List (List Int)) (frm : Int) (text : List Int) (place : Nat) : ∀ n, (hereD fold wss frm text place n).length = ((List.range n).filter fun k => stands fold wss text place k).length
 | 0 => by simp [hereD]
 | n + 1 => by
  have ih := hereD_length fold wss frm text place n
  rw [hereD_succ, List.range_succ, List.filter_append]
  cases e : stands fold wss text place n <;> simp [e, ih, putH_length]
/-- What stands in a part. -/
theorem atL_take {fold : Bool} {text word : List Int} {at_ p : Nat} (hp : p ≤ at_) (ha : at_ ≤ text.length) : atL fold (text.take at_) p word = atL fold text p word := by
 unfold atL
 rw [List.length_take, Nat.min_eq_left ha, Int.toNat_natCast]
 have e : ((text.take at_).drop (p - word.length)).take word.length = (text.drop (p - word.length)).take word.length ∨ ¬ (word.length : Int) ≤ p := by
  by_cases hw : word.length ≤ p
  ·
   left
   rw [List.drop_take, List.take_take, Nat.min_eq_left (by omega)]
  · right; omega
 rcases e with e | e
 ·
  rw [e]
  congr 2
  simp
  omega
 ·
  rw [decide_eq_false (by omega), decide_eq_false (by omega)]
  rfl
theorem stands_take {fold : Bool} {wss : List (List Int)} {text : List Int} {at_ p k : Nat} (hp : p ≤ at_) (ha : at_ ≤ text.length) : stands fold wss (text.take at_) p k = stands fold wss text p k := atL_take hp ha
end Go.Proofs.YtbldfgaogmfoaaaGreat

/- Streams (layer 14): what a scan tells of bytes that come, and that it is what stands in the text: plain. -/

namespace Go.Proofs.YtbldfgaogmfoaaaGreat

/-- The words that end at bytes are those of the set that are ends of them. -/
theorem mem_sufW {ws : List (List Int)} (hn : ws.Nodup) (h0 : ∀ y ∈ ws, y.length ≠ 0) {v : Int} : ∀ {b : List Int}, v ∈ sufW ws b ↔ ∃ (k : Nat) (y : List Int), ws[k]? = some y ∧ y <:+ b ∧ v = (k : Int)
 | [] => by
  constructor
  · intro h; exact absurd h (by simp [sufW])
  ·
   rintro ⟨k, y, hk, hy, _⟩
   rw [List.suffix_nil] at hy
   subst hy
   exact absurd rfl (h0 [] (List.mem_of_getElem? hk))
 | c :: b => by
  have ih := mem_sufW hn h0 (v := v) (b := b)
  rw [sufW_cons, List.mem_append, ih]
  constructor
  ·
   rintro (h | ⟨k, y, h1, h2, h3⟩)
   ·
    by_cases hm : (c :: b) ∈ ws
    ·
     rw [if_pos hm, List.mem_singleton] at h
     obtain ⟨k, hk⟩ := List.getElem?_of_mem hm
     exact ⟨k, _, hk, List.suffix_refl _, by rw [h, placeS_at hn hk]⟩
    · rw [if_neg hm] at h; simp at h
   · exact ⟨k, y, h1, List.suffix_cons_iff.2 (.inr h2), h3⟩
  ·
   rintro ⟨k, y, h1, h2, h3⟩
   rcases List.suffix_cons_iff.1 h2 with rfl | h2
   ·
    left
    rw [if_pos (List.mem_of_getElem? h1), List.mem_singleton, h3, placeS_at hn h1]
   · exact .inr ⟨k, y, h1, h2, h3⟩
theorem lenW_at {ws : List (List Int)} {k : Nat} {y : List Int} (h : ws[k]? = some y) : lenW ws (k : Int) = (y.length : Int) := by
 have := (List.getElem?_eq_some_iff.1 h).1
 unfold lenW
 rw [if_pos ⟨by omega, by omega⟩, Int.toNat_natCast, h, Option.getD_some]
/-- They stand the longest first. -/
theorem sufW_rise {ws : List (List Int)} (hn : ws.Nodup) (h0 : ∀ y ∈ ws, y.length ≠ 0) (p : Int) : ∀ b : List Int, ((sufW ws b).map fun v => ((p, v) : HitP)).Pairwise (fun a b => lessH ws a b = true)
 | [] => by simp [sufW]
 | c :: b => by
  rw [sufW_cons, List.map_append, List.pairwise_append]
  refine ⟨?_, sufW_rise hn h0 p b, fun x hx y hy => ?_⟩
  · split <;> simp
  ·
   by_cases hm : (c :: b) ∈ ws
   ·
    rw [if_pos hm] at hx
    obtain ⟨k, hk⟩ := List.getElem?_of_mem hm
    rw [placeS_at hn hk, List.map_singleton, List.mem_singleton] at hx
    obtain ⟨v, hv, rfl⟩ := List.mem_map.1 hy
    obtain ⟨j, z, h1, h2, rfl⟩ := (mem_sufW hn h0).1 hv
    subst hx
    refine lessH_iff.2 (.inr ⟨rfl, .inl ?_⟩)
    rw [lenW_at hk, lenW_at h1]
    have := h2.length_le
    rw [List.length_cons]
    omega
   · rw [if_neg hm] at hx; simp at hx
section
variable {fold : Bool} {ws : List (List Int)}
/-- What stands at a place of a text. -/
theorem stands_suf (hfo : ∀ y ∈ ws, foldL fold y = y) {text : List Int} {p k : Nat} {y : List Int} (hy : ws[k]? = some y) (hp : p ≤ text.length) : stands fold ws text p k = decide (y <:+ foldL fold (text.take p)) := by
 rw [← stands_take (Nat.le_refl p) hp]
 unfold stands
 rw [hy, Option.getD_some]
 have h := atL_end (hfo y (List.mem_of_getElem? hy)) (text.take p)
 rw [List.length_take, Nat.min_eq_left hp] at h
 exact h
theorem here_suf (hn : ws.Nodup) (h0 : ∀ y ∈ ws, y.length ≠ 0) (hfo : ∀ y ∈ ws, foldL fold y = y) (frm : Int) (text : List Int) {p : Nat} (hp : p ≤ text.length) :
  hereD fold ws frm text p ws.length = (sufW ws (foldL fold (text.take p))).map fun v => (frm + p, v) := by
 refine rise_unique (hereD_rises fold ws frm text p _) (sufW_rise hn h0 _ _) fun x => ?_
 rw [mem_hereD, List.mem_map]
 constructor
 ·
  rintro ⟨k, h1, h2, rfl⟩
  have hk : ws[k]? = some ws[k] := List.getElem?_eq_getElem h1
  rw [stands_suf hfo hk hp] at h2
  exact ⟨_, (mem_sufW hn h0).2 ⟨k, _, hk, of_decide_eq_true h2, rfl⟩, rfl⟩
 ·
  rintro ⟨v, hv, rfl⟩
  obtain ⟨k, y, h1, h2, rfl⟩ := (mem_sufW hn h0).1 hv
  exact ⟨k, (List.getElem?_eq_some_iff.1 h1).1, by rw [stands_suf hfo h1 hp]; exact decide_eq_true h2, rfl⟩
/-- The hits that bytes tell that come behind others, one behind the other. -/
def goesH (ws : List (List Int)) (x : List Int) (at_ : Int) : List Int → List HitP
 | [] => []
 | c :: b => (sufW ws (x ++ [c])).map (fun v => ((at_ + 1, v) : HitP)) ++ goesH ws (x ++ [c]) (at_ + 1) b
theorem goesH_append (x : List Int) (at_ : Int) : ∀ (b d : List Int), goesH ws x at_ (b ++ d) = goesH ws x at_ b ++ goesH ws (x ++ b) (at_ + b.length) d
 | [], d => by simp [goesH]
 | c :: b, d => by
  have ih := goesH_append (x ++ [c]) (at_ + 1) b d
  simp only [List.cons_append, goesH, ih, List.append_assoc, List.length_cons, List.singleton_append, List.nil_append, Int.natCast_add, Int.natCast_one]
  rw [show at_ + 1 + (b.length : Int) = at_ + ((b.length : Int) + 1) by omega]
theorem goesH_shift (x : List Int) (d : Int) : ∀ (b : List Int) (at_ : Int), goesH ws x (at_ + d) b = (goesH ws x at_ b).map fun h => (h.1 + d, h.2)
 | b, at_ => by
  induction b generalizing x at_ with
  | nil => rfl
  | cons c b ih =>
   simp only [goesH, List.map_append, List.map_map]
   rw [show at_ + d + 1 = at_ + 1 + d by omega, ih]
   rfl
theorem goesH_places (x : List Int) : ∀ (b : List Int) (at_ : Int), ∀ h ∈ goesH ws x at_ b, at_ < h.1 ∧ h.1 ≤ at_ + b.length
 | b, at_ => by
  induction b generalizing x at_ with
  | nil => intro h hh; simp [goesH] at hh
  | cons c b ih =>
   intro h hh
   simp only [goesH, List.mem_append, List.mem_map] at hh
   rw [List.length_cons]
   rcases hh with ⟨v, _, rfl⟩ | hh
   · dsimp only; omega
   · have := ih (x ++ [c]) (at_ + 1) h hh; omega
/-- All hits of a text are what its bytes tell. -/
theorem occ_goes (hn : ws.Nodup) (h0 : ∀ y ∈ ws, y.length ≠ 0) (hfo : ∀ y ∈ ws, foldL fold y = y) (frm : Int) (text : List Int) : occD fold ws frm text = goesH ws [] frm (foldL fold text) := by
 have key : ∀ n, n ≤ text.length → occTo fold ws frm text (n + 1) = goesH ws [] frm (foldL fold (text.take n)) := by
  intro n
  induction n with
  | zero =>
   intro _
   rw [occTo_succ, here_suf hn h0 hfo frm text (Nat.zero_le _)]
   have e : foldL fold [] = [] := by rw [foldL_map]; rfl
   simp [occTo, e, goesH, sufW]
  | succ n ih =>
   intro hle
   rw [occTo_succ, ih (by omega), here_suf hn h0 hfo frm text hle]
   obtain ⟨c, hc⟩ : ∃ c, text[n]? = some c := ⟨text[n]'(by omega), by simp⟩
   have e : text.take (n + 1) = text.take n ++ [c] := by rw [List.take_add_one, hc]; rfl
   have e2 : foldL fold (text.take n ++ [c]) = foldL fold (text.take n) ++ foldL fold [c] := by simp only [foldL_map, List.map_append]
   obtain ⟨d, hd⟩ : ∃ d, foldL fold [c] = [d] := ⟨_, by rw [foldL_map]; rfl⟩
   rw [e, e2, hd, goesH_append]
   simp only [goesH, List.append_nil, List.nil_append]
   rw [foldL_length, List.length_take, Nat.min_eq_left (by omega)]
   congr 2
   funext v
   rw [show frm + ((n : Int)) + 1 = frm + ((n + 1 : Nat) : Int) by omega]
 have h := key text.length (Nat.le_refl _)
 rwa [List.take_length] at h
/-- What stands behind a beginning of the text. -/
theorem goesH_filter (x : List Int) (at_ : Int) (b d : List Int) : (goesH ws x at_ (b ++ d)).filter (fun h => decide (at_ + b.length < h.1)) = goesH ws (x ++ b) (at_ + b.length) d := by
 rw [goesH_append, List.filter_append]
 have e1 : (goesH ws x at_ b).filter (fun h => decide (at_ + b.length < h.1)) = [] := by
  rw [List.filter_eq_nil_iff]
  intro h hh
  have := (goesH_places x b at_ h hh).2
  simp; omega
 have e2 : (goesH ws (x ++ b) (at_ + b.length) d).filter (fun h => decide (at_ + b.length < h.1)) = goesH ws (x ++ b) (at_ + b.length) d := by
  rw [List.filter_eq_self]
  intro h hh
  have := (goesH_places (x ++ b) d (at_ + b.length) h hh).1
  simp; omega
 rw [e1, e2, List.nil_append]
theorem lsf_app (x : List Int) : ∀ y : List Int, lsf (nodesL ws) (lsf (nodesL ws) x ++ y) = lsf (nodesL ws) (x ++ y) := by
 intro y
 induction y generalizing x with
 | nil =>
  rw [List.append_nil, List.append_nil]
  exact lsf_of_mem (lsf_mem (List.mem_of_getElem? (nodesL_head ws)) x)
 | cons c y ih =>
  rw [show lsf (nodesL ws) x ++ c :: y = (lsf (nodesL ws) x ++ [c]) ++ y by simp, show x ++ c :: y = (x ++ [c]) ++ y by simp]
  rw [← ih (lsf (nodesL ws) x ++ [c]), ← (deep_law x c).2.2, ih (x ++ [c])]
theorem sufW_app (h0 : [] ∉ ws) (x y : List Int) : sufW ws (lsf (nodesL ws) x ++ y) = sufW ws (x ++ y) := by
 rw [← sufW_lsf h0 (lsf (nodesL ws) x ++ y), lsf_app, sufW_lsf h0]
theorem goesH_lsf (h0 : [] ∉ ws) : ∀ (b : List Int) (x : List Int) (at_ : Int), goesH ws (lsf (nodesL ws) x) at_ b = goesH ws x at_ b := by
 have key : ∀ (b x u : List Int) (at_ : Int), goesH ws (lsf (nodesL ws) x ++ u) at_ b = goesH ws (x ++ u) at_ b := by
  intro b
  induction b with
  | nil => intros; rfl
  | cons c b ih =>
   intro x u at_
   have := ih x (u ++ [c]) (at_ + 1)
   simp only [goesH, List.append_assoc, sufW_app h0]
   rw [this]
 intro b x at_
 have := key b x [] at_
 rwa [List.append_nil, List.append_nil] at this
end
/-- The node behind a node and a byte; behind bytes. -/
def nextZ (fold : Bool) (ws : List (List Int)) (z : Nat) (c : Int) : Nat := (nodeI ws (lsf (nodesL ws) (((nodesL ws)[z]?).getD [] ++ [fcB fold c]))).toNat
def feedZ (fold : Bool) (ws : List (List Int)) (z : Nat) (b : List Int) : Nat := b.foldl (nextZ fold ws) z
/-- The hits of a scan, byte by byte. -/
def scanH (fold : Bool) (ws : List (List Int)) : Nat → Int → List Int → List HitP
 | _, _, [] => []
 | z, at_, c :: b => (words9 ws (nextZ fold ws z c)).map (fun v => ((at_ + 1, v) : HitP)) ++ scanH fold ws (nextZ fold ws z c) (at_ + 1) b
section
variable {fold : Bool} {ws : List (List Int)}
theorem feedZ_nil (z : Nat) : feedZ fold ws z [] = z := rfl
theorem feedZ_cons (z : Nat) (c : Int) (b : List Int) : feedZ fold ws z (c :: b) = feedZ fold ws (nextZ fold ws z c) b := rfl
theorem feedZ_append (z : Nat) (b d : List Int) : feedZ fold ws z (b ++ d) = feedZ fold ws (feedZ fold ws z b) d := by simp [feedZ, List.foldl_append]
theorem scanH_append (z : Nat) (at_ : Int) : ∀ (b d : List Int), scanH fold ws z at_ (b ++ d) = scanH fold ws z at_ b ++ scanH fold ws (feedZ fold ws z b) (at_ + b.length) d
 | b, d => by
  induction b generalizing z at_ with
  | nil => simp [scanH, feedZ]
  | cons c b ih =>
   simp only [List.cons_append, scanH, feedZ_cons, ih, List.append_assoc, List.length_cons, Int.natCast_add, Int.natCast_one]
   rw [show at_ + 1 + (b.length : Int) = at_ + ((b.length : Int) + 1) by omega]
theorem nextZ_at {z : Nat} {x : List Int} (hx : (nodesL ws)[z]? = some x) (c : Int) : (nodesL ws)[nextZ fold ws z c]? = some (lsf (nodesL ws) (x ++ [fcB fold c])) ∧ nodeI ws (lsf (nodesL ws) (x ++ [fcB fold c])) = (nextZ fold ws z c : Int) := by
 obtain ⟨j, h1, h2, h3⟩ := node_ex (lsf_mem (List.mem_of_getElem? (nodesL_head ws)) (x ++ [fcB fold c]))
 unfold nextZ
 rw [hx, Option.getD_some, h2, Int.toNat_natCast]
 exact ⟨h1, rfl⟩
theorem feedZ_at {z : Nat} {x : List Int} (hx : (nodesL ws)[z]? = some x) : ∀ b : List Int, (nodesL ws)[feedZ fold ws z b]? = some (lsf (nodesL ws) (x ++ foldL fold b)) := by
 intro b
 induction b generalizing z x with
 | nil =>
  rw [feedZ_nil, show foldL fold [] = [] by rw [foldL_map]; rfl, List.append_nil, hx, lsf_of_mem (List.mem_of_getElem? hx)]
 | cons c b ih =>
  rw [feedZ_cons, ih (nextZ_at hx c).1, lsf_app, foldL_fcB, foldL_fcB, List.map_cons, List.append_assoc]
  rfl
theorem feedZ_lt {z : Nat} (hz : z < (nodesL ws).length) (b : List Int) : feedZ fold ws z b < (nodesL ws).length :=
 (List.getElem?_eq_some_iff.1 (feedZ_at (List.getElem?_eq_getElem hz) b)).1
/-- A scan's hits are what the bytes tell behind the node's. -/
theorem scanH_goes (h0 : ∀ y ∈ ws, y.length ≠ 0) (b : List Int) : ∀ {z : Nat} {x : List Int} (at_ : Int), (nodesL ws)[z]? = some x → scanH fold ws z at_ b = goesH ws x at_ (foldL fold b) := by
 have hn0 : [] ∉ ws := fun hm => h0 [] hm rfl
 induction b with
 | nil => intros; rw [show foldL fold [] = [] by rw [foldL_map]; rfl]; rfl
 | cons c b ih =>
  intro z x at_ hx
  have h1 := (nextZ_at (fold := fold) hx c).1
  have e : foldL fold (c :: b) = fcB fold c :: foldL fold b := by rw [foldL_fcB, foldL_fcB]; rfl
  rw [e]
  simp only [scanH, goesH]
  rw [ih _ h1, words9_suf h0 h1, goesH_lsf hn0, sufW_lsf hn0]
theorem node_fold (hfo : ∀ y ∈ ws, foldL fold y = y) {x : List Int} (hx : x ∈ nodesL ws) : foldL fold x = x := by
 rcases (mem_nodesL ws).1 hx with rfl | ⟨w, hw, n, _, _, rfl⟩
 · rw [foldL_map]; rfl
 ·
  have h := hfo w hw
  rw [foldL_map] at h ⊢
  rw [List.map_take, h]
/-- The document's way: of all hits of the node's bytes and those that come, those that end in these. -/
theorem scan_doc (hn : ws.Nodup) (h0 : ∀ y ∈ ws, y.length ≠ 0) (hfo : ∀ y ∈ ws, foldL fold y = y) {z : Nat} {x : List Int} (hx : (nodesL ws)[z]? = some x) (at_ : Int) (b : List Int) :
  scanH fold ws z at_ b = ((occD fold ws 0 (x ++ b)).filter (fun h => decide ((x.length : Int) < h.1))).map fun h => (h.1 - x.length + at_, h.2) := by
 have e : foldL fold (x ++ b) = x ++ foldL fold b := by
  have := node_fold hfo (List.mem_of_getElem? hx)
  conv => rhs; rw [← this]
  simp only [foldL_map, List.map_append]
 have h := goesH_filter (ws := ws) [] 0 x (foldL fold b)
 rw [Int.zero_add, List.nil_append] at h
 rw [occ_goes hn h0 hfo, e, h, scanH_goes h0 b at_ hx]
 have h2 := goesH_shift (ws := ws) x (at_ - x.length) (foldL fold b) (x.length : Int)
 rw [show (x.length : Int) + (at_ - x.length) = at_ by omega] at h2
 rw [h2]
 refine List.map_congr_left fun h _ => ?_
 rw [show h.1 + (at_ - (x.length : Int)) = h.1 - x.length + at_ by omega]
end
end Go.Proofs.YtbldfgaogmfoaaaGreat

/- The laws MachineEnds and MachineGoes (layer 13): walked. Printed by gen_mh.py and exp.py. -/

namespace Go.Proofs.YtbldfgaogmfoaaaGreat
open Go.RowKit Go.Sort

theorem words13_i64 {wss : List (List Int)} (hl : wss.length ≤ 1000000) (hn : wss.Nodup) (h0 : ∀ x ∈ wss, x.length ≠ 0) (node : Int) : ∀ v ∈ words13 wss node, I64 v := by
 intro v hv
 unfold words13 at hv
 split at hv
 ·
  obtain ⟨x, hx⟩ : ∃ x, (nodesL wss)[node.toNat]? = some x := ⟨_, List.getElem?_eq_getElem (by omega)⟩
  rw [words9_suf h0 hx, mem_sufW hn h0] at hv
  obtain ⟨k, y, h1, _, rfl⟩ := hv
  have := (List.getElem?_eq_some_iff.1 h1).1
  unfold I64; omega
 · simp at hv
end Go.Proofs.YtbldfgaogmfoaaaGreat
