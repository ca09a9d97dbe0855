/- Parts of the proof, one behind the other: N9, NA, NB, MI, E1, MH. No condition but what each theorem states. -/
import Derived.Test.YtbiinfnekhhfkaaGreatZ3
import Derived.Test.YtbiinfnekhhfkaaGreatZ8
import Derived.Test.YtbiinfnekhhfkaaGreatZ9
import Derived.Test.YtbiinfnekhhfkaaGreatZ11
import Derived.Test.YtbiinfnekhhfkaaGreatZ12
import Derived.Test.YtbiinfnekhhfkaaGreatZ13
import Derived.Test.YtbiinfnekhhfkaaGreatZ14
import Derived.Test.YtbiinfnekhhfkaaGreatZ15

/- The document's words of nodes (layer 9): chains, how many there are at most; walked. -/



namespace Go.Proofs.YtbiinfnekhhfkaaGreat
open Go.RowKit Go.Sort
set_option linter.unusedVariables false
set_option linter.unusedSimpArgs false

theorem chain9_spell {T : TrieT} {node : Int} {x : List Int} (hs : spellT T node = some x) : ∃ (r : List (List Int) × List (List Int)) (z : Nat), readP T = some r ∧ node = z ∧ (nodesL r.2)[z]? = some x := by
  unfold spellT at hs
  cases hr : readP T with
  | none => rw [hr] at hs; cases hs
  | some r =>
    rw [hr] at hs
    dsimp only at hs
    by_cases h0 : node < 0
    · rw [if_pos h0] at hs; cases hs
    · rw [if_neg h0] at hs
      obtain ⟨z, rfl⟩ := Int.eq_ofNat_of_zero_le (show 0 ≤ node by omega)
      rw [Int.toNat_natCast] at hs
      obtain ⟨_, _, h3⟩ := readP_iff.1 (show readP T = some (r.1, r.2) from hr)
      have h2 : r.1 = nodesL r.2 := (readP_iff.1 (show readP T = some (r.1, r.2) from hr)).2.2
      rw [h2] at hs
      exact ⟨r, z, rfl, rfl, hs⟩
theorem chain9_none {T : TrieT} {node : Int} (hs : spellT T node = none) : chain9T T node = [] := by
  unfold spellT at hs
  unfold chain9T
  cases hr : readP T with
  | none => rfl
  | some r =>
    rw [hr] at hs
    dsimp only at hs ⊢
    have h2 : r.1 = nodesL r.2 := (readP_iff.1 (show readP T = some (r.1, r.2) from hr)).2.2
    rw [h2] at hs
    refine chain9I_no (fun h => ?_)
    rw [if_neg (by omega)] at hs
    have := List.getElem?_eq_none_iff.1 hs
    omega
theorem headD_neg {ws : List (List Int)} (hn : ws.Nodup) (h0 : ∀ y ∈ ws, y.length ≠ 0) {x : List Int} {m : Nat} (hm : m ≤ x.length) (h : ¬ 0 ≤ (sufM ws x m).headD (-1)) : sufM ws x m = [] := by
  cases hs : sufM ws x m with
  | nil => rfl
  | cons v r =>
    exfalso
    obtain ⟨w, y, rfl, _⟩ := (sufM_law hn h0 x m hm).2 v r hs
    rw [hs] at h
    exact h (by show (0 : Int) ≤ (w : Int); omega)

set_option maxRecDepth 100000 in
set_option maxHeartbeats 8000000 in
theorem rchain9_any (t : TV) (T : TrieT) (node : Int) (w : World) (hT : Tri w t T) (hb : Bd4 t) :
    Calls Tryz.prog 82 #[.agg t.cells, .int .i64 node] w fun e w' => ∃ v, e = .returned v ∧ OwnI w' w.heap.size v (chain9T T node) ∧ Below w.heap.size w w' := by
  obtain ⟨i0, hi, hz0, hz2, hz3⟩ := info_parts i64_info7
  obtain ⟨ua, un, uc, da, dn, dc, xa, xn, xc, ba, bn, bc⟩ := t
  obtain ⟨W, hW⟩ : ∃ W, W = w.alloc (.cells #[.slice ua un uc, .slice da dn dc, .slice xa xn xc, .slice ba bn bc] 34) := ⟨_, rfl⟩
  have hB : Below w.heap.size w W := by rw [hW]; exact below_alloc _ _
  have hO : Bx w.heap.size [.cells #[.slice ua un uc, .slice da dn dc, .slice xa xn xc, .slice ba bn bc] 34] W := by rw [hW]; exact (Bx.nil _ w).snoc _ rfl
  have CE : Hid (∀ V, RowKit.Below W.heap.size W V → V.cell? ⟨w.heap.size, 0, none⟩ = some (.slice ua un uc) ∧ V.cell? ⟨w.heap.size, 1, none⟩ = some (.slice da dn dc) ∧ V.cell? ⟨w.heap.size, 2, none⟩ = some (.slice xa xn xc) ∧ V.cell? ⟨w.heap.size, 3, none⟩ = some (.slice ba bn bc)) := fun V hV =>
    have h := hO.below hV
    ⟨h.cell (i := 0) rfl rfl, h.cell (i := 0) rfl rfl, h.cell (i := 0) rfl rfl, h.cell (i := 0) rfl rfl⟩
  obtain ⟨c0, c1, c2, c3⟩ := CE.out W (Below.refl _ _)
  have HT := Lib.hid (hT.below hB)
  have HBB := Lib.hid hb
  clear hT hb hO
  cases hs : spellT T node with
  | none =>
    have HC := Lib.hid (rspell7_no _ T node W HT.out HBB.out hs)
    have HZ := Lib.hid (chain9_none hs)
    clear hs
    go_enter Tryz.func82, Tryz.ntmps82
    go_upto_region 1 with fail
    rw [← hW]
    clear hW
    go_wp2_with fail
    refine HC.out.mono ?_
    rintro e w1 ⟨rfl, hb1⟩
    go_wp2
    go_ret
    rw [HZ.out]
    exact ⟨_, rfl, World.ownsRow_nil _ _ _ _, hB.trans (hb1.mono hB.size)⟩
  | some x =>
    have HC := Lib.hid (rspell7_yes _ T node x W HT.out HBB.out hs)
    obtain ⟨r, z, hr, hz, hx⟩ := chain9_spell hs
    subst hz
    have HXB := Lib.hid (spellT_bd HT.out.byt hs).2
    obtain ⟨g1, g2, g3, g4, g5, g6⟩ := right_words hr
    obtain ⟨ws, hws⟩ : ∃ ws, r.2 = ws := ⟨_, rfl⟩
    rw [hws] at g1 g2 g3 g4 g5 g6 hx
    have hzl := (List.getElem?_eq_some_iff.1 hx).1
    have HCH : Hid (chain9T T (z : Int) = (sufW ws x).map (nodeT9 T)) := by
      rw [Hid, chain9T_read (sp := r.1) (ws := r.2) hr, hws, chain9I_yes hzl, ← nodeW_ends g3, words9_suf (fun y hy => (g4 y hy).1) hx, g2]
      rfl
    have hxl := nodes_bd (M := 32) (wss := ws) (fun y hy => (g4 y hy).2) x (List.mem_of_getElem? hx)
    have HWT := Lib.hid g1
    have HND := Lib.hid g3
    have HWB := Lib.hid g4
    have HWL := Lib.hid g5
    obtain ⟨lx, hlx⟩ : ∃ n, x.length = n := ⟨_, rfl⟩
    rw [hlx] at hxl
    have HLX := Lib.hid hlx
    clear hs hr g1 g2 g3 g4 g5 g6 hx hws hzl hlx
    go_enter Tryz.func82, Tryz.ntmps82
    go_upto_region 1 with fail
    rw [← hW]
    clear hW
    go_wp2_with fail
    refine HC.out.mono ?_
    rintro e w1 ⟨v, rfl, hv, hb1⟩
    obtain ⟨a1, k1, rfl, hk1, hX1⟩ := own_bys hv HXB.out
    rw [HLX.out] at hk1 hX1 ⊢
    clear c0 c1 c2 c3 hv HC
    obtain ⟨c0, c1, c2, c3⟩ := CE.out w1 hb1
    have HW := Lib.hid (rWords7_any _ T w1 (HT.out.below hb1) HBB.out)
    go_wp2_with fail
    refine HW.out.mono ?_
    rintro e w2 ⟨v, rfl, hv, hb2'⟩
    have hb2 := hb1.trans (hb2'.mono hb1.size)
    have hX2 := hX1.below hb2'
    obtain ⟨av, cv, rfl, hcv, hwd⟩ := hv.wds
    rw [HWT.out] at hwd hcv ⊢
    obtain ⟨m, hm⟩ : ∃ m, ws.length = m := ⟨_, rfl⟩
    have hwl := HWL.out
    rw [hm] at hwd hcv hwl ⊢
    have HWM := Lib.hid hm
    have h6 := rlon9_any av a1 m cv lx k1 ws x (lx : Int) w2 hwd hX2 hk1 (by omega) HND.out HWB.out HWL.out (Int.le_refl _)
    have e6 : lonR ws x (lx : Int) = (sufM ws x lx).headD (-1) := by
      unfold lonR
      rw [if_neg (by omega), Int.toNat_natCast]
    rw [e6] at h6
    have H6 := Lib.hid h6
    clear hm hv c0 c1 c2 c3 hb1 hb2' HW hX1 h6 e6
    go_wp2_with fail
    refine H6.out.mono ?_
    rintro e w3 ⟨rfl, hb3'⟩
    have hb3 := hb2.trans (hb3'.mono hb2.size)
    have HWD := Lib.hid (hwd.below hb3')
    have HX3 := Lib.hid (hX2.below hb3')
    have HB3 := Lib.hid hb3
    have hs0 : sufM ws x lx = sufW ws x := by rw [sufM_all ws x (by rw [HLX.out]; exact Nat.le_refl _)]
    have HS0 : Hid (sufW ws x = [] ++ sufM ws x lx) := hs0.symm
    have hsl := sufW_len ws x
    rw [HLX.out] at hsl
    have HSL := Lib.hid hsl
    clear hwd hX2 hb3 hb3' hb2 H6 hs0 hsl
    go_wp2
    go_loopw [8, 9] (fun s8 s9 wr => ∃ (done : List Int) (q k : Nat) (a8 : Option Addr) (c8 : Nat), q ≤ lx ∧ done.length = k ∧ s8 = .slice a8 k c8 ∧ s9 = .int .i64 ((sufM ws x q).headD (-1)) ∧ Hid (sufW ws x = done ++ sufM ws x q) ∧ wr.ownsRow w3.heap.size 3 1 (.slice a8 k c8) k ((done.map (nodeT9 T)).map (Value.int .i64)) ∧ RowKit.Below w3.heap.size w3 wr) (fun s8 _ _ => 33 - lenV s8)
    case atStart => exact ⟨[], lx, 0, none, 0, Nat.le_refl _, rfl, rfl, by simp, HS0, World.ownsRow_nil _ _ _ _, RowKit.Below.refl _ _⟩
    case round =>
      obtain ⟨done, q, k, a8, c8, hq, hk, rfl, rfl, HS, hOW, hBe⟩ := hrel
      have hkl : k ≤ 32 := by
        have h := congrArg List.length HS.out
        rw [List.length_append] at h
        have := HSL.out
        omega
      have HK := Lib.hid hk
      have HOW := Lib.hid hOW
      have HBE := Lib.hid hBe
      have hbb := HB3.out.trans (hBe.mono HB3.out.size)
      obtain ⟨c0, c1, c2, c3⟩ := CE.out wr hbb
      clear HS0 hk hOW hBe
      by_cases hh : 0 ≤ (sufM ws x q).headD (-1)
      · cases hs : sufM ws x q with
        | nil => rw [hs] at hh; exact absurd hh (by decide)
        | cons v r =>
          obtain ⟨wi, y, rfl, hy, hys, hyl, hr, _⟩ := (sufM_law HND.out (fun y hy => (HWB.out y hy).1) x q (by rw [HLX.out]; exact hq)).2 v r hs
          have HS2 : Hid (sufW ws x = (done ++ [(wi : Int)]) ++ sufM ws x (y.length - 1)) := by
            rw [Hid, HS.out, hs, hr, List.append_assoc]
            rfl
          have hy0 := (HWB.out y (List.mem_of_getElem? hy)).1
          have hwm : wi < m := by have := (List.getElem?_eq_some_iff.1 hy).1; rw [HWM.out] at this; exact this
          have e1 : decide ((0 : Int) ≤ (wi : Int)) = true := by simp
          have h8 := Lib.hid (rnode9_any ⟨ua, un, uc, da, dn, dc, xa, xn, xc, ba, bn, bc⟩ T (wi : Int) wr (HT.out.below hbb) HBB.out.2.2.1)
          obtain ⟨b, o, ay, ly, cy, y', rfl, hbl, hcy, hy', hY, hlcy⟩ := HWD.out.at_ hwm
          rw [hy] at hy'
          obtain rfl : y = y' := Option.some.inj hy'
          have hyl2 := hY.len
          rw [hyl2] at hyl hy0 HS2
          have HCY := Lib.hid hcy
          have hkd : k < 32 := by
            have h := congrArg List.length HS2.out
            rw [List.length_append, List.length_append, HK.out] at h
            have := HSL.out
            simp at h
            omega
          obtain ⟨nd, hnd⟩ : ∃ n, nodeT9 T (wi : Int) = n := ⟨_, rfl⟩
          rw [hnd] at h8
          have HNW := Lib.hid hnd
          have hsub : (ly : Int) - 1 = ((ly - 1 : Nat) : Int) := by omega
          have i1 : (0 : Int) ≤ (wi : Int) := by omega
          have i2 : (wi : Int) < (m : Int) := by omega
          clear hh hs hy hys hr hy' hY hyl2 hcy hnd HS
          go_wp2_with fail
          refine h8.out.mono ?_
          rintro e w5 ⟨rfl, hb5⟩
          have hB5 := HBE.out.trans (hb5.mono HBE.out.size)
          have hsz := hB5.size
          have hrow := row_below HOW.out hb5
          clear c0 c1 c2 c3 h8
          go_upto_region 9 with (at_builtin; refine wpList_append_own _ rfl _ _ 32 rfl w3.heap.size 3 i0 (.int .i64 0) 1 8 Tryz.underlying32 hi hz0 hz2 hz3 rfl (by decide) _ _ _ rfl (hrow.alloc _) ⟨w5.heap.size, 0, none⟩ 1 1 [.int .i64 nd] rfl rfl (cells_new _ _ (by simp)) (by simp [Value.oneCell']) (by unfold maxLen; omega) (by omega) (by simp; omega) ?_; intro v' w9 hown' hgrow hat)
          have hB9 := (hB5.alloc hsz (.cells #[.int .i64 nd] 3)).grown hgrow (by simp; omega) (fun j hj => (row_lt hrow j hj).1)
          have hO9 : w9.ownsRow w3.heap.size 3 1 v' (k + 1) (((done ++ [(wi : Int)]).map (nodeT9 T)).map (Value.int .i64)) := by
            rw [List.map_append, List.map_append]
            rw [← HNW.out] at hown'
            exact hown'
          obtain ⟨a9, c9, rfl, _, _⟩ := own_sl1 (enc := Value.int .i64) hO9
          have hcy9 : w9.cell? ⟨b, o + wi, none⟩ = some (.slice ay ly cy) := (hB9.cell (p := ⟨b, o + wi, none⟩) hbl).trans HCY.out
          have h9 := rlon9_any (some ⟨b, o, none⟩) a1 m cv lx k1 ws x ((ly - 1 : Nat) : Int) w9 (HWD.out.below hB9) (HX3.out.below hB9) hk1 (by omega) HND.out HWB.out HWL.out (by omega)
          have e9 : lonR ws x ((ly - 1 : Nat) : Int) = (sufM ws x (ly - 1)).headD (-1) := by
            unfold lonR
            rw [if_neg (by omega), Int.toNat_natCast]
          rw [e9] at h9
          have H9 := Lib.hid h9
          clear hrow hown' h9 e9 e1
          go_wp2_with fail
          refine H9.out.mono ?_
          rintro e w10 ⟨rfl, hb10⟩
          have hB10 := hB9.trans (hb10.mono hB9.size)
          have hO10 := row_below hO9 hb10
          clear hcy9 H9 hO9
          go_wp2
          go_roundw
          case rel => exact ⟨done ++ [(wi : Int)], ly - 1, k + 1, a9, c9, by omega, by rw [List.length_append, HK.out]; rfl, rfl, by simp, HS2, hO10, hB10⟩
          case measure => simp [lenV]; omega
      · have hnil := headD_neg HND.out (fun y hy => (HWB.out y hy).1) (by rw [HLX.out]; exact hq) hh
        have e1 : decide (0 ≤ (sufM ws x q).headD (-1)) = false := by simpa using hh
        have HE : Hid (chain9T T (z : Int) = done.map (nodeT9 T)) := by rw [Hid, HCH.out, HS.out, hnil, List.append_nil]
        have HE1 := Lib.hid e1
        obtain ⟨hd, hhd⟩ : ∃ h, (sufM ws x q).headD (-1) = h := ⟨_, rfl⟩
        rw [hhd] at e1 ⊢
        clear hh hnil hhd
        go_wp2
        go_ret
        refine ⟨.slice a8 k c8, rfl, ?_, hB.trans ((HB3.out.trans (HBE.out.mono HB3.out.size)).mono hB.size)⟩
        rw [HE.out]
        unfold OwnI
        rw [List.length_map, HK.out]
        exact row_mono HOW.out (by have := HB3.out.size; have := hB.size; omega)
end Go.Proofs.YtbiinfnekhhfkaaGreat

/- The document's words of nodes (layer 9): how many there are at most; walked. -/

namespace Go.Proofs.YtbiinfnekhhfkaaGreat
open Go.RowKit Go.Sort
set_option linter.unusedVariables false
set_option linter.unusedSimpArgs false

def mostT (T : TrieT) : Int := match readP T with | some r => ((mostN r.2 (nodesL r.2).length : Nat) : Int) | none => 0
theorem cnt_step {l : List (List Int)} {k : Nat} {y : List Int} {p : List Int → Bool} (hy : l[k]? = some y) : (l.take (k + 1)).countP p = (l.take k).countP p + if p y = true then 1 else 0 := by
  rw [take_step hy, List.countP_append, List.countP_cons, List.countP_nil, Nat.zero_add]

set_option maxRecDepth 100000 in
set_option maxHeartbeats 8000000 in
theorem rmost9_any (t : TV) (T : TrieT) (w : World) (hT : Tri w t T) (hb : Bd4 t) :
    Calls Tryz.prog 34 #[.agg t.cells] w fun e w' => e = .returned (.int .i64 (mostT T)) ∧ Below w.heap.size w w' := by
  obtain ⟨ua, un, uc, da, dn, dc, xa, xn, xc, ba, bn, bc⟩ := t
  obtain ⟨W, hW⟩ : ∃ W, W = w.alloc (.cells #[.slice ua un uc, .slice da dn dc, .slice xa xn xc, .slice ba bn bc] 34) := ⟨_, rfl⟩
  have hB : Below w.heap.size w W := by rw [hW]; exact below_alloc _ _
  have hO : Bx w.heap.size [.cells #[.slice ua un uc, .slice da dn dc, .slice xa xn xc, .slice ba bn bc] 34] W := by rw [hW]; exact (Bx.nil _ w).snoc _ rfl
  have CE : Hid (∀ V, RowKit.Below W.heap.size W V → V.cell? ⟨w.heap.size, 0, none⟩ = some (.slice ua un uc) ∧ V.cell? ⟨w.heap.size, 1, none⟩ = some (.slice da dn dc) ∧ V.cell? ⟨w.heap.size, 2, none⟩ = some (.slice xa xn xc) ∧ V.cell? ⟨w.heap.size, 3, none⟩ = some (.slice ba bn bc)) := fun V hV =>
    have h := hO.below hV
    ⟨h.cell (i := 0) rfl rfl, h.cell (i := 0) rfl rfl, h.cell (i := 0) rfl rfl, h.cell (i := 0) rfl rfl⟩
  obtain ⟨c0, c1, c2, c3⟩ := CE.out W (Below.refl _ _)
  have HC := Lib.hid (rright7_any _ T W (hT.below hB) hb)
  have HT := Lib.hid (hT.below hB)
  have HBB := Lib.hid hb
  clear hT hb hO
  cases hr : readP T with
  | none =>
    have HZ : Hid (mostT T = 0) := by unfold Hid mostT; rw [hr]
    have HR : rightT T = false := by unfold rightT; rw [hr]; rfl
    rw [HR] at HC
    clear hr HR
    go_enter Tryz.func34, Tryz.ntmps34
    go_upto_region 1 with fail
    rw [← hW]
    clear hW
    go_wp2_with fail
    refine HC.out.mono ?_
    rintro e w1 ⟨rfl, hb1⟩
    go_wp2
    go_ret
    exact ⟨by rw [HZ.out]; rfl, hB.trans (hb1.mono hB.size)⟩
  | some r =>
    obtain ⟨g1, g2, g3, g4, g5, g6⟩ := right_words hr
    obtain ⟨ws, hws⟩ : ∃ ws, r.2 = ws := ⟨_, rfl⟩
    rw [hws] at g1 g2 g3 g4 g5 g6
    obtain ⟨n, hn⟩ : ∃ n, (nodesL ws).length = n := ⟨_, rfl⟩
    have HZ : Hid (mostT T = ((mostN ws n : Nat) : Int)) := by unfold Hid mostT; rw [hr]; dsimp only; rw [hws, hn]
    have HR : rightT T = true := by unfold rightT; rw [hr]; rfl
    have HWT := Lib.hid g1
    have HND := Lib.hid g3
    have HWB := Lib.hid g4
    have HWL := Lib.hid g5
    have HNB := Lib.hid (nodes_bd (M := 32) (wss := ws) (fun x hx => (g4 x hx).2))
    rw [hn] at g6
    have HNN := Lib.hid hn
    rw [HR] at HC
    clear hr HR g1 g2 g3 g4 g5 hws hn
    go_enter Tryz.func34, Tryz.ntmps34
    go_upto_region 1 with fail
    rw [← hW]
    clear hW
    go_wp2_with fail
    refine HC.out.mono ?_
    rintro e w1 ⟨rfl, hb1⟩
    clear c0 c1 c2 c3
    obtain ⟨c0, c1, c2, c3⟩ := CE.out w1 hb1
    have HW := Lib.hid (rWords7_any _ T w1 (HT.out.below hb1) HBB.out)
    go_wp2_with fail
    refine HW.out.mono ?_
    rintro e w2 ⟨v, rfl, hv, hb2'⟩
    have hb2 := hb1.trans (hb2'.mono hb1.size)
    obtain ⟨av, cv, rfl, hcv, hwd⟩ := hv.wds
    rw [HWT.out] at hwd hcv ⊢
    obtain ⟨m, hm⟩ : ∃ m, ws.length = m := ⟨_, rfl⟩
    have hwl := HWL.out
    rw [hm] at hwd hcv hwl ⊢
    have HWM := Lib.hid hm
    clear hm
    have HN := Lib.hid (rnodes7_any av m cv ws w2 hwd (by omega) (fun y hy => by have := (HWB.out y hy).2; omega))
    clear hv c0 c1 c2 c3 hb1 hb2' HW HC
    go_wp2_with fail
    refine HN.out.mono ?_
    rintro e w3 ⟨na, nc, rfl, hnc, hnd, hb3'⟩
    rw [HNN.out] at hnc hnd ⊢
    have hb3 := hb2.trans (hb3'.mono hb2.size)
    have HWD := Lib.hid (hwd.below hb3')
    have HND2 := Lib.hid hnd
    have HB3 := Lib.hid hb3
    clear hwd hnd hb3 hb3' hb2 HN
    go_wp2
    go_loopw [5, 6] (fun s5 s6 wr => ∃ i : Nat, i ≤ n ∧ s6 = .int .i64 i ∧ s5 = .int .i64 ((mostN ws i : Nat) : Int) ∧ RowKit.Below w3.heap.size w3 wr) (fun _ s _ => n - (intOf s).toNat)
    case atStart => exact ⟨0, Nat.zero_le _, rfl, rfl, RowKit.Below.refl _ _⟩
    case round =>
      obtain ⟨i, hin, rfl, rfl, hBe⟩ := hrel
      by_cases hil : i < n
      · have hd : decide ((i : Int) < n) = true := by simp; omega
        obtain ⟨b, o, ai, li, ci, x, rfl, hbl, hcx, hx, hXi, hlci⟩ := HND2.out.at_ hil
        have hli : li ≤ 32 := by have := HNB.out x (List.mem_of_getElem? hx); rw [hXi.len] at this; exact this
        have hcnt : ws.countP (fun y => decide (y <:+ x)) = cnt9 ws i := by
          have h := words9_suf (fun y hy => (HWB.out y hy).1) hx
          have h2 := congrArg List.length h
          unfold words9 at h2
          rw [List.length_map] at h2
          rw [sufW_count HND.out (fun y hy => (HWB.out y hy).1), ← h2]
          rfl
        have HCNT := Lib.hid hcnt
        have HXI := Lib.hid hXi
        have HCX := Lib.hid hcx
        have HBE := Lib.hid hBe
        have i1 : (0 : Int) ≤ (i : Int) := by omega
        have i2 : (i : Int) < (n : Int) := by omega
        clear hcnt hXi hcx hx hBe
        go_wp2
        go_loopw [7, 8] (fun s7 s8 wq => ∃ k : Nat, k ≤ m ∧ s8 = .int .i64 k ∧ s7 = .int .i64 (((ws.take k).countP (fun y => decide (y <:+ x)) : Nat) : Int) ∧ RowKit.Below w3.heap.size w3 wq) (fun _ s _ => m - (intOf s).toNat)
        case atStart => exact ⟨0, Nat.zero_le _, rfl, rfl, HBE.out⟩
        case round =>
          obtain ⟨k, hkm, rfl, rfl, hBk⟩ := hrel
          by_cases hkl : k < m
          · have hdk : decide ((k : Int) < m) = true := by simp; omega
            obtain ⟨y, hy⟩ : ∃ y, ws[k]? = some y := ⟨ws[k]'(by rw [HWM.out]; exact hkl), by simp⟩
            have fx : wr.cell? ⟨b, o + i, none⟩ = some (.slice ai li ci) := (hBk.cell (p := ⟨b, o + i, none⟩) hbl).trans HCX.out
            have h8 := rends9_any av ai m cv li ci k ws x y wr (HWD.out.below hBk) (HXI.out.below hBk) hlci (by omega) hy (by have := (HWB.out y (List.mem_of_getElem? hy)).2; omega)
            have hst := cnt_step (p := fun y => decide (y <:+ x)) hy
            obtain ⟨B, hBB⟩ : ∃ B, decide (y <:+ x) = B := ⟨_, rfl⟩
            rw [hBB] at h8 hst
            have H8 := Lib.hid h8
            obtain ⟨q, hq⟩ : ∃ q, (ws.take k).countP (fun y => decide (y <:+ x)) = q := ⟨_, rfl⟩
            have hqk : q ≤ k := by
              rw [← hq]
              have := List.countP_le_length (p := fun y => decide (y <:+ x)) (l := ws.take k)
              rw [List.length_take] at this
              omega
            rw [hq] at hst ⊢
            have HST := Lib.hid hst
            clear h8 hst hBB hy hq
            cases B with
            | true =>
              have HST2 : Hid ((ws.take (k + 1)).countP (fun y => decide (y <:+ x)) = q + 1) := by rw [Hid, HST.out]; rfl
              go_wp2_with fail
              refine H8.out.mono ?_
              rintro e w5 ⟨rfl, hb5⟩
              have hB5 := hBk.trans (hb5.mono hBk.size)
              clear fx
              go_wp2
              go_roundw
              case rel => exact ⟨k + 1, by omega, by go_num, by rw [HST2.out]; go_num, hB5⟩
              case measure => simp [intOf]; omega
            | false =>
              have HST2 : Hid ((ws.take (k + 1)).countP (fun y => decide (y <:+ x)) = q) := by rw [Hid, HST.out]; rfl
              go_wp2_with fail
              refine H8.out.mono ?_
              rintro e w5 ⟨rfl, hb5⟩
              have hB5 := hBk.trans (hb5.mono hBk.size)
              clear fx
              go_wp2
              go_roundw
              case rel => exact ⟨k + 1, by omega, by go_num, by rw [HST2.out], hB5⟩
              case measure => simp [intOf]; omega
          · obtain rfl : k = m := by omega
            have hdk : decide ((k : Int) < k) = false := by simp
            have hmx : max ((mostN ws i : Nat) : Int) (((ws.take k).countP (fun y => decide (y <:+ x)) : Nat) : Int) = ((mostN ws (i + 1) : Nat) : Int) := by
              rw [List.take_of_length_le (by rw [HWM.out]; exact Nat.le_refl _), HCNT.out]
              show _ = ((max (mostN ws i) (cnt9 ws i) : Nat) : Int)
              omega
            obtain ⟨q, hq⟩ : ∃ q, (ws.take k).countP (fun y => decide (y <:+ x)) = q := ⟨_, rfl⟩
            rw [hq] at hmx ⊢
            clear hq
            go_wp2
            go_roundw
            case rel => exact ⟨i + 1, by omega, by go_num, by rw [← hmx], hBk⟩
            case measure => simp [intOf]; omega
      · obtain rfl : i = n := by omega
        have hd : decide ((i : Int) < i) = false := by simp
        go_wp2
        go_ret
        exact ⟨by rw [HZ.out]; rfl, hB.trans ((HB3.out.trans (hBe.mono HB3.out.size)).mono hB.size)⟩
end Go.Proofs.YtbiinfnekhhfkaaGreat

/- The document's words of nodes (layer 9): nodes' words; walked. Printed by exp.py. -/



namespace Go.Proofs.YtbiinfnekhhfkaaGreat
open Go.RowKit Go.Sort
set_option linter.unusedVariables false
set_option linter.unusedSimpArgs false

def wordsT9 (T : TrieT) (path : List Int) : Option (List Int) := match readP T with | some r => wordsP9 r.2 path | none => none
def wordsE9 (T : TrieT) (path : List Int) : Int := if (wordsT9 T path).isSome then 0 else 2
set_option maxRecDepth 100000 in
set_option maxHeartbeats 16000000 in
theorem rWords9_any (t : TV) (T : TrieT) (path : List Int) (pa : Option Addr) (pn pc : Nat) (w : World) (hT : Tri w t T) (hb : Bd4 t) (hp : Sl1 (Value.int .i64) w pa pn path) (hpn : pn ≤ 1000) :
    Calls Tryz.prog 22 #[.agg t.cells, .slice pa pn pc] w fun e w' => ∃ v, e = .returned (.tuple #[v, .int .i64 (wordsE9 T path)]) ∧ OwnI w' w.heap.size v ((wordsT9 T path).getD []) ∧ Below w.heap.size w w' := by
  obtain ⟨i0, hi, hz0, hz2, hz3⟩ := info_parts i64_info7
  obtain ⟨ua, un, uc, da, dn, dc, xa, xn, xc, ba, bn, bc⟩ := t
  obtain ⟨W, hW⟩ : ∃ W, W = w.alloc (.cells #[.slice ua un uc, .slice da dn dc, .slice xa xn xc, .slice ba bn bc] 34) := ⟨_, rfl⟩
  have hB : Below w.heap.size w W := by rw [hW]; exact below_alloc _ _
  have hO : Bx w.heap.size [.cells #[.slice ua un uc, .slice da dn dc, .slice xa xn xc, .slice ba bn bc] 34] W := by rw [hW]; exact (Bx.nil _ w).snoc _ rfl
  have CE : Hid (∀ V, RowKit.Below W.heap.size W V → V.cell? ⟨w.heap.size, 0, none⟩ = some (.slice ua un uc) ∧ V.cell? ⟨w.heap.size, 1, none⟩ = some (.slice da dn dc) ∧ V.cell? ⟨w.heap.size, 2, none⟩ = some (.slice xa xn xc) ∧ V.cell? ⟨w.heap.size, 3, none⟩ = some (.slice ba bn bc)) := fun V hV =>
    have h := hO.below hV
    ⟨h.cell (i := 0) rfl rfl, h.cell (i := 0) rfl rfl, h.cell (i := 0) rfl rfl, h.cell (i := 0) rfl rfl⟩
  obtain ⟨c0, c1, c2, c3⟩ := CE.out W (Below.refl _ _)
  have HC := Lib.hid (rright7_any _ T W (hT.below hB) hb)
  have HT := Lib.hid (hT.below hB)
  have HBB := Lib.hid hb
  have HPP := Lib.hid (hp.below hB)
  clear hT hb hO hp
  cases hr : readP T with
  | none =>
    have HZ : Hid (wordsE9 T path = 2 ∧ wordsT9 T path = none) := by
      have h : wordsT9 T path = none := by unfold wordsT9; rw [hr]
      exact ⟨by unfold wordsE9; rw [h]; rfl, h⟩
    have HR : rightT T = false := by unfold rightT; rw [hr]; rfl
    rw [HR] at HC
    clear hr HR
    go_enter Tryz.func22, Tryz.ntmps22
    go_upto_region 1 with fail
    rw [← hW]
    clear hW
    go_wp2_with fail
    refine HC.out.mono ?_
    rintro e w1 ⟨rfl, hb1⟩
    go_wp2
    go_ret2
    rw [HZ.out.1, HZ.out.2]
    exact ⟨_, rfl, World.ownsRow_nil _ _ _ _, hB.trans (hb1.mono hB.size)⟩
  | some r =>
    obtain ⟨g1, g2, g3, g4, g5, g6⟩ := right_words hr
    obtain ⟨ws, hws⟩ : ∃ ws, r.2 = ws := ⟨_, rfl⟩
    rw [hws] at g1 g2 g3 g4 g5 g6
    obtain ⟨n, hn⟩ : ∃ n, (nodesL ws).length = n := ⟨_, rfl⟩
    have HZ : Hid (wordsT9 T path = wordsP9 ws path) := by unfold Hid wordsT9; rw [hr]; dsimp only; rw [hws]
    have HCR : Hid (∀ x, chain9T T x = chain9I ws x) := fun x => by rw [chain9T_read (sp := r.1) (ws := r.2) hr, hws]
    have HR : rightT T = true := by unfold rightT; rw [hr]; rfl
    have hun : un = n := by
      have h := HT.out.up.1
      rw [g2, (wrd_len ws).2.2.1, hn] at h
      exact h.symm
    subst hun
    have HTE := Lib.hid g2
    rw [hn] at g6
    have HNN := Lib.hid hn
    have HPL := Lib.hid HPP.out.1
    rw [HR] at HC
    clear hr HR g1 g2 g3 g4 g5 hws hn
    go_enter Tryz.func22, Tryz.ntmps22
    go_upto_region 1 with fail
    rw [← hW]
    clear hW
    go_wp2_with fail
    refine HC.out.mono ?_
    rintro e w1 ⟨rfl, hb1⟩
    have HB1 := Lib.hid hb1
    clear c0 c1 c2 c3 hb1 HC
    go_wp2
    go_loopw [6, 7] (fun s6 s7 wr => ∃ (i : Nat) (L : List Int) (v6 : Value), i ≤ pn ∧ v6 = s6 ∧ s7 = .int .i64 i ∧ Hid (L = (path.take i).flatMap fun x => words9 ws x.toNat) ∧ Hid (∀ x ∈ path.take i, 0 ≤ x ∧ x < (nodesL ws).length) ∧ wr.ownsRow w1.heap.size 3 1 v6 L.length (L.map (Value.int .i64)) ∧ RowKit.Below w1.heap.size w1 wr) (fun _ s _ => pn - (intOf s).toNat)
    case atStart => exact ⟨0, [], _, Nat.zero_le _, rfl, rfl, rfl, by simp [Hid], World.ownsRow_nil _ _ _ _, RowKit.Below.refl _ _⟩
    case round =>
      obtain ⟨i, L, v6, hin, rfl, rfl, HLL, HAL, hOW, hBe⟩ := hrel
      have HLB : Hid (L.length ≤ 1000 * 400) := by
        rw [Hid, HLL.out]
        have h := flat_len ws (B := 400) (path.take i) (fun x hx => by have := HAL.out x hx; rw [HNN.out] at this; omega)
        have h2 : (path.take i).length ≤ 1000 := by rw [List.length_take]; omega
        have := Nat.mul_le_mul_right 400 h2
        omega
      have HOW := Lib.hid hOW
      have HBE := Lib.hid hBe
      have hbb := HB1.out.trans (hBe.mono HB1.out.size)
      have HBW := Lib.hid hbb
      have hSr := HPP.out.below hbb
      obtain ⟨c0, c1, c2, c3⟩ := CE.out wr hbb
      clear hOW hBe hbb
      by_cases hil : i < pn
      · have hd : decide ((i : Int) < pn) = true := by simp; omega
        obtain ⟨b, o, x, hbe, hbl, hcx, hx⟩ := sl1_at hSr hil
        subst hbe
        have HX := Lib.hid hx
        have HCX := Lib.hid hcx
        have i1 : (0 : Int) ≤ (i : Int) := by omega
        have i2 : (i : Int) < (pn : Int) := by omega
        clear hx hSr
        by_cases hxn : 0 ≤ x ∧ x < (un : Int)
        · obtain ⟨z, rfl⟩ := Int.eq_ofNat_of_zero_le hxn.1
          have hzn : z < un := by omega
          have e1 : decide ((z : Int) < 0) = false := by simp
          have e2 : decide ((un : Int) ≤ (z : Int)) = false := by simp; omega
          have e2' : decide (un ≤ z) = false := by simp; omega
          clear hxn
          go_upto_region 7 with fail
          go_quiet (fail)
          obtain ⟨V0, hV0⟩ : ∃ V : World, V = wr.drewN nq := ⟨_, rfl⟩
          have hbV : RowKit.Below wr.heap.size wr V0 := by rw [hV0]; exact bel_drewN wr nq
          rw [← hV0]
          clear hV0 c0 c1 c2 c3 hcx e1 e2 e2'
          have HBV := Lib.hid (HBW.out.trans (hbV.mono HBW.out.size))
          have HBV1 := Lib.hid (HBE.out.trans (hbV.mono HBE.out.size))
          have hO0 := row_below HOW.out hbV
          have hblV : b < V0.heap.size := Nat.lt_of_lt_of_le hbl hbV.size
          have HCX0 : Hid (V0.cell? ⟨b, o + i, none⟩ = some (.int .i64 (z : Int))) := (hbV.cell (p := ⟨b, o + i, none⟩) hbl).trans HCX.out
          obtain ⟨m, hm⟩ : ∃ m, (ends9 ws z).length = m := ⟨_, rfl⟩
          have hmz : m ≤ 400 := by
            have h := words9_len ws z
            unfold words9 at h
            rw [List.length_map] at h
            omega
          have kc : Hid (∀ V, RowKit.Below V0.heap.size V0 V → Calls Tryz.prog 82 #[.agg (TV.cells ⟨ua, un, uc, da, dn, dc, xa, xn, xc, ba, bn, bc⟩), .int .i64 (z : Int)] V fun e w' => ∃ v, e = .returned v ∧ w'.ownsRow V.heap.size 3 1 v m (((ends9 ws z).map fun y : Nat => (y : Int)).map (Value.int .i64)) ∧ RowKit.Below V.heap.size V w') := fun V hV => by
            refine (rchain9_any ⟨ua, un, uc, da, dn, dc, xa, xn, xc, ba, bn, bc⟩ T (z : Int) V (HT.out.below (HBV.out.trans (hV.mono HBV.out.size))) HBB.out).mono ?_
            rintro e w' ⟨v, rfl, h1, h2⟩
            rw [HCR.out, chain9I_yes (by rw [HNN.out]; exact hzn)] at h1
            unfold OwnI at h1
            rw [List.length_map, hm] at h1
            exact ⟨v, rfl, h1, h2⟩
          have HM := Lib.hid hm
          have HO0 := Lib.hid hO0
          clear hm hO0
          go_upto_region 9 with fail
          refine wp_region_noPanic ?_
          refine wp_region_held_drew (S := RowKit.Below V0.heap.size V0) (by kernel_rfl) (bel_drewN V0 1) (fun hHeld => ?_)
          change wpAnyH _ _ _ _ _ 7 _ _ _
          refine tkW 0 (v := ?_) ?_ ?_
          rotate_left
          · intro V hV
            obtain ⟨c0, c1, c2, c3⟩ := CE.out V (HBV.out.trans (hV.mono HBV.out.size))
            first | (go_simp; done) | (go_simp; with_reducible rfl)
          try simp only [Act.put, pA, pB, pC]
          iterate 3 (refine tkF 6 (v := ?_) ?_ ?_; rotate_left; (· intro V hV; first | (go_simp; done) | (go_simp; with_reducible rfl)); try simp only [Act.put, pA, pB, pC])
          refine tkW 4 (v := ?_) ?_ ?_
          rotate_left
          · intro V hV
            have cx : V.cell? ⟨b, o + i, none⟩ = some (.int .i64 (z : Int)) := (hV.cell (p := ⟨b, o + i, none⟩) hblV).trans HCX0.out
            first | (go_simp; done) | (go_simp; with_reducible rfl)
          try simp only [Act.put, pA, pB, pC]
          refine rdy 5 (fun K hK => ?_)
          go_simp
          go_at_call 82; refine (kc.out _ hHeld).mono ?_; rintro e w5 ⟨vc, rfl, hvc, hb5⟩
          obtain ⟨al, cl, rfl, _, _⟩ := own_sl1 (enc := Value.int .i64) hvc
          have hB5 := hHeld.trans (hb5.mono hHeld.size)
          refine hK.out _ _ hB5 (fun hNew => ?_)
          clear hK K hHeld hNew
          have hHeld := hB5
          try simp only [Act.put, pA, pB, pC]
          refine tkW 6 (v := ?_) ?_ ?_
          rotate_left
          · intro V hV
            first | (go_simp; done) | (go_simp; with_reducible rfl)
          try simp only [Act.put, pA, pB, pC]
          refine wpAnyH_done (by kernel_rfl) ?_ _
          refine NoPanic.normal ?_
          have HVC := Lib.hid hvc
          have HO5 := Lib.hid (row_below HO0.out hB5)
          have hlt5 : ∀ k, v6.ownBlock = some k → k < V0.heap.size := fun k e => (row_lt HO0.out k e).2
          have hsep : sep v6 (.slice al m cl) := fun k e1 e2 => by
            have h1 := hlt5 k e1
            have h2 := (row_lt HVC.out k e2).1
            have h3 : V0.drew.heap.size = V0.heap.size := rfl
            omega
          have HSEP := Lib.hid hsep
          have HB15 := Lib.hid (HBV1.out.trans (hB5.mono HBV1.out.size))
          clear hHeld hB5 hvc hb5 hsep hlt5
          go_wp2
          go_loopw [6, 9] (fun s6 s9 wq => ∃ (k : Nat) (u6 : Value), k ≤ m ∧ u6 = s6 ∧ s9 = .int .i64 k ∧ wq.ownsRow w1.heap.size 3 1 u6 (L.length + k) ((L ++ (words9 ws z).take k).map (Value.int .i64)) ∧ wq.ownsRow V0.drew.heap.size 3 1 (.slice al m cl) m (((ends9 ws z).map fun y : Nat => (y : Int)).map (Value.int .i64)) ∧ sep u6 (.slice al m cl) ∧ RowKit.Below w1.heap.size w1 wq) (fun _ s _ => m - (intOf s).toNat)
          case atStart => exact ⟨0, v6, Nat.zero_le _, rfl, rfl, by rw [List.take_zero, List.append_nil]; exact HO5.out, HVC.out, HSEP.out, HB15.out⟩
          case round =>
            obtain ⟨k, u6, hkm, rfl, rfl, hOk, hCk, hsk, hBk⟩ := hrel
            by_cases hkl : k < m
            · have hdk : decide ((k : Int) < m) = true := by simp; omega
              obtain ⟨y, hy⟩ : ∃ y, (ends9 ws z)[k]? = some y := ⟨(ends9 ws z)[k]'(by rw [HM.out]; exact hkl), by simp⟩
              obtain ⟨v, hv1, hv2⟩ := words9_at hy
              have hyn : y < xn := by
                have h1 := (List.getElem?_eq_some_iff.1 hv1).1
                have h2 := HT.out.wrd.1
                rw [HTE.out] at h2
                rw [h2] at h1
                exact h1
              obtain ⟨bl, ol, lv, el, hll, cl0, hl⟩ := sl1_at (own_sl hCk) hkl
              subst el
              have hTr := HT.out.below (HB1.out.trans (hBk.mono HB1.out.size))
              obtain ⟨bx, ox, xv, ex, _, cx0, hx⟩ := sl1_at hTr.wrd (k := y) hyn
              dsimp only at ex
              subst ex
              have hlv : lv = (y : Int) := by
                rw [List.getElem?_map, hy] at hl
                exact (Option.some.inj hl).symm
              subst hlv
              have HY := Lib.hid hy
              have HV1 := Lib.hid hv1
              have HV2 := Lib.hid hv2
              have HOk := Lib.hid hOk
              have HCk := Lib.hid hCk
              have HSk := Lib.hid hsk
              have HBk := Lib.hid hBk
              have j1 : (0 : Int) ≤ (k : Int) := by omega
              have j2 : (k : Int) < (m : Int) := by omega
              have j3 : (0 : Int) ≤ (y : Int) := by omega
              have j4 : (y : Int) < (xn : Int) := by omega
              have SEE : Hid (∀ V, (RowKit.Below w1.heap.size w1 V ∧ V.ownsRow V0.drew.heap.size 3 1 (.slice (some ⟨bl, ol, none⟩) m cl) m (((ends9 ws z).map fun y : Nat => (y : Int)).map (Value.int .i64))) → V.cell? ⟨w.heap.size, 2, none⟩ = some (.slice (some ⟨bx, ox, none⟩) xn xc) ∧ V.cell? ⟨bl, ol + k, none⟩ = some (.int .i64 (y : Int)) ∧ V.cell? ⟨bx, ox + y, none⟩ = some (.int .i64 v)) := fun V hV => by
                have hBW := HB1.out.trans (hV.1.mono HB1.out.size)
                obtain ⟨b3, o3, x3, e3, _, c3, h3⟩ := sl1_at (own_sl hV.2) (k := k) hkl
                injection e3 with e3
                injection e3 with e4 e5
                subst e4 e5
                rw [List.getElem?_map, HY.out] at h3
                obtain rfl : (y : Int) = x3 := Option.some.inj h3
                obtain ⟨b6, o6, x6, e6, _, c6, h6⟩ := sl1_at (HT.out.below hBW).wrd (k := y) hyn
                dsimp only at e6
                injection e6 with e6
                injection e6 with e7 e8
                subst e7 e8
                rw [HTE.out, HV1.out] at h6
                obtain rfl : v = x6 := Option.some.inj h6
                exact ⟨(CE.out V hBW).2.2.1, c3, c6⟩
              have hLB := HLB.out
              clear hy hv1 hv2 hl hx cl0 cx0 hTr hOk hCk hsk hBk
              go_upto_region 13 with fail
              refine wp_region_noPanic ?_
              refine wp_region_held_drew (S := fun V => RowKit.Below w1.heap.size w1 V ∧ V.ownsRow V0.drew.heap.size 3 1 (.slice (some ⟨bl, ol, none⟩) m cl) m (((ends9 ws z).map fun y : Nat => (y : Int)).map (Value.int .i64))) (by kernel_rfl) ⟨HBk.out.trans ((bel_drewN wr 1).mono HBk.out.size), World.ownsRow.drew HCk.out⟩ (fun hHeld => ?_)
              change wpAnyH _ _ _ _ _ 12 _ _ _
              iterate 2 (refine tkF 11 (v := ?_) ?_ ?_; rotate_left; (· intro V hV; first | (go_simp; done) | (go_simp; with_reducible rfl)); try simp only [Act.put, pA, pB, pC])
              refine tkW 2 (v := ?_) ?_ ?_
              rotate_left
              · intro V hV
                obtain ⟨r0, r1, r2⟩ := SEE.out V hV
                first | (go_simp; done) | (go_simp; with_reducible rfl)
              try simp only [Act.put, pA, pB, pC]
              iterate 3 (refine tkF 11 (v := ?_) ?_ ?_; rotate_left; (· intro V hV; first | (go_simp; done) | (go_simp; with_reducible rfl)); try simp only [Act.put, pA, pB, pC])
              refine tkW 6 (v := ?_) ?_ ?_
              rotate_left
              · intro V hV
                obtain ⟨r0, r1, r2⟩ := SEE.out V hV
                first | (go_simp; done) | (go_simp; with_reducible rfl)
              try simp only [Act.put, pA, pB, pC]
              refine tkW 7 (v := ?_) ?_ ?_
              rotate_left
              · intro V hV
                first | (go_simp; done) | (go_simp; with_reducible rfl)
              try simp only [Act.put, pA, pB, pC]
              refine tkW 8 (v := ?_) ?_ ?_
              rotate_left
              · intro V hV
                obtain ⟨r0, r1, r2⟩ := SEE.out V hV
                first | (go_simp; done) | (go_simp; with_reducible rfl)
              try simp only [Act.put, pA, pB, pC]
              refine rdy 9 (fun K hK => ?_)
              go_simp
              refine hK.out _ _ ⟨hHeld.1.alloc hHeld.1.size _, World.ownsRow.alloc hHeld.2 _⟩ (fun hNew => ?_)
              clear hK K hHeld
              have hHeld := hNew
              clear hNew
              try simp only [Act.put, pA, pB, pC]
              refine rdy 10 (fun K hK => ?_)
              refine wanted_step (by kernel_rfl) ?_
              refine oper_append_slK _ _ _ 32 rfl w1.heap.size 3 i0 (.int .i64 0) 1 8 Tryz.underlying32 hi hz0 hz2 hz3 rfl (by decide) _ _ _ rfl (World.ownsRow.alloc (World.ownsRow.drew HOk.out) _) (some ⟨wr.drew.heap.size, 0, none⟩) 1 1 [.int .i64 v] rfl (slk_new wr.drew v) (by simp [Value.oneCell']) (by unfold maxLen; omega) (by omega) hHeld.1.size ?_
              intro v' w9 hown' hgrow hat
              have hB9 : RowKit.Below w1.heap.size w1 w9 := hHeld.1.grown hgrow hHeld.1.size (fun j hj => (row_lt HOk.out j hj).1)
              have hC9 := World.ownsRow.kept hHeld.2 hgrow HSk.out.kept
              have hS9 : sep v' (.slice (some ⟨bl, ol, none⟩) m cl) := HSk.out.put hat (fun k e => by
                have h := (row_lt hHeld.2 k e).2
                exact h)
              have hO9 : w9.ownsRow w1.heap.size 3 1 v' (L.length + (k + 1)) ((L ++ (words9 ws z).take (k + 1)).map (Value.int .i64)) := by
                rw [take_step HV2.out, ← List.append_assoc, List.map_append, ← Nat.add_assoc]
                exact hown'
              refine hK.out _ _ ⟨hB9, hC9⟩ (fun hNew => ?_)
              clear hK K hHeld
              have hHeld := hNew
              clear hNew hown' hgrow hat
              try simp only [Act.put, pA, pB, pC]
              refine tkW 11 (v := ?_) ?_ ?_
              rotate_left
              · intro V hV
                first | (go_simp; done) | (go_simp; with_reducible rfl)
              try simp only [Act.put, pA, pB, pC]
              refine wpAnyH_done (by kernel_rfl) ?_ _
              refine NoPanic.normal ?_
              go_wp2
              go_roundw
              case rel => exact ⟨k + 1, v', by omega, rfl, by go_num, hO9, hC9, hS9, hB9⟩
              case measure => simp [intOf]; omega
            · obtain rfl : k = m := by omega
              have hdk : decide ((k : Int) < k) = false := by simp
              have hwl : (words9 ws z).length = k := by unfold words9; rw [List.length_map, HM.out]
              rw [List.take_of_length_le (by rw [hwl]; exact Nat.le_refl _)] at hOk
              have HL9 : Hid (L ++ words9 ws z = (path.take (i + 1)).flatMap fun x => words9 ws x.toNat) := by
                rw [Hid, take_step HX.out, List.flatMap_append, ← HLL.out]
                simp
              have HA9 : Hid (∀ x ∈ path.take (i + 1), 0 ≤ x ∧ x < (nodesL ws).length) := by
                rw [Hid, take_step HX.out]
                intro x hx
                rw [List.mem_append, List.mem_singleton] at hx
                rcases hx with hx | rfl
                · exact HAL.out x hx
                · rw [HNN.out]; omega
              have hO9 : wr.ownsRow w1.heap.size 3 1 u6 (L ++ words9 ws z).length ((L ++ words9 ws z).map (Value.int .i64)) := by
                rw [List.length_append, hwl]
                exact hOk
              have HO9 := Lib.hid hO9
              clear hwl hOk hO9 hCk hsk
              go_wp2
              go_roundw
              case rel => exact ⟨i + 1, _, u6, by omega, rfl, by go_num, HL9, HA9, HO9.out, hBk⟩
              case measure => simp [intOf]; omega
        · have HNO := Lib.hid (wordsP9_no (ws := ws) (List.mem_of_getElem? HX.out) (by rw [HNN.out]; exact hxn))
          have HZ2 : Hid (wordsE9 T path = 2 ∧ wordsT9 T path = none) := by
            have h : wordsT9 T path = none := by rw [HZ.out, HNO.out]
            exact ⟨by unfold wordsE9; rw [h]; rfl, h⟩
          have hzz : (decide (x < 0) = true) ∨ (decide (x < 0) = false ∧ decide ((un : Int) ≤ x) = true) := by
            by_cases h0 : x < 0
            · exact .inl (by simpa using h0)
            · exact .inr ⟨by simpa using h0, by simp; omega⟩
          clear hxn
          rcases hzz with z1 | ⟨z1, z2⟩
          all_goals
            go_upto_region 7 with fail
            go_quiet (fail)
            go_wp2
            go_ret2
            rw [HZ2.out.1, HZ2.out.2]
            exact ⟨_, rfl, World.ownsRow_nil _ _ _ _, hB.trans ((HBW.out.trans ((bel_drewN wr _).mono HBW.out.size)).mono hB.size)⟩
      · obtain rfl : i = pn := by omega
        have hd : decide ((i : Int) < i) = false := by simp
        have htk : path.take i = path := List.take_of_length_le (by rw [HPL.out]; exact Nat.le_refl _)
        rw [htk] at HLL HAL
        have HZ2 : Hid (wordsE9 T path = 0 ∧ (wordsT9 T path).getD [] = L) := by
          have h : wordsT9 T path = some L := by rw [HZ.out, wordsP9_all HAL.out, ← HLL.out]
          exact ⟨by unfold wordsE9; rw [h]; rfl, by rw [h]; rfl⟩
        clear htk
        go_wp2
        go_ret2
        rw [HZ2.out.1, HZ2.out.2]
        exact ⟨v6, rfl, row_mono HOW.out (by have := HB1.out.size; have := hB.size; omega), hB.trans (HBW.out.mono hB.size)⟩
end Go.Proofs.YtbiinfnekhhfkaaGreat

/- Machines (layer 13): the document's Step and Hits, of a set that may be; walked. Printed by exp.py. -/








namespace Go.Proofs.YtbiinfnekhhfkaaGreat
open Go.RowKit Go.Sort
set_option linter.unusedVariables false
set_option linter.unusedSimpArgs false

theorem wordsT9_trie {fold : Bool} {wss : List (List Int)} (hr : rightP fold wss = true) (node : Int) : (wordsT9 (trieP wss) [node]).getD [] = words13 wss node ∧ wordsE9 (trieP wss) [node] = (if 0 ≤ node ∧ node < ((nodesL wss).length : Int) then 0 else 2) := by
  have hrd : readP (trieP wss) = some (nodesL wss, wss) := readP_iff.2 ⟨right_false hr, rfl, rfl⟩
  have e : wordsT9 (trieP wss) [node] = wordsP9 wss [node] := by unfold wordsT9; simp only [hrd]
  unfold wordsE9 words13
  simp only [e]
  by_cases h : 0 ≤ node ∧ node < ((nodesL wss).length : Int)
  · obtain ⟨j, rfl⟩ : ∃ j : Nat, node = (j : Int) := ⟨node.toNat, by omega⟩
    simp only [wordsP9_one (show j < (nodesL wss).length by omega), if_pos h, Option.getD_some, Option.isSome_some, if_true, Int.toNat_natCast, and_self]
  · simp only [wordsP9_no (List.mem_singleton.2 rfl) h, if_neg h, Option.getD_none, Option.isSome_none]
    exact ⟨trivial, rfl⟩
theorem mostT_trie {fold : Bool} {wss : List (List Int)} (hr : rightP fold wss = true) : mostT (trieP wss) = ((mostN wss (nodesL wss).length : Nat) : Int) := by
  have hrd : readP (trieP wss) = some (nodesL wss, wss) := readP_iff.2 ⟨right_false hr, rfl, rfl⟩
  unfold mostT
  simp only [hrd]
theorem bd4_trie {w : World} {t : TV} {wss : List (List Int)} (hT : Tri w t (trieP wss)) (hn : (nodesL wss).length ≤ 400) : Bd4 t := by
  have h1 := hT.up.1
  have h2 := hT.dep.1
  have h3 := hT.wrd.1
  have h4 := hT.byt.len
  simp only [trieP, List.length_map] at h1 h2 h3 h4
  refine ⟨?_, ?_, ?_, ?_⟩ <;> omega

set_option maxRecDepth 100000 in
set_option maxHeartbeats 8000000 in
theorem rstep13_yes (fold : Bool) (a : Option Addr) (la ca : Nat) (node : Int) (c : Nat) (wss : List (List Int)) (w : World) (hA : Wds w a la wss) (hla : la ≤ 1000) (hM : ∀ x ∈ wss, x.length ≤ 1000000) (hc : c < 256) (hr : rightP fold wss = true) :
    Calls Tryz.prog 21 #[.agg (setV fold a la ca), .int .i64 node, .int .u8 (c : Int)] w fun e w' => e = .returned (goDV (goD (clsP fold wss) (manyP fold wss) (tabP fold wss) node c)) ∧ Below w.heap.size w w' := by
  obtain ⟨W, hW⟩ : ∃ W, W = w.alloc (.cells (setV fold a la ca) 24) := ⟨_, rfl⟩
  have hB : Below w.heap.size w W := by rw [hW]; exact below_alloc _ _
  have hO : Bx w.heap.size [.cells (setV fold a la ca) 24] W := by rw [hW]; exact (Bx.nil _ w).snoc _ rfl
  have s0 : W.cell? ⟨w.heap.size, 0, none⟩ = some (.bool fold) := hO.cell (i := 0) rfl rfl
  have s1 : W.cell? ⟨w.heap.size, 1, none⟩ = some (.slice a la ca) := hO.cell (i := 0) rfl rfl
  have hLl : (clsP fold wss).length = 256 := clsP_len _ _
  have HM := Lib.hid (rmake11_yes fold a la ca wss W (hA.below hB) (by omega) hM hr)
  obtain ⟨L, hL⟩ : ∃ L, clsP fold wss = L := ⟨_, rfl⟩
  obtain ⟨F, hF⟩ : ∃ F, tabP fold wss = F := ⟨_, rfl⟩
  obtain ⟨m, hm⟩ : ∃ m, manyP fold wss = m := ⟨_, rfl⟩
  rw [hL, hF, hm] at HM ⊢
  rw [hL] at hLl
  have HB := Lib.hid hB
  obtain ⟨nz, hnz⟩ : ∃ z, (goD L (m : Int) F node c).getD 0 = z := ⟨_, rfl⟩
  obtain ⟨no, hno⟩ : ∃ z, (goD L (m : Int) F node c).isSome = z := ⟨_, rfl⟩
  have KNx := Lib.hid (fun (a : Option Addr) (n c0 : Nat) V (h1 : Sl1 (Value.int .i64) V a n F) (hn : n ≤ 1000000000) => rnext11_any L F (m : Int) a n c0 node c V hLl h1 hn hc)
  rw [show goDV (goD L (m : Int) F node c) = .tuple #[.int .i64 nz, .bool no] by rw [goDV_eq, hnz, hno]] at KNx ⊢
  clear hA hO hB hL hF hm hnz hno
  go_enter Tryz.func21, Tryz.ntmps21
  go_upto_region 1 with fail
  rw [← hW]
  clear hW
  go_upto_region 2 with (first
    | (refine wpList_store_row rfl 109 _ _ rfl _ _ rfl rfl 109 _ (heap_alloc_new _ _) (dv_info hLl _ _) (dv_old hLl _ _) (dvC_one _ _ _ rfl) ?_)
    | (go_at_call 79; refine HM.out.mono ?_; rintro e w4 ⟨b, n, c0, rfl, hs, hn, hb⟩))
  rw [World.setRow_alloc_new]
  obtain ⟨W5, hW5⟩ : ∃ X, X = w4.alloc (.cells (dvC L m (.slice b n c0)).toArray 109) := ⟨_, rfl⟩
  have hD5 : W5.heap[w4.heap.size]? = some (.cells (dvC L m (.slice b n c0)).toArray 109 (0, 0)) := by rw [hW5]; exact heap_alloc_new _ _
  have hB5 : RowKit.Below W.heap.size W W5 := by rw [hW5]; exact hb.alloc hb.size _
  have hs5 : Sl1 (Value.int .i64) W5 b n F := by rw [hW5]; exact hs.below (below_alloc _ _)
  have HAi := dv_info hLl m (.slice b n c0)
  rw [← hW5]
  obtain ⟨Q, hQ⟩ : ∃ Q, w4.heap.size = Q := ⟨_, rfl⟩
  rw [hQ] at hD5 ⊢
  have H5 := Lib.hid (KNx.out b n c0 W5 hs5 (by omega))
  obtain ⟨A, hAA⟩ : ∃ A, (dvC L m (.slice b n c0)).toArray = A := ⟨_, rfl⟩
  rw [hAA] at hD5 HAi H5
  have HD5 := Lib.hid hD5
  have HAi := Lib.hid HAi
  clear hW5 hs hn hb hQ s0 s1 HM hs5 hAA hD5
  go_upto_region 4 with fail
  go_wp2_with (first
    | (refine wpList_load_row rfl 109 _ rfl Q rfl 109 A (0, 0) _ HD5.out Tryz.underlying109 rfl HAi.out ?_)
    | (go_at_call 80; refine H5.out.mono ?_; rintro e w6 ⟨rfl, hb6⟩))
  refine bodyPost_ret (results_tmp2 rfl _ _ _) rfl ?_
  exact ⟨rfl, HB.out.trans ((hB5.trans (hb6.mono hB5.size)).mono HB.out.size)⟩

set_option maxRecDepth 100000 in
set_option maxHeartbeats 8000000 in
theorem rhits13_yes (fold : Bool) (a : Option Addr) (la ca : Nat) (node at_ : Int) (wss : List (List Int)) (w : World) (hA : Wds w a la wss) (hr : rightP fold wss = true) :
    Calls Tryz.prog 27 #[.agg (setV fold a la ca), .int .i64 node, .int .i64 at_] w fun e w' => ∃ v, e = .returned v ∧ OwnH w' w.heap.size v ((words13 wss node).map fun x => (at_, x)) ∧ Below w.heap.size w w' := by
  obtain ⟨i0, hi, hz0, hz1, hz2⟩ := info_parts hit_info
  have hrd : readP (trieP wss) = some (nodesL wss, wss) := readP_iff.2 ⟨right_false hr, rfl, rfl⟩
  have hn4 : (nodesL wss).length ≤ 400 := read_n hrd
  obtain ⟨hw1, hw2⟩ := wordsT9_trie hr node
  obtain ⟨W, hW⟩ : ∃ W, W = w.alloc (.cells (setV fold a la ca) 24) := ⟨_, rfl⟩
  have hB : Below w.heap.size w W := by rw [hW]; exact below_alloc _ _
  have hO : Bx w.heap.size [.cells (setV fold a la ca) 24] W := by rw [hW]; exact (Bx.nil _ w).snoc _ rfl
  have s0 : W.cell? ⟨w.heap.size, 0, none⟩ = some (.bool fold) := hO.cell (i := 0) rfl rfl
  have s1 : W.cell? ⟨w.heap.size, 1, none⟩ = some (.slice a la ca) := hO.cell (i := 0) rfl rfl
  have HM := Lib.hid (rmake7_yes fold a la ca wss W (hA.below hB) hr)
  have hxl : (words13 wss node).length ≤ 1000000 := words13_le wss node (by omega)
  have HB := Lib.hid hB
  have HN4 := Lib.hid hn4
  obtain ⟨xs, hxs⟩ : ∃ xs, words13 wss node = xs := ⟨_, rfl⟩
  rw [hxs] at hw1 hxl ⊢
  have HW := Lib.hid (fun (t : TV) (pa : Option Addr) V (hT : Tri V t (trieP wss)) (hp : Sl1 (Value.int .i64) V pa 1 [node]) => rWords9_any t (trieP wss) [node] pa 1 1 V hT (bd4_trie hT hn4) hp (by decide))
  rw [hw1, hw2] at HW
  have HXN : Hid (¬ (0 ≤ node ∧ node < ((nodesL wss).length : Int)) → xs = []) := fun h => by rw [← hxs]; unfold words13; rw [if_neg h]
  obtain ⟨E, hE⟩ : ∃ E : Int, (if 0 ≤ node ∧ node < ((nodesL wss).length : Int) then 0 else 2) = E := ⟨_, rfl⟩
  rw [hE] at HW
  have HE : Hid (E = 0 ∨ (E = 2 ∧ xs = [])) := by
    rw [Hid, ← hE]
    by_cases h : 0 ≤ node ∧ node < ((nodesL wss).length : Int)
    · rw [if_pos h]; exact .inl rfl
    · rw [if_neg h]; exact .inr ⟨rfl, HXN.out h⟩
  clear hA hO hB hrd hn4 hw1 hw2 hxs hE HXN hr
  go_enter Tryz.func27, Tryz.ntmps27
  go_upto_region 1 with fail
  rw [← hW]
  clear hW
  go_upto_region 2 with (go_at_call 19; refine HM.out.mono ?_; rintro e w1 ⟨t, rfl, hT, hb1⟩; obtain ⟨ua, un, uc, da, dn, dc, xa, xn, xc, ba, bn, bc⟩ := t; simp only [TV.cells])
  obtain ⟨W2, hW2⟩ : ∃ X, X = w1.alloc (.cells #[.slice ua un uc, .slice da dn dc, .slice xa xn xc, .slice ba bn bc] 34) := ⟨_, rfl⟩
  have hB2 : RowKit.Below W.heap.size W W2 := by rw [hW2]; exact hb1.alloc hb1.size _
  have hT2 := hT.below (below_alloc w1 (.cells #[.slice ua un uc, .slice da dn dc, .slice xa xn xc, .slice ba bn bc] 34))
  have hO2 : W2.heap[w1.heap.size]? = some (.cells #[.slice ua un uc, .slice da dn dc, .slice xa xn xc, .slice ba bn bc] 34 (0, 0)) := by rw [hW2]; exact World.alloc_heap_new _ _
  rw [← hW2] at hT2 ⊢
  have HT2 := Lib.hid hT2
  have HB2 : Hid (RowKit.Below w.heap.size w W2) := HB.out.trans (hB2.mono HB.out.size)
  have e0 : W2.cell? ⟨w1.heap.size, 0, none⟩ = some (.slice ua un uc) := by simp [World.cell?, hO2]
  have e1 : W2.cell? ⟨w1.heap.size, 1, none⟩ = some (.slice da dn dc) := by simp [World.cell?, hO2]
  have e2 : W2.cell? ⟨w1.heap.size, 2, none⟩ = some (.slice xa xn xc) := by simp [World.cell?, hO2]
  have e3 : W2.cell? ⟨w1.heap.size, 3, none⟩ = some (.slice ba bn bc) := by simp [World.cell?, hO2]
  clear hW2 hT hT2 hb1 hB2 hO2 s0 s1 HM
  go_upto_region 3 with (go_at_call 22; refine (HW.out _ _ _ (HT2.out.below (below_alloc _ _)) (Sl1.lay (Value.int .i64) W2 [node] _ _ rfl)).mono ?_; rintro e w3 ⟨v, rfl, hown, hb3⟩; obtain ⟨a1, c1, rfl, hlc, hs1⟩ := own_sl1 hown)
  have HB3 : Hid (RowKit.Below w.heap.size w w3) := HB2.out.trans (((below_alloc W2 _).trans (hb3.mono (by simp))).mono HB2.out.size)
  have HS1 := Lib.hid hs1
  clear hown hs1 hb3 e0 e1 e2 e3
  rcases HE.out with rfl | ⟨rfl, rfl⟩
  · clear HE
    go_wp2_with fail
    go_loopw [11, 12] (fun v i wr => ∃ k : Nat, k ≤ xs.length ∧ i = .int .i64 k ∧ Below w3.heap.size w3 wr ∧ OwnH wr w3.heap.size v ((xs.take k).map fun x => (at_, x))) (fun _ i _ => xs.length - (intOf i).toNat)
    case atStart => exact ⟨0, Nat.zero_le _, rfl, Below.refl _ _, by simpa [OwnH, hcells] using World.ownsRow_nil w3 w3.heap.size 61 2⟩
    case round =>
      obtain ⟨k, hk, rfl, hBe, hown⟩ := hrel
      by_cases hlt : k < xs.length
      · have hd : decide ((k : Int) < (xs.length : Int)) = true := by simp; omega
        obtain ⟨b0, o0, x, e0, hl0, cx, hx⟩ := sl1_at (HS1.out.below hBe) hlt
        subst e0
        have i1 : (0 : Int) ≤ (k : Int) := by omega
        have i2 : (k : Int) < (xs.length : Int) := by omega
        have HX := Lib.hid hx
        obtain ⟨m, hm⟩ : ∃ m, ((xs.take k).map fun x => (at_, x)).length = m := ⟨_, rfl⟩
        have hml : m = k := by rw [← hm, List.length_map, List.length_take]; omega
        unfold OwnH at hown
        rw [hm] at hown
        have HM := Lib.hid hm
        clear hm hx
        go_wp2_with (at_builtin; refine wpList_append_own _ rfl _ _ 45 rfl w3.heap.size 61 i0 (.agg #[.int .i64 0, .int .i64 0]) 2 16 Tryz.underlying45 hi hz0 hz1 hz2 rfl (by decide) _ _ _ rfl (hown.alloc _) ⟨wr.heap.size, 0, none⟩ 1 1 [.int .i64 at_, .int .i64 x] rfl rfl (cells_new _ _ rfl) (by simp [Value.oneCell']) (by unfold maxLen; omega) (by omega) (by have := hBe.size; simp; omega) ?_; intro v' w5 hown' hgrow hnil)
        have hB5 : Below w3.heap.size w3 w5 := (hBe.alloc (by have := hBe.size; omega) _).grown hgrow (by have := hBe.size; simp; omega) (fun j hj => (hown.lt j hj).1)
        go_roundw
        case rel =>
          refine ⟨k + 1, by omega, by go_num, hB5, ?_⟩
          unfold OwnH
          rw [take_step HX.out, List.map_append, List.length_append, HM.out]
          show w5.ownsRow w3.heap.size 61 2 v' (m + 1) (hcells (((xs.take k).map fun x => (at_, x)) ++ [(at_, x)]))
          rw [hcells_snoc]
          exact hown'
        case measure => simp [intOf]; omega
      · obtain rfl : k = xs.length := by omega
        have hd : decide ((xs.length : Int) < (xs.length : Int)) = false := by simp
        rw [List.take_length] at hown
        go_wp2
        go_ret
        exact ⟨_, rfl, Go.Joins.ownsRow_le hown HB3.out.size, HB3.out.trans (hBe.mono HB3.out.size)⟩
  · go_wp2_with fail
    go_ret
    exact ⟨_, rfl, World.ownsRow_nil w3 w.heap.size 61 2, HB3.out⟩
end Go.Proofs.YtbiinfnekhhfkaaGreat

/- Streams (layer 14): what a scan tells of bytes that come, and that it is what stands in the text: plain. -/


namespace Go.Proofs.YtbiinfnekhhfkaaGreat
set_option linter.unusedVariables false
set_option linter.unusedSimpArgs false

/-- The words that end at bytes are those of the set that are ends of them. -/
theorem mem_sufW {ws : List (List Int)} (hn : ws.Nodup) (h0 : ∀ y ∈ ws, y.length ≠ 0) {v : Int} : ∀ {b : List Int}, v ∈ sufW ws b ↔ ∃ (k : Nat) (y : List Int), ws[k]? = some y ∧ y <:+ b ∧ v = (k : Int)
  | [] => by
    constructor
    · intro h; exact absurd h (by simp [sufW])
    · rintro ⟨k, y, hk, hy, _⟩
      rw [List.suffix_nil] at hy
      subst hy
      exact absurd rfl (h0 [] (List.mem_of_getElem? hk))
  | c :: b => by
    have ih := mem_sufW hn h0 (v := v) (b := b)
    rw [sufW_cons, List.mem_append, ih]
    constructor
    · rintro (h | ⟨k, y, h1, h2, h3⟩)
      · by_cases hm : (c :: b) ∈ ws
        · rw [if_pos hm, List.mem_singleton] at h
          obtain ⟨k, hk⟩ := List.getElem?_of_mem hm
          exact ⟨k, _, hk, List.suffix_refl _, by rw [h, placeS_at hn hk]⟩
        · rw [if_neg hm] at h; simp at h
      · exact ⟨k, y, h1, List.suffix_cons_iff.2 (.inr h2), h3⟩
    · rintro ⟨k, y, h1, h2, h3⟩
      rcases List.suffix_cons_iff.1 h2 with rfl | h2
      · left
        rw [if_pos (List.mem_of_getElem? h1), List.mem_singleton, h3, placeS_at hn h1]
      · exact .inr ⟨k, y, h1, h2, h3⟩
section
variable {fold : Bool} {ws : List (List Int)}
end
section
variable {fold : Bool} {ws : List (List Int)}
end
end Go.Proofs.YtbiinfnekhhfkaaGreat

/- The laws MachineEnds and MachineGoes (layer 13): walked. Printed by gen_mh.py and exp.py. -/



namespace Go.Proofs.YtbiinfnekhhfkaaGreat
open Go.RowKit Go.Sort
set_option linter.unusedVariables false
set_option linter.unusedSimpArgs false

theorem words13_i64 {wss : List (List Int)} (hl : wss.length ≤ 1000000) (hn : wss.Nodup) (h0 : ∀ x ∈ wss, x.length ≠ 0) (node : Int) : ∀ v ∈ words13 wss node, I64 v := by
  intro v hv
  unfold words13 at hv
  split at hv
  · obtain ⟨x, hx⟩ : ∃ x, (nodesL wss)[node.toNat]? = some x := ⟨_, List.getElem?_eq_getElem (by omega)⟩
    rw [words9_suf h0 hx, mem_sufW hn h0] at hv
    obtain ⟨k, y, h1, _, rfl⟩ := hv
    have := (List.getElem?_eq_some_iff.1 h1).1
    unfold I64; omega
  · simp at hv
set_option maxRecDepth 100000 in
set_option maxHeartbeats 16000000 in
theorem machineEnds_walk (fold : Bool) (a : Option Addr) (la ca : Nat) (b : Option Addr) (lb cb : Nat) (text : List Int) (wss : List (List Int)) (w : World) (hA : Wds w a la wss) (hX : Bys w b lb text) (hcb : lb ≤ cb) :
    Calls Tryz.prog 4 #[.agg (setV fold a la ca), .slice b lb cb] w fun e w' => e = .returned (.bool true) ∧ Below w.heap.size w w' := by
  have HL := Lib.hid hA.len
  obtain ⟨W, hW⟩ : ∃ W, W = w.alloc (.cells (setV fold a la ca) 24) := ⟨_, rfl⟩
  have hB : Below w.heap.size w W := by rw [hW]; exact below_alloc _ _
  have hO : Bx w.heap.size [.cells (setV fold a la ca) 24] W := by rw [hW]; exact (Bx.nil _ w).snoc _ rfl
  have s0 : W.cell? ⟨w.heap.size, 0, none⟩ = some (.bool fold) := hO.cell (i := 0) rfl rfl
  have s1 : W.cell? ⟨w.heap.size, 1, none⟩ = some (.slice a la ca) := hO.cell (i := 0) rfl rfl
  have hg := great5_any fold a la ca wss W (hA.below hB)
  obtain ⟨G, hG⟩ : ∃ G, greatP wss = G := ⟨_, rfl⟩
  rw [hG] at hg
  have HG := Lib.hid hg
  have HA := Lib.hid hA
  have HX := Lib.hid hX
  clear hX
  clear hg hA
  go_enter Tryz.func4, Tryz.ntmps4
  go_upto_region 1 with fail
  rw [← hW]
  clear hW
  go_wp2_with fail
  refine HG.out.mono ?_
  rintro e w1 ⟨rfl, hb1⟩
  have hB1 := hB.trans (hb1.mono hB.size)
  have hO1 := hO.below hb1
  clear s0 s1 hO hB hb1 HG
  cases G with
  | true =>
    go_wp2_with fail
    refine (wakes13 _).mono ?_
    rintro e w2 ⟨rfl, hb2⟩
    have hB2 := hB1.trans (hb2.mono hB1.size)
    go_wp2
    go_ret
    exact ⟨rfl, hB2⟩
  | false =>
    obtain ⟨g1, g2, g3⟩ := gr8_bd hG fold
    rw [HL.out] at g1
    have s0 : w1.cell? ⟨w.heap.size, 0, none⟩ = some (.bool fold) := hO1.cell (i := 0) rfl rfl
    have s1 : w1.cell? ⟨w.heap.size, 1, none⟩ = some (.slice a la ca) := hO1.cell (i := 0) rfl rfl
    have hR := rright_any fold a la ca wss w1 (HA.out.below hB1) (by omega) (fun x hx => by have := g2 x hx; omega)
    rw [← right_eq] at hR
    have HR := Lib.hid hR
    clear hR
    cases hr : rightP fold wss with
    | false =>
      rw [hr] at HR
      clear hr g1 g2 g3
      go_wp2_with fail
      refine HR.out.mono ?_
      rintro e w2 ⟨rfl, hb2⟩
      have hB2 := hB1.trans (hb2.mono hB1.size)
      clear s0 s1
      go_wp2_with fail
      refine (wakes13 _).mono ?_
      rintro e w3 ⟨rfl, hb3⟩
      have hB3 := hB2.trans (hb3.mono hB2.size)
      go_wp2
      go_ret
      exact ⟨rfl, hB3⟩
    | true =>
      rw [hr] at HR
      have HRT : Hid (rightP fold wss = true) := hr
      have HLE : Hid (∀ v ∈ wss, v.length ≤ 1000000) := fun v hv => by have := g2 v hv; omega
      have HMC := Lib.hid (fun V (hV : Below w.heap.size w V) => compile13_use fold a la ca wss V (HA.out.below hV) (by omega) HLE.out (by omega) hr)
      have hla80 : la ≤ 80 := g1
      clear hr hG g1 g2 g3
      go_wp2_with fail
      refine HR.out.mono ?_
      rintro e w2 ⟨rfl, hb2⟩
      have hB2 := hB1.trans (hb2.mono hB1.size)
      have hO2 := hO1.below hb2
      clear s0 s1 hb2 HR hO1 hB1
      by_cases hbd : lb ≤ 300
      · have d1 : decide ((300 : Int) < (lb : Int)) = false := by simp; omega
        have d1' : decide (300 < lb) = false := by simp; omega
        have s0 : w2.cell? ⟨w.heap.size, 0, none⟩ = some (.bool fold) := hO2.cell (i := 0) rfl rfl
        have s1 : w2.cell? ⟨w.heap.size, 1, none⟩ = some (.slice a la ca) := hO2.cell (i := 0) rfl rfl
        have HM := Lib.hid (HMC.out w2 hB2)
        have HB2 := Lib.hid hB2
        have KS : Hid (∀ V, RowKit.Below w2.heap.size w2 V → V.cell? ⟨w.heap.size, 0, none⟩ = some (.bool fold) ∧ V.cell? ⟨w.heap.size, 1, none⟩ = some (.slice a la ca)) := fun V hV => by
          have h := hO2.below hV
          exact ⟨h.cell (i := 0) rfl rfl, h.cell (i := 0) rfl rfl⟩
        clear HMC hB2 hO2
        obtain ⟨hnd, hfo⟩ := right_nodup HRT.out
        have h0 : ∀ x ∈ wss, x.length ≠ 0 := fun x hx => ((right_spec HRT.out).2.2.1 x hx).1
        obtain ⟨z, hz⟩ : ∃ z, nodeI wss (lsf (nodesL wss) (foldL fold text)) = z := ⟨_, rfl⟩
        obtain ⟨xs, hxs⟩ : ∃ xs, sufW wss (foldL fold text) = xs := ⟨_, rfl⟩
        have hwz : words13 wss z = xs := by
          obtain ⟨h1, h2, h3⟩ := words_after (fold := fold) h0 (foldL fold text) hz.symm
          unfold words13
          rw [if_pos ⟨h1, h2⟩, h3, hxs]
        have hwl : wss.length ≤ 1000000 := by rw [HL.out]; omega
        have hxl : xs.length ≤ 300 := by
          rw [← hxs]
          have := sufW_len wss (foldL fold text)
          have h2 := HX.out.len
          rw [foldL_length] at this
          omega
        have hi6 : ∀ v ∈ xs, I64 v := by rw [← hwz]; exact words13_i64 hwl hnd h0 z
        have hbi : I64 (lb : Int) := by unfold I64; omega
        obtain ⟨D, hD⟩ : ∃ D, xs.map (fun x => ((lb : Int), x)) = D := ⟨_, rfl⟩
        obtain ⟨n, hn⟩ : ∃ n, xs.length = n := ⟨_, rfl⟩
        have hDl : D.length = n := by rw [← hD, List.length_map, hn]
        have hn3 : n ≤ 300 := by omega
        have KA : Hid (∀ (B : Nat) V, MUse w2 B fold wss V → Calls Tryz.prog 35 #[.pointer (some ⟨B, 0, none⟩), .slice b lb cb] V fun e w' => e = .returned (.int .i64 z) ∧ MUse w2 B fold wss w') := fun B V hV => by
          have h := hV.after text b lb cb (HX.out.below (HB2.out.trans (hV.bel.mono HB2.out.size))) (by omega)
          rw [hz] at h
          exact h.mono fun e w' ⟨h1, h2⟩ => ⟨h1, hV.below h2⟩
        have KH : Hid (∀ (B : Nat) V, MUse w2 B fold wss V → Calls Tryz.prog 26 #[.pointer (some ⟨B, 0, none⟩), .int .i64 z, .int .i64 (lb : Int)] V fun e w' => ∃ (a : Option Addr) (c : Nat), e = .returned (.slice a n c) ∧ Hts w' a n D ∧ MUse w2 B fold wss w') := fun B V hV => by
          have h := hV.hits z (lb : Int) hbi (by rw [hwz]; exact hi6)
          rw [hwz, hn, hD] at h
          exact h.mono fun e w' ⟨a, c, h1, h2, _, h3⟩ => ⟨a, c, h1, h2, hV.below h3⟩
        have KE : Hid (∀ (B : Nat) V, MUse w2 B fold wss V → Calls Tryz.prog 37 #[.agg (setV fold a la ca), .slice b lb cb] V fun e w' => ∃ (a : Option Addr) (c : Nat), e = .returned (.slice a n c) ∧ Hts w' a n D ∧ MUse w2 B fold wss w' ∧ Below V.heap.size V w') := fun B V hV => by
          have hbv := HB2.out.trans (hV.bel.mono HB2.out.size)
          refine (rends13_any fold a la ca b lb cb text wss V (HA.out.below hbv) (HX.out.below hbv) hcb (by omega) (by omega) HLE.out hnd hfo).mono ?_
          rintro e w' ⟨v, rfl, h1, h2⟩
          rw [hxs, hD] at h1
          obtain ⟨a1, c1, rfl, hc, hs⟩ := h1.hts (fun x hx => by
            rw [← hD] at hx
            obtain ⟨y, hy, rfl⟩ := List.mem_map.1 hx
            exact ⟨hbi, hi6 y hy⟩)
          rw [hDl] at hs ⊢
          exact ⟨a1, c1, rfl, hs, hV.below h2, h2⟩
        clear hz hxs hwz hwl hxl hi6 hbi hD hn hDl hnd hfo h0
        go_upto_region 4 with (go_at_call 17; refine HM.out.mono ?_; rintro e w3 ⟨B, rfl, hU⟩)
        clear s0 s1 HM
        go_upto_region 6 with fail
        refine wp_region_noPanic ?_
        refine wp_region_held_drew (S := MUse w2 B fold wss) (by kernel_rfl) (hU.below (bel_drewN w3 1)) (fun hS => ?_)
        obtain ⟨w4, hw4⟩ : ∃ X, X = w3.drew := ⟨_, rfl⟩
        rw [← hw4] at hS ⊢
        clear hw4 hU
        change wpAnyH _ _ _ _ _ 15 _ _ _
        iterate 3 (refine tkF 14 (v := ?_) ?_ ?_; rotate_left; (· intro V hV; first | (go_simp; done) | (go_simp; with_reducible rfl)); try simp only [Act.put, pA, pB, pC])
        iterate 2 (refine tkF 15 (v := ?_) ?_ ?_; rotate_left; (· intro V hV; first | (go_simp; done) | (go_simp; with_reducible rfl)); try simp only [Act.put, pA, pB, pC])
        refine tkW 7 (v := ?_) ?_ ?_
        rotate_left
        · intro V hV
          obtain ⟨q0, q1⟩ := KS.out V hV.bel
          first | (go_simp; done) | (go_simp; with_reducible rfl)
        try simp only [Act.put, pA, pB, pC]
        refine tkW 8 (v := ?_) ?_ ?_
        rotate_left
        · intro V hV
          first | (go_simp; done) | (go_simp; with_reducible rfl)
        try simp only [Act.put, pA, pB, pC]
        refine rdy 3 (fun K hK => ?_)
        go_simp
        go_at_call 35; refine (KA.out B w4 hS).mono ?_; rintro e w5 ⟨rfl, hU5⟩
        refine hK.out _ _ (hU5) (fun hS5 => ?_)
        clear hK K
        try simp only [Act.put, pA, pB, pC]
        refine rdy 6 (fun K hK => ?_)
        go_simp
        go_at_call 26; refine (KH.out B w5 hS5).mono ?_; rintro e w6 ⟨a6, c6, rfl, hs6, hU6⟩
        refine hK.out _ _ (hU6) (fun hS6 => ?_)
        clear hK K
        try simp only [Act.put, pA, pB, pC]
        refine rdy 9 (fun K hK => ?_)
        go_simp
        go_at_call 37; refine (KE.out B w6 hS6).mono ?_; rintro e w7 ⟨a7, c7, rfl, hs7, hU7, hb7⟩
        refine hK.out _ _ (hU7) (fun hS7 => ?_)
        clear hK K
        try simp only [Act.put, pA, pB, pC]
        refine rdy 10 (fun K hK => ?_)
        go_simp
        go_at_call 25; refine (rsame13_any a6 a7 n c6 n c7 D D w7 (hs6.below hb7) hs7 (by omega)).mono ?_; rintro e w8 ⟨rfl, hb8⟩; simp only [decide_true]
        refine hK.out _ _ (hS7.below hb8) (fun hS8 => ?_)
        clear hK K
        try simp only [Act.put, pA, pB, pC]
        refine tkW 11 (v := ?_) ?_ ?_
        rotate_left
        · intro V hV
          first | (go_simp; done) | (go_simp; with_reducible rfl)
        try simp only [Act.put, pA, pB, pC]
        refine rdy 12 (fun K hK => ?_)
        go_simp
        go_at_call 16; refine (wakes13 w8).mono ?_; rintro e w9 ⟨rfl, hb9⟩
        refine hK.out _ _ (hS8.below hb9) (fun hS9 => ?_)
        clear hK K
        try simp only [Act.put, pA, pB, pC]
        iterate 2 (refine tkF 14 (v := ?_) ?_ ?_; rotate_left; (· intro V hV; first | (go_simp; done) | (go_simp; with_reducible rfl)); try simp only [Act.put, pA, pB, pC])
        refine wpAnyH_done (by kernel_rfl) ?_ _
        refine NoPanic.normal ?_
        go_wp2
        go_ret
        exact ⟨rfl, HB2.out.trans (hS9.bel.mono HB2.out.size)⟩
      · have d1 : decide ((300 : Int) < (lb : Int)) = true := by simp; omega
        have d1' : decide (300 < lb) = true := by simp; omega
        go_wp2_with fail
        refine (wakes13 _).mono ?_
        rintro e w3 ⟨rfl, hb3⟩
        have hB3 := hB2.trans (hb3.mono hB2.size)
        go_wp2
        go_ret
        exact ⟨rfl, hB3⟩
set_option maxRecDepth 100000 in
set_option maxHeartbeats 16000000 in
theorem machineGoes_walk (fold : Bool) (a : Option Addr) (la ca : Nat) (node : Int) (b : Option Addr) (lb cb : Nat) (text : List Int) (c : Nat) (wss : List (List Int)) (w : World) (hA : Wds w a la wss) (hX : Bys w b lb text) (hcb : lb ≤ cb) (hc : c < 256) :
    Calls Tryz.prog 5 #[.agg (setV fold a la ca), .int .i64 node, .slice b lb cb, .int .u8 (c : Int)] w fun e w' => e = .returned (.bool true) ∧ Below w.heap.size w w' := by
  have HL := Lib.hid hA.len
  obtain ⟨W, hW⟩ : ∃ W, W = w.alloc (.cells (setV fold a la ca) 24) := ⟨_, rfl⟩
  have hB : Below w.heap.size w W := by rw [hW]; exact below_alloc _ _
  have hO : Bx w.heap.size [.cells (setV fold a la ca) 24] W := by rw [hW]; exact (Bx.nil _ w).snoc _ rfl
  have s0 : W.cell? ⟨w.heap.size, 0, none⟩ = some (.bool fold) := hO.cell (i := 0) rfl rfl
  have s1 : W.cell? ⟨w.heap.size, 1, none⟩ = some (.slice a la ca) := hO.cell (i := 0) rfl rfl
  have hg := great5_any fold a la ca wss W (hA.below hB)
  obtain ⟨G, hG⟩ : ∃ G, greatP wss = G := ⟨_, rfl⟩
  rw [hG] at hg
  have HG := Lib.hid hg
  have HA := Lib.hid hA
  have HX := Lib.hid hX
  clear hX
  clear hg hA
  go_enter Tryz.func5, Tryz.ntmps5
  go_upto_region 1 with fail
  rw [← hW]
  clear hW
  go_wp2_with fail
  refine HG.out.mono ?_
  rintro e w1 ⟨rfl, hb1⟩
  have hB1 := hB.trans (hb1.mono hB.size)
  have hO1 := hO.below hb1
  clear s0 s1 hO hB hb1 HG
  cases G with
  | true =>
    go_wp2_with fail
    refine (wakes13 _).mono ?_
    rintro e w2 ⟨rfl, hb2⟩
    have hB2 := hB1.trans (hb2.mono hB1.size)
    go_wp2
    go_ret
    exact ⟨rfl, hB2⟩
  | false =>
    obtain ⟨g1, g2, g3⟩ := gr8_bd hG fold
    rw [HL.out] at g1
    have s0 : w1.cell? ⟨w.heap.size, 0, none⟩ = some (.bool fold) := hO1.cell (i := 0) rfl rfl
    have s1 : w1.cell? ⟨w.heap.size, 1, none⟩ = some (.slice a la ca) := hO1.cell (i := 0) rfl rfl
    have hR := rright_any fold a la ca wss w1 (HA.out.below hB1) (by omega) (fun x hx => by have := g2 x hx; omega)
    rw [← right_eq] at hR
    have HR := Lib.hid hR
    clear hR
    cases hr : rightP fold wss with
    | false =>
      rw [hr] at HR
      clear hr g1 g2 g3
      go_wp2_with fail
      refine HR.out.mono ?_
      rintro e w2 ⟨rfl, hb2⟩
      have hB2 := hB1.trans (hb2.mono hB1.size)
      clear s0 s1
      go_wp2_with fail
      refine (wakes13 _).mono ?_
      rintro e w3 ⟨rfl, hb3⟩
      have hB3 := hB2.trans (hb3.mono hB2.size)
      go_wp2
      go_ret
      exact ⟨rfl, hB3⟩
    | true =>
      rw [hr] at HR
      have HRT : Hid (rightP fold wss = true) := hr
      have HLE : Hid (∀ v ∈ wss, v.length ≤ 1000000) := fun v hv => by have := g2 v hv; omega
      have HMC := Lib.hid (fun V (hV : Below w.heap.size w V) => compile13_use fold a la ca wss V (HA.out.below hV) (by omega) HLE.out (by omega) hr)
      have hla80 : la ≤ 80 := g1
      clear hr hG g1 g2 g3
      go_wp2_with fail
      refine HR.out.mono ?_
      rintro e w2 ⟨rfl, hb2⟩
      have hB2 := hB1.trans (hb2.mono hB1.size)
      have hO2 := hO1.below hb2
      clear s0 s1 hb2 HR hO1 hB1
      by_cases hbd : lb ≤ 300
      · have d1 : decide ((300 : Int) < (lb : Int)) = false := by simp; omega
        have d1' : decide (300 < lb) = false := by simp; omega
        have s0 : w2.cell? ⟨w.heap.size, 0, none⟩ = some (.bool fold) := hO2.cell (i := 0) rfl rfl
        have s1 : w2.cell? ⟨w.heap.size, 1, none⟩ = some (.slice a la ca) := hO2.cell (i := 0) rfl rfl
        have HM := Lib.hid (HMC.out w2 hB2)
        have HB2 := Lib.hid hB2
        have KS : Hid (∀ V, RowKit.Below w2.heap.size w2 V → V.cell? ⟨w.heap.size, 0, none⟩ = some (.bool fold) ∧ V.cell? ⟨w.heap.size, 1, none⟩ = some (.slice a la ca)) := fun V hV => by
          have h := hO2.below hV
          exact ⟨h.cell (i := 0) rfl rfl, h.cell (i := 0) rfl rfl⟩
        clear HMC hB2 hO2
        obtain ⟨hnd, hfo⟩ := right_nodup HRT.out
        have h0 : ∀ x ∈ wss, x.length ≠ 0 := fun x hx => ((right_spec HRT.out).2.2.1 x hx).1
        have hOK := okT HRT.out (fun x hx c hc => HA.out.bytes x hx c hc)
        obtain ⟨R, hR⟩ : ∃ R : Nat → Int, R = fun i => nodeI wss (lsf (nodesL wss) (foldL fold (text.take i))) := ⟨_, rfl⟩
        obtain ⟨n, hn⟩ : ∃ n, (nodesL wss).length = n := ⟨_, rfl⟩
        have hRn : Hid (∀ i, ∃ r : Nat, R i = (r : Int) ∧ r < n) := fun i => by
          rw [hR]
          obtain ⟨j, _, h2, h3⟩ := node_ex (lsf_mem (List.mem_of_getElem? (nodesL_head wss)) (foldL fold (text.take i)))
          exact ⟨j, h2, by omega⟩
        have hR0 : R 0 = 0 := by
          rw [hR]
          show nodeI wss (lsf (nodesL wss) (foldL fold [])) = 0
          have e : foldL fold [] = [] := by rw [foldL_map]; rfl
          rw [e, lsf_of_mem (List.mem_of_getElem? (nodesL_head wss))]
          exact nodeI_at (nodesL_head wss)
        have HGO : Hid (∀ (i : Nat) (c : Nat), text[i]? = some (c : Int) → goD (clsP fold wss) (manyP fold wss) (tabP fold wss) (R i) c = some (R (i + 1))) := fun i c hi => by
          have hbt := HX.out.2
          have h1 := runD_root hOK (text.take i) (fun c hc => hbt c (List.mem_of_mem_take hc))
          have h2 := runD_root hOK (text.take (i + 1)) (fun c hc => hbt c (List.mem_of_mem_take hc))
          rw [List.take_add_one, hi, runD_append, h1] at h2
          rw [hR]
          have e : runD (clsP fold wss) (manyP fold wss) (tabP fold wss) (nodeI wss (lsf (nodesL wss) (foldL fold (text.take i)))) [(c : Int)] = goD (clsP fold wss) (manyP fold wss) (tabP fold wss) (nodeI wss (lsf (nodesL wss) (foldL fold (text.take i)))) c := by
            show (goD _ _ _ _ ((c : Int).toNat)).bind _ = _
            rw [Int.toNat_natCast]
            cases goD (clsP fold wss) (manyP fold wss) (tabP fold wss) (nodeI wss (lsf (nodesL wss) (foldL fold (text.take i)))) c <;> rfl
          have h3 : runD (clsP fold wss) (manyP fold wss) (tabP fold wss) (nodeI wss (lsf (nodesL wss) (foldL fold (text.take i)))) [(c : Int)] = some (nodeI wss (lsf (nodesL wss) (foldL fold (text.take i ++ [(c : Int)])))) := h2
          rw [e] at h3
          show goD _ _ _ (nodeI wss (lsf (nodesL wss) (foldL fold (text.take i)))) c = some (nodeI wss (lsf (nodesL wss) (foldL fold (text.take (i + 1)))))
          rw [h3, List.take_add_one, hi]
          rfl
        have KST : Hid (∀ (B : Nat) V, MUse w2 B fold wss V → Calls Tryz.prog 30 #[.pointer (some ⟨B, 0, none⟩)] V fun e w' => e = .returned (.int .i64 (n : Int)) ∧ V = w') := fun B V hV => by
          have h := hV.states
          rw [hn] at h
          exact h
        have KGO : Hid (∀ (B : Nat) V (i : Nat) (c : Nat), MUse w2 B fold wss V → text[i]? = some (c : Int) → c < 256 → Calls Tryz.prog 20 #[.pointer (some ⟨B, 0, none⟩), .int .i64 (R i), .int .u8 (c : Int)] V fun e w' => e = .returned (.tuple #[.int .i64 (R (i + 1)), .bool true]) ∧ MUse w2 B fold wss w') := fun B V i c hV hi hc => by
          have h := hV.step (R i) c hc
          rw [HGO.out i c hi] at h
          exact h.mono fun e w' ⟨h1, h2⟩ => ⟨h1, hV.below h2⟩
        have KAF : Hid (∀ (B : Nat) V (i : Nat), MUse w2 B fold wss V → i ≤ lb → Calls Tryz.prog 35 #[.pointer (some ⟨B, 0, none⟩), .slice b i cb] V fun e w' => e = .returned (.int .i64 (R i)) ∧ MUse w2 B fold wss w') := fun B V i hV hi => by
          have h := hV.after (text.take i) b i cb ((HX.out.below (HB2.out.trans (hV.bel.mono HB2.out.size))).take hi) (by omega)
          rw [show nodeI wss (lsf (nodesL wss) (foldL fold (text.take i))) = R i by rw [hR]] at h
          exact h.mono fun e w' ⟨h1, h2⟩ => ⟨h1, hV.below h2⟩
        have KIN : Hid (∀ (B : Nat) V, MUse w2 B fold wss V → 0 ≤ node ∧ node < (n : Int) → ∃ y, Calls Tryz.prog 20 #[.pointer (some ⟨B, 0, none⟩), .int .i64 node, .int .u8 (c : Int)] V fun e w' => e = .returned (.tuple #[.int .i64 y, .bool true]) ∧ MUse w2 B fold wss w') := fun B V hV hin => by
          obtain ⟨j, rfl⟩ : ∃ j : Nat, node = (j : Int) := ⟨node.toNat, by omega⟩
          obtain ⟨x, hx⟩ : ∃ x, (nodesL wss)[j]? = some x := ⟨_, List.getElem?_eq_getElem (by omega)⟩
          have h := hV.step (j : Int) c hc
          rw [goD_tab hOK hx hc] at h
          exact ⟨_, h.mono fun e w' ⟨h1, h2⟩ => ⟨h1, hV.below h2⟩⟩
        have KOUT : Hid (∀ (B : Nat) V, MUse w2 B fold wss V → (node < 0 ∨ (n : Int) ≤ node) → (Calls Tryz.prog 20 #[.pointer (some ⟨B, 0, none⟩), .int .i64 node, .int .u8 (c : Int)] V fun e w' => e = .returned (.tuple #[.int .i64 0, .bool false]) ∧ MUse w2 B fold wss w') ∧
            (Calls Tryz.prog 24 #[.pointer (some ⟨B, 0, none⟩), .int .i64 node] V fun e w' => ∃ (a : Option Addr) (c : Nat), e = .returned (.slice a 0 c) ∧ MUse w2 B fold wss w') ∧
            (Calls Tryz.prog 26 #[.pointer (some ⟨B, 0, none⟩), .int .i64 node, .int .i64 1] V fun e w' => ∃ (a : Option Addr) (c : Nat), e = .returned (.slice a 0 c) ∧ MUse w2 B fold wss w')) := fun B V hV hout => by
          have hw : words13 wss node = [] := by unfold words13; rw [if_neg (by omega)]
          have h1 := hV.step node c hc
          rw [goD_out hOK (by omega)] at h1
          have h2 := hV.words node
          have h3 := hV.hits node 1 (by unfold I64; omega) (by rw [hw]; simp)
          rw [hw] at h2 h3
          exact ⟨h1.mono fun e w' ⟨h1, h2⟩ => ⟨h1, hV.below h2⟩, h2.mono fun e w' ⟨a, c, h1, _, _, h2⟩ => ⟨a, c, h1, hV.below h2⟩, h3.mono fun e w' ⟨a, c, h1, _, _, h2⟩ => ⟨a, c, h1, hV.below h2⟩⟩
        clear hR hn hnd hfo h0 hOK HGO
        go_upto_region 4 with (go_at_call 17; refine HM.out.mono ?_; rintro e w3 ⟨B, rfl, hU⟩)
        clear s0 s1 HM
        have hcc : (0 : Int) ≤ (c : Int) := by omega
        go_upto_region 8 with fail
        obtain ⟨z0, hz0⟩ : ∃ z : Int, z = 0 := ⟨0, rfl⟩
        go_loopw [11, 12] (fun s11 s12 wr => ∃ i : Nat, i ≤ lb ∧ s12 = .int .i64 (i : Int) ∧ s11 = .int .i64 (R i) ∧ Hid (MUse w2 B fold wss wr)) (fun _ s _ => lb - (intOf s).toNat)
        case atStart => exact ⟨0, Nat.zero_le _, rfl, by rw [hR0], hU⟩
        case round =>
          obtain ⟨i, hi, rfl, rfl, HU⟩ := hrel
          by_cases hil : i < lb
          · have hd : decide ((i : Int) < (lb : Int)) = true := by simp; omega
            obtain ⟨b3, o3, cI, e3, hl3, cc, hci⟩ := sl1_at ((HX.out.below (HB2.out.trans (HU.out.bel.mono HB2.out.size))).1) hil
            subst e3
            have hcr := HX.out.2 cI (List.mem_of_getElem? hci)
            obtain ⟨ch, rfl⟩ : ∃ c : Nat, cI = (c : Int) := ⟨cI.toNat, by omega⟩
            have i1 : (0 : Int) ≤ (i : Int) := by omega
            have i2 : (i : Int) < (lb : Int) := by omega
            have i3 : (i : Int) + 1 ≤ (cb : Int) := by omega
            have H10 := Lib.hid (KGO.out B wr i ch HU.out hci (by omega))
            have HS11 := Lib.hid (fun V hV => KST.out B V hV)
            have HA11 := Lib.hid (fun V hV => KAF.out B V (i + 1) hV (by omega))
            obtain ⟨r, hr, hrn⟩ := hRn.out (i + 1)
            rw [hr] at H10 HA11
            have HRR := Lib.hid hr
            have j1 : decide ((r : Int) < 0) = false := by simp
            have j2 : decide ((n : Int) ≤ (r : Int)) = false := by simp; omega
            have j2' : decide (n ≤ r) = false := by simp; omega
            clear hr hci
            go_upto_region 11 with (go_at_call 20; refine H10.out.mono ?_; rintro e w10 ⟨rfl, hU10⟩)
            have HU10 := Lib.hid hU10
            have H11 := Lib.hid (HS11.out w10 hU10)
            have H12 := Lib.hid (HA11.out w10 hU10)
            clear hU10 H10 HS11 HA11
            go_wp2_with (first
              | (go_at_call 30; refine H11.out.mono ?_; rintro e w11 ⟨rfl, rfl⟩)
              | (go_at_call 35; refine H12.out.mono ?_; rintro e w12 ⟨rfl, hU12⟩))
            go_roundw
            case rel => exact ⟨i + 1, by omega, by go_num, by rw [HRR.out], hU12⟩
            case measure => simp [intOf]; omega
          · obtain rfl : i = lb := by omega
            have hd : decide ((i : Int) < (i : Int)) = false := by simp
            clear KGO KAF hRn
            by_cases hin : 0 ≤ node ∧ node < (n : Int)
            · obtain ⟨y, h14⟩ := KIN.out B wr HU.out hin
              have H14 := Lib.hid h14
              have HST := Lib.hid (fun V hV => KST.out B V hV)
              have e1 : decide ((0 : Int) ≤ node) = true := by simp; omega
              have e2 : decide (node < (n : Int)) = true := by simp; omega
              clear hin h14
              go_upto_region 15 with (go_at_call 20; refine H14.out.mono ?_; rintro e w14 ⟨rfl, hU14⟩)
              have HU14 := Lib.hid hU14
              have H15 := Lib.hid (HST.out w14 hU14)
              clear hU14 H14 HST
              go_upto_region 18 with (go_at_call 30; refine H15.out.mono ?_; rintro e w15 ⟨rfl, rfl⟩)
              go_wp2_with fail
              refine (wakes13 _).mono ?_
              rintro e w16 ⟨rfl, hb16⟩
              go_wp2
              go_ret
              exact ⟨rfl, HB2.out.trans ((HU14.out.below hb16).bel.mono HB2.out.size)⟩
            · obtain ⟨h14, _, _⟩ := KOUT.out B wr HU.out (by omega)
              have H14 := Lib.hid h14
              have HST := Lib.hid (fun V hV => KST.out B V hV)
              have HOU := Lib.hid (fun V hV => KOUT.out B V hV (by omega))
              clear h14
              by_cases h0 : 0 ≤ node
              · have e1 : decide ((0 : Int) ≤ node) = true := by simpa using h0
                have e2 : decide (node < (n : Int)) = false := by simp; omega
                clear hin h0
                go_upto_region 15 with (go_at_call 20; refine H14.out.mono ?_; rintro e w14 ⟨rfl, hU14⟩)
                have HU14 := Lib.hid hU14
                have H15 := Lib.hid (HST.out w14 hU14)
                obtain ⟨_, h16, _⟩ := HOU.out w14 hU14
                have H16 := Lib.hid h16
                clear hU14 H14 HST h16
                go_upto_region 16 with (go_at_call 30; refine H15.out.mono ?_; rintro e w15 ⟨rfl, rfl⟩)
                go_upto_region 18 with (first
                  | (go_at_call 24; refine H16.out.mono ?_; rintro e w16 ⟨aw, cw, rfl, hU16⟩; obtain ⟨_, _, h17⟩ := HOU.out w16 hU16; clear HU14 H16)
                  | (go_at_call 26; refine h17.mono ?_; rintro e w17 ⟨ah, ch, rfl, hU17⟩))
                go_wp2_with fail
                refine (wakes13 _).mono ?_
                rintro e w18 ⟨rfl, hb18⟩
                go_wp2
                go_ret
                exact ⟨rfl, HB2.out.trans ((hU17.below hb18).bel.mono HB2.out.size)⟩
              · have e1 : decide ((0 : Int) ≤ node) = false := by simpa using h0
                clear hin h0
                go_upto_region 15 with (go_at_call 20; refine H14.out.mono ?_; rintro e w14 ⟨rfl, hU14⟩)
                have HU14 := Lib.hid hU14
                obtain ⟨_, h16, _⟩ := HOU.out w14 hU14
                have H16 := Lib.hid h16
                clear hU14 H14 HST h16
                go_upto_region 18 with (first
                  | (go_at_call 24; refine H16.out.mono ?_; rintro e w16 ⟨aw, cw, rfl, hU16⟩; obtain ⟨_, _, h17⟩ := HOU.out w16 hU16; clear HU14 H16)
                  | (go_at_call 26; refine h17.mono ?_; rintro e w17 ⟨ah, ch, rfl, hU17⟩))
                go_wp2_with fail
                refine (wakes13 _).mono ?_
                rintro e w18 ⟨rfl, hb18⟩
                go_wp2
                go_ret
                exact ⟨rfl, HB2.out.trans ((hU17.below hb18).bel.mono HB2.out.size)⟩
      · have d1 : decide ((300 : Int) < (lb : Int)) = true := by simp; omega
        have d1' : decide (300 < lb) = true := by simp; omega
        go_wp2_with fail
        refine (wakes13 _).mono ?_
        rintro e w3 ⟨rfl, hb3⟩
        have hB3 := hB2.trans (hb3.mono hB2.size)
        go_wp2
        go_ret
        exact ⟨rfl, hB3⟩
end Go.Proofs.YtbiinfnekhhfkaaGreat
