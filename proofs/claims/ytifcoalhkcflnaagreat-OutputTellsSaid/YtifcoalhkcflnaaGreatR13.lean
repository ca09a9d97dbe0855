/- Parts of the proof, one behind the other: K9, P9, Pq, Pc, Ps, V6, V7, Fr, Fs. No condition but what each theorem states. -/
import Derived.Laws.OwnMore
import Derived.Test.YtifcoalhkcflnaaGreatRows
import Derived.ProofKit
import Derived.OpenShut
import Derived.ShutString
import Derived.ChangeOld
import Derived.Lib.SmallJoins
import Derived.Deep.Matrix
import Derived.Test.YtifcoalhkcflnaaGreatR1
import Derived.Test.YtifcoalhkcflnaaGreatR8
import Derived.Test.YtifcoalhkcflnaaGreatR10
import Derived.Test.YtifcoalhkcflnaaGreatR11
import Derived.Test.YtifcoalhkcflnaaGreatR12

/- What the document says of he, she, her (layer 8): walked. -/


namespace Go.Proofs.YtifcoalhkcflnaaGreat
open Go.RowKit Go.Sort
set_option linter.unusedVariables false
set_option linter.unusedSimpArgs false

def t00 : TV := ⟨none, 0, 0, none, 0, 0, none, 0, 0, none, 0, 0⟩
def T00 : TrieT := ⟨[], [], [], []⟩
theorem tri00 (w : World) : Tri w t00 T00 := ⟨⟨rfl, .inl rfl⟩, ⟨rfl, .inl rfl⟩, ⟨rfl, .inl rfl⟩, Bys.nil _ _, ⟨Nat.le_refl _, Nat.le_refl _, Nat.le_refl _, Nat.le_refl _⟩⟩
theorem read00 : readP T00 = none := by decide +kernel
theorem he_links : linksP heW = [0, 0, 0, 0, 1, 0, 3] := by decide +kernel
theorem he_nodes : (nodesL heW).length = 7 := by decide +kernel
theorem he_deep1 : deepT (trieP heW) [117, 115, 104, 101] = (6, true) := by unfold deepT; rw [he_read]; decide +kernel
theorem he_deep2 : deepT (trieP heW) [104, 101, 115] = (2, true) := by unfold deepT; rw [he_read]; decide +kernel
theorem he_deep3 : deepT T00 [] = (0, false) := by unfold deepT; rw [read00]
theorem he_step1 : stepT (trieP heW) 4 101 = (6, true) := by unfold stepT; rw [he_read]; decide +kernel
theorem he_step2 : stepT (trieP heW) 7 101 = (0, false) := by unfold stepT; rw [he_read]; decide +kernel
theorem he_chain : chainT8 (trieP heW) 6 = [6, 3, 0] := by unfold chainT8; rw [he_read]; decide +kernel
theorem he_lr1 : rightL8 (trieP heW) [0, 0, 0, 0, 1, 0, 3] = true := by unfold rightL8; rw [he_read]; decide +kernel
theorem he_lr2 : rightL8 (trieP heW) [0] = false := by unfold rightL8; rw [he_read]; decide +kernel

/-- What lies there all the way. -/
structure C8 (w : World) (t : TV) (Q : Nat) (W : World) : Prop where
  tri : Tri W t (trieP heW)
  box : W.heap[Q]? = some (.cells t.cells 28 (0, 0))
  bel : Below w.heap.size w W
theorem C8.below {w W V : World} {t : TV} {Q : Nat} (h : C8 w t Q W) (hb : Below W.heap.size W V) : C8 w t Q V :=
  ⟨h.tri.below hb, (hb.block Q (Array.getElem?_eq_some_iff.1 h.box).1).trans h.box, h.bel.trans (hb.mono h.bel.size)⟩
theorem C8.cells {w W : World} {ua da xa ba : Option Addr} {un uc dn dc xn xc bn bc Q : Nat} (h : C8 w ⟨ua, un, uc, da, dn, dc, xa, xn, xc, ba, bn, bc⟩ Q W) :
    W.cell? ⟨Q, 0, none⟩ = some (.slice ua un uc) ∧ W.cell? ⟨Q, 1, none⟩ = some (.slice da dn dc) ∧ W.cell? ⟨Q, 2, none⟩ = some (.slice xa xn xc) ∧ W.cell? ⟨Q, 3, none⟩ = some (.slice ba bn bc) := by
  have := h.box
  refine ⟨?_, ?_, ?_, ?_⟩ <;> simp [World.cell?, this]

set_option maxRecDepth 100000 in
set_option maxHeartbeats 4000000 in
theorem wakes8 (w : World) : Calls Tryz.prog 28 #[] w fun e w' => e = .returned (.bool true) ∧ Below w.heap.size w w' := by
  go_enter Tryz.func28, Tryz.ntmps28
  go_wp2_with fail
  refine (she8_any w).mono ?_
  rintro e w1 ⟨t, rfl, hT, hun, hb1⟩
  obtain ⟨ua, un, uc, da, dn, dc, xa, xn, xc, ba, bn, bc⟩ := t
  dsimp only at hun
  subst hun
  obtain ⟨W1, hW⟩ : ∃ W, W = w1.alloc (.cells #[.slice ua 7 uc, .slice da dn dc, .slice xa xn xc, .slice ba bn bc] 28) := ⟨_, rfl⟩
  have hC : C8 w ⟨ua, 7, uc, da, dn, dc, xa, xn, xc, ba, bn, bc⟩ w1.heap.size W1 := by
    rw [hW]
    exact ⟨hT.below (below_alloc _ _), World.alloc_heap_new _ _, hb1.alloc hb1.size _⟩
  obtain ⟨Q, hQ⟩ : ∃ Q, w1.heap.size = Q := ⟨_, rfl⟩
  rw [hQ] at hC
  clear hT hb1
  go_upto_region 2 with fail
  rw [← hW]
  clear hW hQ
  obtain ⟨c0, c1, c2, c3⟩ := hC.cells
  have H1 := Lib.hid (links8_yes _ (trieP heW) _ heW W1 hC.tri (by show 7 ≤ 140737488351232; decide) he_read)
  rw [he_nodes, he_links] at H1
  go_wp2_with fail
  refine H1.out.mono ?_
  rintro e w2 ⟨q, rfl, hq, hql, hb2⟩
  have hC2 := hC.below hb2
  clear hC c0 c1 c2 c3 hb2 H1
  have H2 := Lib.hid (links8_no t00 T00 w2 (tri00 w2) (by decide) read00)
  go_wp2_with fail
  refine H2.out.mono ?_
  rintro e w3 ⟨rfl, hb3⟩
  have hC3 := hC2.below hb3
  have hq3 : IntRow q [0, 0, 0, 0, 1, 0, 3] w3 := (hb3.block q (Array.getElem?_eq_some_iff.1 (show w2.heap[q]? = _ from hq)).1).trans hq
  clear hC2 hq hb3 H2
  obtain ⟨c0, c1, c2, c3⟩ := hC3.cells
  have kc := conv_lit
  obtain ⟨W4, hW4⟩ : ∃ W, W = w3.alloc (.cells #[.int .u8 117, .int .u8 115, .int .u8 104, .int .u8 101] 5 (4, 5)) := ⟨_, rfl⟩
  have hb4 : Below w3.heap.size w3 W4 := by rw [hW4]; exact below_alloc _ _
  have y4 : Bys W4 (some ⟨w3.heap.size, 0, none⟩) 4 [117, 115, 104, 101] := by rw [hW4]; exact bys_lay [117, 115, 104, 101] (by simp) _ _ rfl
  have hC4 := hC3.below hb4
  have hq4 : IntRow q [0, 0, 0, 0, 1, 0, 3] W4 := (hb4.block q (Array.getElem?_eq_some_iff.1 (show w3.heap[q]? = _ from hq3)).1).trans hq3
  have H4 := Lib.hid (deep8_any _ (trieP heW) (some ⟨w3.heap.size, 0, none⟩) 4 4 _ W4 hC4.tri (by show 7 ≤ 140737488351232; decide) y4 (by decide))
  rw [he_deep1] at H4
  go_wp2_with fail
  rw [← hW4]
  clear hW4 hb4 y4 hC3 hq3 c0 c1 c2 c3
  refine H4.out.mono ?_
  rintro e w5 ⟨rfl, hb5⟩
  have hC5 := hC4.below hb5
  have hq5 : IntRow q [0, 0, 0, 0, 1, 0, 3] w5 := (hb5.block q (Array.getElem?_eq_some_iff.1 (show W4.heap[q]? = _ from hq4)).1).trans hq4
  clear hC4 hq4 hb5 H4
  obtain ⟨c0, c1, c2, c3⟩ := hC5.cells
  obtain ⟨W6, hW6⟩ : ∃ W, W = w5.alloc (.cells #[.int .u8 104, .int .u8 101, .int .u8 115] 5 (3, 4)) := ⟨_, rfl⟩
  have hb6 : Below w5.heap.size w5 W6 := by rw [hW6]; exact below_alloc _ _
  have y6 : Bys W6 (some ⟨w5.heap.size, 0, none⟩) 3 [104, 101, 115] := by rw [hW6]; exact bys_lay [104, 101, 115] (by simp) _ _ rfl
  have hC6 := hC5.below hb6
  have hq6 : IntRow q [0, 0, 0, 0, 1, 0, 3] W6 := (hb6.block q (Array.getElem?_eq_some_iff.1 (show w5.heap[q]? = _ from hq5)).1).trans hq5
  have H6 := Lib.hid (deep8_any _ (trieP heW) (some ⟨w5.heap.size, 0, none⟩) 3 3 _ W6 hC6.tri (by show 7 ≤ 140737488351232; decide) y6 (by decide))
  rw [he_deep2] at H6
  go_wp2_with fail
  rw [← hW6]
  clear hW6 hb6 y6 hC5 hq5 c0 c1 c2 c3
  refine H6.out.mono ?_
  rintro e w7 ⟨rfl, hb7⟩
  have hC7 := hC6.below hb7
  have hq7 : IntRow q [0, 0, 0, 0, 1, 0, 3] w7 := (hb7.block q (Array.getElem?_eq_some_iff.1 (show W6.heap[q]? = _ from hq6)).1).trans hq6
  clear hC6 hq6 hb7 H6 kc
  have H7 := Lib.hid (deep8_any t00 T00 none 0 0 [] w7 (tri00 _) (by decide) (Bys.nil _ _) (by decide))
  rw [he_deep3] at H7
  go_wp2_with fail
  refine H7.out.mono ?_
  rintro e w8 ⟨rfl, hb8⟩
  have hC8 := hC7.below hb8
  have hq8 : IntRow q [0, 0, 0, 0, 1, 0, 3] w8 := (hb8.block q (Array.getElem?_eq_some_iff.1 (show w7.heap[q]? = _ from hq7)).1).trans hq7
  clear hC7 hq7 hb8 H7
  obtain ⟨c0, c1, c2, c3⟩ := hC8.cells
  have H8 := Lib.hid (fstep8_any _ (trieP heW) 4 101 w8 hC8.tri (by show 7 ≤ 140737488351232; decide) (by decide))
  rw [he_step1] at H8
  go_wp2_with fail
  refine H8.out.mono ?_
  rintro e w9 ⟨rfl, hb9⟩
  have hC9 := hC8.below hb9
  have hq9 : IntRow q [0, 0, 0, 0, 1, 0, 3] w9 := (hb9.block q (Array.getElem?_eq_some_iff.1 (show w8.heap[q]? = _ from hq8)).1).trans hq8
  clear hC8 hq8 hb9 H8 c0 c1 c2 c3
  obtain ⟨c0, c1, c2, c3⟩ := hC9.cells
  have H9 := Lib.hid (fstep8_any _ (trieP heW) 7 101 w9 hC9.tri (by show 7 ≤ 140737488351232; decide) (by decide))
  rw [he_step2] at H9
  go_wp2_with fail
  refine H9.out.mono ?_
  rintro e w10 ⟨rfl, hb10⟩
  have hC10 := hC9.below hb10
  have hq10 : IntRow q [0, 0, 0, 0, 1, 0, 3] w10 := (hb10.block q (Array.getElem?_eq_some_iff.1 (show w9.heap[q]? = _ from hq9)).1).trans hq9
  clear hC9 hq9 hb10 H9 c0 c1 c2 c3
  obtain ⟨W11, hW11⟩ : ∃ W, W = w10.alloc (.cells #[.int .i64 0, .int .i64 0, .int .i64 0, .int .i64 0, .int .i64 1, .int .i64 0, .int .i64 3] 3) := ⟨_, rfl⟩
  have hb11 : Below w10.heap.size w10 W11 := by rw [hW11]; exact below_alloc _ _
  have y11 : Sl1 (Value.int .i64) W11 (some ⟨w10.heap.size, 0, none⟩) 7 [0, 0, 0, 0, 1, 0, 3] := by rw [hW11]; exact Sl1.lay (Value.int .i64) w10 [0, 0, 0, 0, 1, 0, 3] _ _ rfl
  have hC11 := hC10.below hb11
  have hq11 : IntRow q [0, 0, 0, 0, 1, 0, 3] W11 := (hb11.block q (Array.getElem?_eq_some_iff.1 (show w10.heap[q]? = _ from hq10)).1).trans hq10
  have H11 := Lib.hid (rints_any (some ⟨q, 0, none⟩) (some ⟨w10.heap.size, 0, none⟩) 7 7 7 7 _ _ W11 hq11.sl1 y11 (by decide))
  rw [show decide (([0, 0, 0, 0, 1, 0, 3] : List Int) = [0, 0, 0, 0, 1, 0, 3]) = true from decide_eq_true rfl] at H11
  go_wp2_with fail
  rw [← hW11]
  clear hW11 y11 hC10 hq10 hb11
  refine H11.out.mono ?_
  rintro e w12 ⟨rfl, hb12⟩
  have hC12 := hC11.below hb12
  have hq12 : IntRow q [0, 0, 0, 0, 1, 0, 3] w12 := (hb12.block q (Array.getElem?_eq_some_iff.1 (show W11.heap[q]? = _ from hq11)).1).trans hq11
  clear hC11 hq11 hb12 H11
  obtain ⟨c0, c1, c2, c3⟩ := hC12.cells
  have H12 := Lib.hid (fchain8_any _ (trieP heW) 6 w12 hC12.tri (by show 7 ≤ 140737488351232; decide))
  rw [he_chain] at H12
  go_wp2_with fail
  refine H12.out.mono ?_
  rintro e w13 ⟨v, rfl, hv, hb13⟩
  obtain ⟨av, cv, rfl, _, hvs⟩ := own_sl1 (enc := Value.int .i64) hv
  have hC13 := hC12.below hb13
  have hq13 : IntRow q [0, 0, 0, 0, 1, 0, 3] w13 := (hb13.block q (Array.getElem?_eq_some_iff.1 (show w12.heap[q]? = _ from hq12)).1).trans hq12
  clear hC12 hq12 hb13 H12 c0 c1 c2 c3 hv
  obtain ⟨W14, hW14⟩ : ∃ W, W = w13.alloc (.cells #[.int .i64 6, .int .i64 3, .int .i64 0] 3) := ⟨_, rfl⟩
  have hb14 : Below w13.heap.size w13 W14 := by rw [hW14]; exact below_alloc _ _
  have y14 : Sl1 (Value.int .i64) W14 (some ⟨w13.heap.size, 0, none⟩) 3 [6, 3, 0] := by rw [hW14]; exact Sl1.lay (Value.int .i64) w13 [6, 3, 0] _ _ rfl
  have hC14 := hC13.below hb14
  have hq14 : IntRow q [0, 0, 0, 0, 1, 0, 3] W14 := (hb14.block q (Array.getElem?_eq_some_iff.1 (show w13.heap[q]? = _ from hq13)).1).trans hq13
  have H14 := Lib.hid (rints_any av (some ⟨w13.heap.size, 0, none⟩) 3 cv 3 3 _ _ W14 (hvs.below hb14) y14 (by decide))
  rw [show decide (([6, 3, 0] : List Int) = [6, 3, 0]) = true from decide_eq_true rfl] at H14
  go_wp2_with fail
  rw [← hW14]
  clear hW14 y14 hC13 hq13 hb14 hvs
  refine H14.out.mono ?_
  rintro e w15 ⟨rfl, hb15⟩
  have hC15 := hC14.below hb15
  have hq15 : IntRow q [0, 0, 0, 0, 1, 0, 3] w15 := (hb15.block q (Array.getElem?_eq_some_iff.1 (show W14.heap[q]? = _ from hq14)).1).trans hq14
  clear hC14 hq14 hb15 H14
  obtain ⟨c0, c1, c2, c3⟩ := hC15.cells
  have H15 := Lib.hid (fright8_any _ (trieP heW) (some ⟨q, 0, none⟩) 7 7 _ w15 hC15.tri (by show 7 ≤ 140737488351232; decide) hq15.sl1)
  rw [he_lr1] at H15
  go_wp2_with fail
  refine H15.out.mono ?_
  rintro e w16 ⟨rfl, hb16⟩
  have hC16 := hC15.below hb16
  clear hC15 hq15 hb16 H15 c0 c1 c2 c3
  obtain ⟨c0, c1, c2, c3⟩ := hC16.cells
  obtain ⟨W17, hW17⟩ : ∃ W, W = w16.alloc (.cells #[.int .i64 0] 3) := ⟨_, rfl⟩
  have hb17 : Below w16.heap.size w16 W17 := by rw [hW17]; exact below_alloc _ _
  have y17 : Sl1 (Value.int .i64) W17 (some ⟨w16.heap.size, 0, none⟩) 1 [0] := by rw [hW17]; exact Sl1.lay (Value.int .i64) w16 [0] _ _ rfl
  have hC17 := hC16.below hb17
  have H17 := Lib.hid (fright8_any _ (trieP heW) (some ⟨w16.heap.size, 0, none⟩) 1 1 _ W17 hC17.tri (by show 7 ≤ 140737488351232; decide) y17)
  rw [he_lr2] at H17
  go_wp2_with fail
  rw [← hW17]
  clear hW17 y17 hC16 hb17
  refine H17.out.mono ?_
  rintro e w18 ⟨rfl, hb18⟩
  have hBf := (hC17.below hb18).bel
  go_wp2
  go_ret
  exact ⟨rfl, hBf⟩

end Go.Proofs.YtifcoalhkcflnaaGreat

/- What the document says of he, she, her, e (layer 9): walked. -/


namespace Go.Proofs.YtifcoalhkcflnaaGreat
open Go.RowKit Go.Sort
set_option linter.unusedVariables false
set_option linter.unusedSimpArgs false

def heE : List (List Int) := [[104, 101], [115, 104, 101], [104, 101, 114], [101]]
theorem heE_right : rightP false heE = true := by decide +kernel
theorem heE_n : (nodesL heE).length = 8 := by decide +kernel
theorem heE_read : readP (trieP heE) = some (nodesL heE, heE) := readP_trie heE_right
theorem heE_next : nextsP heE = [0, 0, 0, 0, 1, 0, 0, 4] := by decide +kernel
theorem heE_w1 : wordsP9 heE [7, 5] = some [1, 0, 3] := by decide +kernel
theorem heE_w2 : wordsP9 heE [8] = none := by decide +kernel
theorem heE_c : chain9T (trieP heE) 7 = [7, 4, 1] := by unfold chain9T; rw [heE_read]; decide +kernel
theorem heE_m : mostN heE 8 = 3 := by decide +kernel
theorem heE_up : (trieP heE).up.length = 8 := by rw [(wrd_len heE).2.2.1]; exact heE_n

theorem wds4 {w : World} {a : Option Addr} {v1 v2 v3 v4 : Option Addr × Nat × Nat} {x1 x2 x3 x4 : List Int} (h : Sl1 (fun v : Option Addr × Nat × Nat => Value.slice v.1 v.2.1 v.2.2) w a 4 [v1, v2, v3, v4]) (h1 : Bys w v1.1 v1.2.1 x1) (h2 : Bys w v2.1 v2.2.1 x2) (h3 : Bys w v3.1 v3.2.1 x3) (h4 : Bys w v4.1 v4.2.1 x4)
    (c1 : v1.2.1 ≤ v1.2.2) (c2 : v2.2.1 ≤ v2.2.2) (c3 : v3.2.1 ≤ v3.2.2) (c4 : v4.2.1 ≤ v4.2.2) : Wds w a 4 [x1, x2, x3, x4] := by
  refine ⟨_, h, rfl, fun i v xs hv hx => ?_⟩
  match i with
  | 0 => simp at hv hx; subst hv hx; exact ⟨h1, c1⟩
  | 1 => simp at hv hx; subst hv hx; exact ⟨h2, c2⟩
  | 2 => simp at hv hx; subst hv hx; exact ⟨h3, c3⟩
  | 3 => simp at hv hx; subst hv hx; exact ⟨h4, c4⟩
  | n + 4 => simp at hv

/-- What lies there all the way. -/
structure C9 (w : World) (t : TV) (Q : Nat) (W : World) : Prop where
  tri : Tri W t (trieP heE)
  box : W.heap[Q]? = some (.cells t.cells 28 (0, 0))
  bel : Below w.heap.size w W
theorem C9.below {w W V : World} {t : TV} {Q : Nat} (h : C9 w t Q W) (hb : Below W.heap.size W V) : C9 w t Q V :=
  ⟨h.tri.below hb, (hb.block Q (Array.getElem?_eq_some_iff.1 h.box).1).trans h.box, h.bel.trans (hb.mono h.bel.size)⟩
theorem C9.cells {w W : World} {ua da xa ba : Option Addr} {un uc dn dc xn xc bn bc Q : Nat} (h : C9 w ⟨ua, un, uc, da, dn, dc, xa, xn, xc, ba, bn, bc⟩ Q W) :
    W.cell? ⟨Q, 0, none⟩ = some (.slice ua un uc) ∧ W.cell? ⟨Q, 1, none⟩ = some (.slice da dn dc) ∧ W.cell? ⟨Q, 2, none⟩ = some (.slice xa xn xc) ∧ W.cell? ⟨Q, 3, none⟩ = some (.slice ba bn bc) := by
  have := h.box
  refine ⟨?_, ?_, ?_, ?_⟩ <;> simp [World.cell?, this]
theorem Sl1.keep {w V : World} {a : Option Addr} {n : Nat} {l : List Int} (h : Sl1 (Value.int .i64) w a n l) (hb : Below w.heap.size w V) : Sl1 (Value.int .i64) V a n l := Sl1.below h hb

set_option maxRecDepth 100000 in
set_option maxHeartbeats 8000000 in
theorem wakes9 (w : World) : Calls Tryz.prog 40 #[] w fun e w' => e = .returned (.bool true) ∧ Below w.heap.size w w' := by
  have kc := conv_lit
  go_enter Tryz.func40, Tryz.ntmps40
  go_wp2_with fail
  clear kc
  obtain ⟨A1, hA1⟩ : ∃ W, W = w.alloc (.cells #[.int .u8 104, .int .u8 101] 5 (2, 3)) := ⟨_, rfl⟩
  rw [← hA1]
  have z1 : A1.heap.size = w.heap.size + 1 := by rw [hA1]; simp
  have y1 : Bys A1 (some ⟨w.heap.size, 0, none⟩) 2 [104, 101] := by rw [hA1]; exact bys_lay [104, 101] (by simp) _ _ rfl
  have B1 : Below w.heap.size w A1 := by rw [hA1]; exact below_alloc _ _
  clear hA1
  obtain ⟨A2, hA2⟩ : ∃ W, W = A1.alloc (.cells #[.int .u8 115, .int .u8 104, .int .u8 101] 5 (3, 4)) := ⟨_, rfl⟩
  rw [← hA2]
  have z2 : A2.heap.size = w.heap.size + 1 + 1 := by rw [hA2]; simp [z1]
  have y2 : Bys A2 (some ⟨w.heap.size + 1, 0, none⟩) 3 [115, 104, 101] := by rw [hA2]; exact bys_lay [115, 104, 101] (by simp) _ _ z1
  have B2 : Below A1.heap.size A1 A2 := by rw [hA2]; exact below_alloc _ _
  clear hA2
  obtain ⟨A3, hA3⟩ : ∃ W, W = A2.alloc (.cells #[.int .u8 104, .int .u8 101, .int .u8 114] 5 (3, 4)) := ⟨_, rfl⟩
  rw [← hA3]
  have z3 : A3.heap.size = w.heap.size + 1 + 1 + 1 := by rw [hA3]; simp [z2]
  have y3 : Bys A3 (some ⟨w.heap.size + 1 + 1, 0, none⟩) 3 [104, 101, 114] := by rw [hA3]; exact bys_lay [104, 101, 114] (by simp) _ _ z2
  have B3 : Below A2.heap.size A2 A3 := by rw [hA3]; exact below_alloc _ _
  clear hA3
  obtain ⟨A4, hA4⟩ : ∃ W, W = A3.alloc (.cells #[.int .u8 101] 5 (1, 2)) := ⟨_, rfl⟩
  rw [← hA4]
  have z4 : A4.heap.size = w.heap.size + 1 + 1 + 1 + 1 := by rw [hA4]; simp [z3]
  have y4 : Bys A4 (some ⟨w.heap.size + 1 + 1 + 1, 0, none⟩) 1 [101] := by rw [hA4]; exact bys_lay [101] (by simp) _ _ z3
  have B4 : Below A3.heap.size A3 A4 := by rw [hA4]; exact below_alloc _ _
  clear hA4
  obtain ⟨A5, hA5⟩ : ∃ W, W = A4.alloc (.cells #[.slice (some ⟨w.heap.size, 0, none⟩) 2 2, .slice (some ⟨w.heap.size + 1, 0, none⟩) 3 3, .slice (some ⟨w.heap.size + 1 + 1, 0, none⟩) 3 3, .slice (some ⟨w.heap.size + 1 + 1 + 1, 0, none⟩) 1 1] 26) := ⟨_, rfl⟩
  rw [← hA5]
  have y5 : Sl1 (fun v : Option Addr × Nat × Nat => Value.slice v.1 v.2.1 v.2.2) A5 (some ⟨w.heap.size + 1 + 1 + 1 + 1, 0, none⟩) 4 [(some ⟨w.heap.size, 0, none⟩, 2, 2), (some ⟨w.heap.size + 1, 0, none⟩, 3, 3), (some ⟨w.heap.size + 1 + 1, 0, none⟩, 3, 3), (some ⟨w.heap.size + 1 + 1 + 1, 0, none⟩, 1, 1)] := by
    rw [hA5]
    exact Sl1.lay (α := Option Addr × Nat × Nat) _ A4 [(some ⟨w.heap.size, 0, none⟩, 2, 2), (some ⟨w.heap.size + 1, 0, none⟩, 3, 3), (some ⟨w.heap.size + 1 + 1, 0, none⟩, 3, 3), (some ⟨w.heap.size + 1 + 1 + 1, 0, none⟩, 1, 1)] _ _ z4
  have B5 : Below A4.heap.size A4 A5 := by rw [hA5]; exact below_alloc _ _
  clear hA5
  have hW : Wds A5 (some ⟨w.heap.size + 1 + 1 + 1 + 1, 0, none⟩) 4 heE := wds4 y5 ((((y1.below B2).below B3).below B4).below B5) (((y2.below B3).below B4).below B5) ((y3.below B4).below B5) (y4.below B5) (Nat.le_refl _) (Nat.le_refl _) (Nat.le_refl _) (Nat.le_refl _)
  have hB5 : Below w.heap.size w A5 := B1.trans ((B2.trans ((B3.trans ((B4.trans (B5.mono (by omega))).mono (by omega))).mono (by omega))).mono (by omega))
  have HC := Lib.hid (rmake7_yes false (some ⟨w.heap.size + 1 + 1 + 1 + 1, 0, none⟩) 4 4 heE A5 hW heE_right)
  clear y1 y2 y3 y4 y5 B1 B2 B3 B4 B5 z1 z2 z3 z4 hW
  refine HC.out.mono ?_
  rintro e w1 ⟨t, rfl, hT, hb1'⟩
  have hb1 := hB5.trans (hb1'.mono hB5.size)
  have hun : t.un = 8 := by have := hT.up.1; rw [heE_up] at this; exact this.symm
  clear HC hB5 hb1'
  obtain ⟨ua, un, uc, da, dn, dc, xa, xn, xc, ba, bn, bc⟩ := t
  dsimp only at hun
  subst hun
  obtain ⟨W1, hW⟩ : ∃ W, W = w1.alloc (.cells #[.slice ua 8 uc, .slice da dn dc, .slice xa xn xc, .slice ba bn bc] 28) := ⟨_, rfl⟩
  have hC : C9 w ⟨ua, 8, uc, da, dn, dc, xa, xn, xc, ba, bn, bc⟩ w1.heap.size W1 := by
    rw [hW]
    exact ⟨hT.below (below_alloc _ _), World.alloc_heap_new _ _, hb1.alloc hb1.size _⟩
  obtain ⟨Q, hQ⟩ : ∃ Q, w1.heap.size = Q := ⟨_, rfl⟩
  rw [hQ] at hC
  clear hT hb1
  go_upto_region 2 with fail
  rw [← hW]
  clear hW hQ
  obtain ⟨c0, c1, c2, c3⟩ := hC.cells
  have H1 := Lib.hid (next9_yes _ (trieP heE) _ heE W1 hC.tri (by show 8 ≤ 140737488351232; decide) heE_read)
  rw [heE_n, heE_next] at H1
  go_wp2_with fail
  refine H1.out.mono ?_
  rintro e w2 ⟨q, rfl, hq, hql, hb2⟩
  have hC2 := hC.below hb2
  have hq2 := hq.sl1
  clear hC c0 c1 c2 c3 hb2 H1 hq
  obtain ⟨c0, c1, c2, c3⟩ := hC2.cells
  obtain ⟨W3, hW3⟩ : ∃ W, W = w2.alloc (.cells #[.int .i64 7, .int .i64 5] 3) := ⟨_, rfl⟩
  have hb3 : Below w2.heap.size w2 W3 := by rw [hW3]; exact below_alloc _ _
  have y3 : Sl1 (Value.int .i64) W3 (some ⟨w2.heap.size, 0, none⟩) 2 [7, 5] := by rw [hW3]; exact Sl1.lay (Value.int .i64) w2 [7, 5] _ _ rfl
  have hC3 := hC2.below hb3
  have hq3 := hq2.keep hb3
  have H3 := Lib.hid (words9_yes _ (trieP heE) _ heE [7, 5] (some ⟨w2.heap.size, 0, none⟩) 2 2 W3 hC3.tri (by show 8 ≤ 140737488351232; decide) heE_read y3 (by decide))
  rw [heE_w1] at H3
  go_wp2_with fail
  rw [← hW3]
  clear hW3 hb3 y3 hC2 hq2 c0 c1 c2 c3
  refine H3.out.mono ?_
  rintro e w4 ⟨⟨v, rfl, hv⟩, hb4⟩
  obtain ⟨av, cv, rfl, _, hvs⟩ := own_sl1 (enc := Value.int .i64) hv
  have hC4 := hC3.below hb4
  have hq4 := hq3.keep hb4
  clear hC3 hq3 hb4 H3 hv
  obtain ⟨c0, c1, c2, c3⟩ := hC4.cells
  obtain ⟨W5, hW5⟩ : ∃ W, W = w4.alloc (.cells #[.int .i64 8] 3) := ⟨_, rfl⟩
  have hb5 : Below w4.heap.size w4 W5 := by rw [hW5]; exact below_alloc _ _
  have y5 : Sl1 (Value.int .i64) W5 (some ⟨w4.heap.size, 0, none⟩) 1 [8] := by rw [hW5]; exact Sl1.lay (Value.int .i64) w4 [8] _ _ rfl
  have hC5 := hC4.below hb5
  have hq5 := hq4.keep hb5
  have hv5 := hvs.keep hb5
  have H5 := Lib.hid (words9_yes _ (trieP heE) _ heE [8] (some ⟨w4.heap.size, 0, none⟩) 1 1 W5 hC5.tri (by show 8 ≤ 140737488351232; decide) heE_read y5 (by decide))
  rw [heE_w2] at H5
  go_wp2_with fail
  rw [← hW5]
  clear hW5 hb5 y5 hC4 hq4 hvs c0 c1 c2 c3
  refine H5.out.mono ?_
  rintro e w6 ⟨h6, hb6⟩
  unfold WPost at h6
  dsimp only at h6
  subst h6
  have hC6 := hC5.below hb6
  have hq6 := hq5.keep hb6
  have hv6 := hv5.keep hb6
  clear hC5 hq5 hv5 hb6 H5
  have H7 := Lib.hid (next9_no t00 T00 w6 (tri00 w6) (by decide) read00)
  go_wp2_with fail
  refine H7.out.mono ?_
  rintro e w7 ⟨rfl, hb7⟩
  have hC7 := hC6.below hb7
  have hq7 := hq6.keep hb7
  have hv7 := hv6.keep hb7
  clear hC6 hq6 hv6 hb7 H7
  obtain ⟨c0, c1, c2, c3⟩ := hC7.cells
  have H8 := Lib.hid (chain9_any _ (trieP heE) 7 w7 hC7.tri (by show 8 ≤ 140737488351232; decide))
  rw [heE_c] at H8
  go_wp2_with fail
  refine H8.out.mono ?_
  rintro e w8 ⟨u, rfl, hu, hb8⟩
  obtain ⟨au, cu, rfl, _, hus⟩ := own_sl1 (enc := Value.int .i64) hu
  have hC8 := hC7.below hb8
  have hq8 := hq7.keep hb8
  have hv8 := hv7.keep hb8
  clear hC7 hq7 hv7 hb8 H8 hu c0 c1 c2 c3
  obtain ⟨_, hqc⟩ := hq8
  obtain ⟨bq, oq, eq, hbq, hqc⟩ := hqc.resolve_left (by decide)
  injection eq with eq
  injection eq with e1 e2 e3
  subst e1 e2
  have q7 : w8.cell? ⟨q, 7, none⟩ = some (.int .i64 4) := by simpa using hqc 7 4 rfl
  have q4 : w8.cell? ⟨q, 4, none⟩ = some (.int .i64 1) := by simpa using hqc 4 1 rfl
  have q1 : w8.cell? ⟨q, 1, none⟩ = some (.int .i64 0) := by simpa using hqc 1 0 rfl
  obtain ⟨W9, hW9⟩ : ∃ W, W = w8.alloc (.cells #[.int .i64 1, .int .i64 0, .int .i64 3] 3) := ⟨_, rfl⟩
  have hb9 : Below w8.heap.size w8 W9 := by rw [hW9]; exact below_alloc _ _
  have y9 : Sl1 (Value.int .i64) W9 (some ⟨w8.heap.size, 0, none⟩) 3 [1, 0, 3] := by rw [hW9]; exact Sl1.lay (Value.int .i64) w8 [1, 0, 3] _ _ rfl
  have hC9' := hC8.below hb9
  have hu9 := hus.keep hb9
  have H9 := Lib.hid (rints_any av (some ⟨w8.heap.size, 0, none⟩) 3 cv 3 3 _ _ W9 (hv8.keep hb9) y9 (by decide))
  rw [show decide (([1, 0, 3] : List Int) = [1, 0, 3]) = true from decide_eq_true rfl] at H9
  clear hqc
  go_wp2_with fail
  rw [← hW9]
  clear hW9 y9 hC8 hv8 hus hb9 q7 q4 q1
  refine H9.out.mono ?_
  rintro e w10 ⟨rfl, hb10⟩
  have hC10 := hC9'.below hb10
  have hu10 := hu9.keep hb10
  clear hC9' hu9 hb10 H9
  obtain ⟨W11, hW11⟩ : ∃ W, W = w10.alloc (.cells #[.int .i64 7, .int .i64 4, .int .i64 1] 3) := ⟨_, rfl⟩
  have hb11 : Below w10.heap.size w10 W11 := by rw [hW11]; exact below_alloc _ _
  have y11 : Sl1 (Value.int .i64) W11 (some ⟨w10.heap.size, 0, none⟩) 3 [7, 4, 1] := by rw [hW11]; exact Sl1.lay (Value.int .i64) w10 [7, 4, 1] _ _ rfl
  have hC11 := hC10.below hb11
  have H11 := Lib.hid (rints_any au (some ⟨w10.heap.size, 0, none⟩) 3 cu 3 3 _ _ W11 (hu10.keep hb11) y11 (by decide))
  rw [show decide (([7, 4, 1] : List Int) = [7, 4, 1]) = true from decide_eq_true rfl] at H11
  go_wp2_with fail
  rw [← hW11]
  clear hW11 y11 hC10 hu10 hb11
  refine H11.out.mono ?_
  rintro e w12 ⟨rfl, hb12⟩
  have hC12 := hC11.below hb12
  clear hC11 hb12 H11
  obtain ⟨c0, c1, c2, c3⟩ := hC12.cells
  have H13 := Lib.hid (most9_yes _ (trieP heE) _ heE w12 hC12.tri (by show 8 ≤ 140737488351232; decide) heE_read)
  rw [heE_n, heE_m] at H13
  go_wp2_with fail
  refine H13.out.mono ?_
  rintro e w13 ⟨rfl, hb13⟩
  have hC13 := hC12.below hb13
  clear hC12 hb13 H13 c0 c1 c2 c3
  have H14 := Lib.hid (most9_no t00 T00 w13 (tri00 w13) (by decide) read00)
  go_wp2_with fail
  refine H14.out.mono ?_
  rintro e w14 ⟨rfl, hb14⟩
  have hBf := (hC13.below hb14).bel
  go_wp2
  go_ret
  exact ⟨rfl, hBf⟩

end Go.Proofs.YtifcoalhkcflnaaGreat

/- Nodes' words by recursion (layer 9): plain. -/

namespace Go.Proofs.YtifcoalhkcflnaaGreat
set_option linter.unusedVariables false

theorem words9_zero (ws : List (List Int)) : words9 ws 0 = [] := by
  unfold words9 ends9
  rw [endsN_zero]
  rfl
theorem words9_rec {ws : List (List Int)} {z : Nat} {v : Int} (h0 : 0 < z) (hz : z < (nodesL ws).length) (hv : (trieP ws).wrd[z]? = some v) : words9 ws z = (if 0 ≤ v then [v] else []) ++ words9 ws (nx ws z) := by
  unfold words9
  rw [ends9_rec h0 hz, hv, Option.getD_some, List.map_append]
  congr 1
  split
  · rw [List.map_cons, hv]; rfl
  · rfl
theorem slK_of_sl1 {w : Go.World} {a : Option Go.Addr} {n : Nat} {l : List Int} (h : Sl1 (Go.Value.int .i64) w a n l) : SlK 1 w a n (l.map (Go.Value.int .i64)) := by
  obtain ⟨h1, h2⟩ := h
  refine ⟨by rw [List.length_map]; omega, h2.imp id fun ⟨b, off, e, hlt, hc⟩ => ⟨b, off, e, hlt, fun i u hu => ?_⟩⟩
  rw [List.getElem?_map] at hu
  cases hl : l[i]? with
  | none => rw [hl] at hu; cases hu
  | some x => rw [hl] at hu; injection hu with hu; subst hu; exact hc i x hl
theorem wrd_root {ws : List (List Int)} (h : ∀ x ∈ ws, x.length ≠ 0) {v : Int} (hv : (trieP ws).wrd[0]? = some v) : v < 0 := by
  have e : (trieP ws).wrd = (nodesL ws).map fun x => placeS ws x := rfl
  rw [e, List.getElem?_map, nodesL_head] at hv
  injection hv with hv
  rw [← hv]
  show placeS ws [] < 0
  unfold placeS
  rw [if_neg (fun hm => h [] hm rfl)]
  decide
/-- A node's words: its own one, if it is a word, and then those of its next one. -/
theorem want_law {ws : List (List Int)} {z p : Nat} {v : Int} {L : List Int} (h : ∀ x ∈ ws, x.length ≠ 0) (hz : z < (nodesL ws).length) (hv : (trieP ws).wrd[z]? = some v) (hp : nx ws z = p) (hL : L = if 0 ≤ v then [v] else []) : words9 ws z = L ++ words9 ws p := by
  subst hp hL
  by_cases h0 : z = 0
  · subst h0
    have := wrd_root h hv
    rw [nx_zero, words9_zero, if_neg (by omega)]
    rfl
  · exact words9_rec (by omega) hz hv
end Go.Proofs.YtifcoalhkcflnaaGreat

/- What the laws of layer 9 without the document's answer share: plain, and what lies there. -/


namespace Go.Proofs.YtifcoalhkcflnaaGreat
open Go.RowKit Go.Sort
set_option linter.unusedVariables false
set_option linter.unusedSimpArgs false

/-- What the law takes for given of a set. -/
def okB (fold : Bool) (wss : List (List Int)) : Bool := !greatP wss && rightP fold wss
theorem ok_right {fold : Bool} {wss : List (List Int)} (h : okB fold wss = true) : greatP wss = false ∧ rightP fold wss = true ∧ readP (trieP wss) = some (nodesL wss, wss) ∧ wss.length ≤ 64 ∧ (∀ x ∈ wss, x.length ≠ 0 ∧ x.length ≤ 32) := by
  unfold okB at h
  rw [Bool.and_eq_true, Bool.not_eq_true'] at h
  obtain ⟨r1, _, r3, _⟩ := right_spec h.2
  exact ⟨h.1, h.2, readP_iff.2 ⟨right_false h.2, rfl, rfl⟩, r1, r3⟩
theorem wordsP9_one {ws : List (List Int)} {z : Nat} (h : z < (nodesL ws).length) : wordsP9 ws [(z : Int)] = some (words9 ws z) := by
  unfold wordsP9
  rw [if_pos (by simp; omega)]
  simp
theorem wordsP9_no {ws : List (List Int)} {l : List Int} {x : Int} (hx : x ∈ l) (h : ¬ (0 ≤ x ∧ x < (nodesL ws).length)) : wordsP9 ws l = none := by
  unfold wordsP9
  rw [if_neg]
  intro ha
  rw [List.all_eq_true] at ha
  exact h (of_decide_eq_true (ha x hx))
theorem wordsP9_all {ws : List (List Int)} {l : List Int} (h : ∀ x ∈ l, 0 ≤ x ∧ x < (nodesL ws).length) : wordsP9 ws l = some (l.flatMap fun x => words9 ws x.toNat) := by
  unfold wordsP9
  rw [if_pos]
  rw [List.all_eq_true]
  exact fun x hx => decide_eq_true (h x hx)
/-- What lies there all the way. -/
structure CO (w : World) (t : TV) (Q : Nat) (wss : List (List Int)) (W : World) : Prop where
  tri : Tri W t (trieP wss)
  box : W.heap[Q]? = some (.cells t.cells 28 (0, 0))
  bel : Below w.heap.size w W
theorem CO.below {w W V : World} {t : TV} {Q : Nat} {wss : List (List Int)} (h : CO w t Q wss W) (hb : Below W.heap.size W V) : CO w t Q wss V :=
  ⟨h.tri.below hb, (hb.block Q (Array.getElem?_eq_some_iff.1 h.box).1).trans h.box, h.bel.trans (hb.mono h.bel.size)⟩
theorem CO.cells {w W : World} {ua da xa ba : Option Addr} {un uc dn dc xn xc bn bc Q : Nat} {wss : List (List Int)} (h : CO w ⟨ua, un, uc, da, dn, dc, xa, xn, xc, ba, bn, bc⟩ Q wss W) :
    W.cell? ⟨Q, 0, none⟩ = some (.slice ua un uc) ∧ W.cell? ⟨Q, 1, none⟩ = some (.slice da dn dc) ∧ W.cell? ⟨Q, 2, none⟩ = some (.slice xa xn xc) ∧ W.cell? ⟨Q, 3, none⟩ = some (.slice ba bn bc) := by
  have := h.box
  refine ⟨?_, ?_, ?_, ?_⟩ <;> simp [World.cell?, this]
theorem chain9I_yes {ws : List (List Int)} {z : Nat} (h : z < (nodesL ws).length) : chain9I ws (z : Int) = (ends9 ws z).map fun z : Nat => (z : Int) := by
  unfold chain9I
  rw [if_pos ⟨by omega, by omega⟩, Int.toNat_natCast]
theorem chain9I_no {ws : List (List Int)} {x : Int} (h : ¬ (0 ≤ x ∧ x < (nodesL ws).length)) : chain9I ws x = [] := by
  unfold chain9I
  rw [if_neg h]
theorem chain9T_read {T : TrieT} {sp ws : List (List Int)} (h : readP T = some (sp, ws)) (x : Int) : chain9T T x = chain9I ws x := by
  unfold chain9T
  rw [h]
/-- A node's words' nodes lie among the nodes. -/
theorem endsN_mem {nxt wd : List Int} : ∀ {f z y : Nat}, y ∈ endsN nxt wd f z → 0 ≤ (wd[y]?).getD (-1)
  | 0, z, y, h => by simp [endsN] at h
  | f + 1, z, y, h => by
    unfold endsN at h
    split at h
    · simp at h
    · rw [List.mem_append] at h
      rcases h with h | h
      · split at h
        · rw [List.mem_singleton] at h
          subst h
          assumption
        · simp at h
      · exact endsN_mem h
theorem ends9_lt {ws : List (List Int)} {z y : Nat} (h : y ∈ ends9 ws z) : y < (nodesL ws).length := by
  have := endsN_mem h
  have hl := (wrd_len ws).1
  by_cases hy : y < (nodesL ws).length
  · exact hy
  · rw [List.getElem?_eq_none (by omega)] at this
    exact absurd this (by decide)
theorem words9_at {ws : List (List Int)} {z k y : Nat} (h : (ends9 ws z)[k]? = some y) : ∃ v : Int, (trieP ws).wrd[y]? = some v ∧ (words9 ws z)[k]? = some v := by
  have hy := ends9_lt (List.mem_of_getElem? h)
  obtain ⟨v, hv⟩ : ∃ v, (trieP ws).wrd[y]? = some v := ⟨(trieP ws).wrd[y]'(by rw [(wrd_len ws).1]; omega), by simp⟩
  refine ⟨v, hv, ?_⟩
  unfold words9
  rw [List.getElem?_map, h]
  simp [hv]
end Go.Proofs.YtifcoalhkcflnaaGreat

/- Nodes' words are the words that end there, the longest first (layer 9): plain. -/

namespace Go.Proofs.YtifcoalhkcflnaaGreat
set_option linter.unusedVariables false
set_option linter.unusedSimpArgs false

/-- The word that bytes are, by its number. -/
def ownW (ws : List (List Int)) (b : List Int) : List Int := if b ∈ ws then [placeS ws b] else []
/-- The words that end at bytes, the longest first. -/
def sufW (ws : List (List Int)) : List Int → List Int
  | [] => []
  | c :: b => ownW ws (c :: b) ++ sufW ws b
theorem sufW_len (ws : List (List Int)) : ∀ b, (sufW ws b).length ≤ b.length
  | [] => Nat.le_refl _
  | c :: b => by
    have := sufW_len ws b
    unfold sufW ownW
    rw [List.length_append, List.length_cons]
    split <;> simp <;> omega
section
variable {ws : List (List Int)}
theorem sufW_lsf (h0 : [] ∉ ws) : ∀ b, sufW ws (lsf (nodesL ws) b) = sufW ws b
  | [] => by
    have := lsf_suffix (nodesL ws) []
    rw [List.suffix_nil.1 this]
  | c :: b => by
    by_cases h : (c :: b) ∈ nodesL ws
    · rw [lsf_of_mem h]
    · have hn : (c :: b) ∉ ws := fun hm => by
        obtain ⟨w, hw⟩ := List.getElem?_of_mem hm
        obtain ⟨j, _, hj, _⟩ := word_node hw (by simp)
        exact h (List.mem_of_getElem? hj)
      have e : lsf (nodesL ws) (c :: b) = lsf (nodesL ws) b := lsf_next (b := c :: b) (k := 0) (by simp) h
      rw [e, sufW_lsf h0 b]
      conv => rhs; unfold sufW ownW
      rw [if_neg hn, List.nil_append]
theorem wrd_own (h0 : ∀ x ∈ ws, x.length ≠ 0) {z : Nat} {x : List Int} (hx : (nodesL ws)[z]? = some x) : ∃ v : Int, (trieP ws).wrd[z]? = some v ∧ ownW ws x = if 0 ≤ v then [v] else [] := by
  refine ⟨placeS ws x, trie_wrd hx, ?_⟩
  unfold ownW
  by_cases h : x ∈ ws
  · rw [if_pos h, if_pos]
    unfold placeS
    rw [if_pos h]
    omega
  · rw [if_neg h, placeS_no h, if_neg (by decide)]
/-- A node's words are those that end there. -/
theorem words9_suf (h0 : ∀ x ∈ ws, x.length ≠ 0) : ∀ {z : Nat} {x : List Int}, (nodesL ws)[z]? = some x → words9 ws z = sufW ws x := by
  intro z
  have hn0 : [] ∉ ws := fun hm => h0 [] hm rfl
  induction z using Nat.strongRecOn with
  | _ z ih =>
    intro x hx
    have hz := (List.getElem?_eq_some_iff.1 hx).1
    by_cases hz0 : z = 0
    · subst hz0
      rw [nodesL_head] at hx
      have := Option.some.inj hx
      subst this
      exact words9_zero ws
    · have hx0 : x ≠ [] := fun e => hz0 ((node_zero hx).2 e)
      obtain ⟨v, hv, ho⟩ := wrd_own h0 hx
      rw [words9_rec (by omega) hz hv, ← ho]
      obtain ⟨k, h1, _, h3, h4⟩ := links_num hx
      have hkz := h3 (by omega)
      obtain ⟨u, hu, hou⟩ := wrd_own h0 h4
      have hk : words9 ws (nx ws z) = sufW ws (linkL (nodesL ws) x) := by
        rw [nx_rec (by omega) hz h1 hu]
        by_cases hu0 : 0 ≤ u
        · rw [if_pos hu0]
          exact ih k hkz h4
        · rw [if_neg hu0]
          have e := ih k hkz h4
          by_cases hk0 : k = 0
          · subst hk0
            rw [nx_zero]
            exact e
          · rw [words9_rec (by omega) (by omega) hu, if_neg hu0, List.nil_append] at e
            exact e
      rw [hk]
      cases x with
      | nil => exact absurd rfl hx0
      | cons c b =>
        rw [show linkL (nodesL ws) (c :: b) = lsf (nodesL ws) b from rfl, sufW_lsf hn0 b]
        rfl
end

/-- Words that end at bytes, of so many bytes at least; of just so many, those of a number below another one. -/
def sufAt (ws : List (List Int)) (b : List Int) (w : Nat) : List Int := match b with
  | [] => []
  | c :: t => (if (c :: t) ∈ ws.drop w then [placeS ws (c :: t)] else []) ++ sufW ws t
theorem sufAt_cons (ws : List (List Int)) (c : Int) (t : List Int) (w : Nat) : sufAt ws (c :: t) w = (if (c :: t) ∈ ws.drop w then [placeS ws (c :: t)] else []) ++ sufW ws t := rfl
theorem sufW_cons (ws : List (List Int)) (c : Int) (t : List Int) : sufW ws (c :: t) = (if (c :: t) ∈ ws then [placeS ws (c :: t)] else []) ++ sufW ws t := rfl
theorem sufAt_start (ws : List (List Int)) (c : Int) (t : List Int) : sufAt ws (c :: t) 0 = sufW ws (c :: t) := by
  rw [sufAt_cons, sufW_cons, List.drop_zero]
theorem sufAt_end {ws : List (List Int)} {w : Nat} (h : ws.length ≤ w) (c : Int) (t : List Int) : sufAt ws (c :: t) w = sufW ws t := by
  rw [sufAt_cons, List.drop_eq_nil_of_le h]
  simp
theorem sufAt_step {ws : List (List Int)} (hn : ws.Nodup) {w : Nat} {x : List Int} (hx : ws[w]? = some x) (c : Int) (t : List Int) : sufAt ws (c :: t) w = if x = c :: t then (w : Int) :: sufAt ws (c :: t) (w + 1) else sufAt ws (c :: t) (w + 1) := by
  have hw := (List.getElem?_eq_some_iff.1 hx)
  have hwl := hw.1
  have e : ws.drop w = x :: ws.drop (w + 1) := by
    rw [List.drop_eq_getElem_cons hwl, hw.2]
  rw [sufAt_cons, sufAt_cons, e]
  by_cases h : x = c :: t
  · subst h
    have hnd : (c :: t) ∉ ws.drop (w + 1) := by
      have h2 : (ws.drop w).Nodup := hn.sublist (List.drop_sublist w ws)
      rw [e] at h2
      exact (List.nodup_cons.1 h2).1
    rw [if_pos rfl, if_pos (List.mem_cons_self ..), if_neg hnd, placeS_at hn hx]
    rfl
  · rw [if_neg h]
    have : (c :: t) ∈ x :: ws.drop (w + 1) ↔ (c :: t) ∈ ws.drop (w + 1) := by
      rw [List.mem_cons]
      exact ⟨fun hh => hh.elim (fun e => absurd e.symm h) id, .inr⟩
    simp only [this]
end Go.Proofs.YtifcoalhkcflnaaGreat

/- Kids of a node (layer 7): the iterator and Kid, walked. -/

namespace Go.Proofs.YtifcoalhkcflnaaGreat
open Go.RowKit Go.Sort
set_option linter.unusedVariables false
set_option linter.unusedSimpArgs false
attribute [local go_sem] Oper.semAt_some
attribute [local simp] wide_fn wide_depth
attribute [local go_sem] wide_fn wide_depth

/-- The kids of a node, of the first nodes, each with its byte. -/
def kidsTo (T : TrieT) (node : Int) : Nat → List (Int × Nat)
  | 0 => []
  | k + 1 => kidsTo T node k ++ (if 1 ≤ k ∧ T.up[k]? = some node then [((T.byt[k]?).getD 0, k)] else [])
theorem kidsTo_length (T : TrieT) (node : Int) : ∀ k, (kidsTo T node k).length ≤ k
  | 0 => by simp [kidsTo]
  | k + 1 => by
    have := kidsTo_length T node k
    unfold kidsTo
    rw [List.length_append]
    split <;> simp <;> omega
theorem mem_kidsTo {T : TrieT} {node : Int} {p : Int × Nat} : ∀ {k : Nat}, p ∈ kidsTo T node k ↔ 1 ≤ p.2 ∧ p.2 < k ∧ T.up[p.2]? = some node ∧ p.1 = (T.byt[p.2]?).getD 0
  | 0 => by simp [kidsTo]
  | k + 1 => by
    unfold kidsTo
    rw [List.mem_append, mem_kidsTo (k := k)]
    constructor
    · rintro (⟨h1, h2, h3⟩ | h)
      · exact ⟨h1, by omega, h3⟩
      · split at h
        · rename_i hc
          rw [List.mem_singleton] at h
          subst h
          exact ⟨hc.1, by dsimp only; omega, hc.2, rfl⟩
        · cases h
    · rintro ⟨h1, h2, h3, h4⟩
      by_cases e : p.2 = k
      · right
        subst e
        rw [if_pos ⟨h1, h3⟩, List.mem_singleton]
        exact Prod.ext h4 rfl
      · exact .inl ⟨h1, by omega, h3, h4⟩
abbrev KdP := { p : Int × Nat // 0 ≤ p.1 ∧ p.1 ≤ 255 }
def kdEnc (p : KdP) : Array Value := #[.int .u8 p.1.1, .int .i64 (p.1.2 : Int)]

theorem kids_any (g : Nat) (node : Int) (w : World) :
    Calls Tryz.prog 59 #[.pointer (some ⟨g, 0, none⟩), .int .i64 node] w fun e w' => e = .returned (.func (.func 93) #[] #[.pointer (some ⟨w.heap.size, 0, none⟩), .pointer (some ⟨w.heap.size + 1, 0, none⟩)]) ∧
      w' = (w.alloc (.cells #[.pointer (some ⟨g, 0, none⟩)] 67)).alloc (.cells #[.int .i64 node] 3) := by
  go_enter Tryz.func59, Tryz.ntmps59
  go_wp2
  go_ret
  exact ⟨rfl, rfl⟩

set_option maxRecDepth 100000 in
set_option maxHeartbeats 4000000 in
theorem kids_stops (t : TV) (T : TrieT) (g p1 p2 : Nat) (node : Int) (x4 x5 : Value) (n : Nat) (w : World) (hT : Tri w t T) (hn : T.byt.length = T.up.length) (hn4 : T.up.length ≤ 400)
    (hg : w.heap[g]? = some (.cells #[.slice t.ua t.un t.uc, .slice t.da t.dn t.dc, .slice t.xa t.xn t.xc, .slice t.ba t.bn t.bc, x4, x5] 74 (0, 0)))
    (h1 : w.heap[p1]? = some (.cells #[.pointer (some ⟨g, 0, none⟩)] 67 (0, 0))) (h2 : w.heap[p2]? = some (.cells #[.int .i64 node] 3 (0, 0))) :
    SeqStopsK Fence.wide n Tryz.prog 93 #[.pointer (some ⟨p1, 0, none⟩), .pointer (some ⟨p2, 0, none⟩)] kdEnc (keepOn (fun k => k < w.heap.size)) (fun zs => zs.map Subtype.val = kidsTo T node T.up.length) (fun pre => ∀ p ∈ pre.map Subtype.val, p ∈ kidsTo T node T.up.length) 1000001 w := by
  intro l J Jx W hW hJ hJx hY h0
  have hkW : kept w W := kept_below hW
  obtain ⟨ua, un, uc, da, dn, dc, xa, xn, xc, ba, bn, bc⟩ := t
  dsimp only at hg
  have hp1 : p1 < w.heap.size := (Array.getElem?_eq_some_iff.1 h1).1
  have hp2 : p2 < w.heap.size := (Array.getElem?_eq_some_iff.1 h2).1
  have hgl : g < w.heap.size := (Array.getElem?_eq_some_iff.1 hg).1
  have cells : ∀ v : World, kept w v → v.cell? ⟨p1, 0, none⟩ = some (.pointer (some ⟨g, 0, none⟩)) ∧ v.cell? ⟨p2, 0, none⟩ = some (.int .i64 node) ∧ v.cell? ⟨g, 0, none⟩ = some (.slice ua un uc) ∧ v.cell? ⟨g, 3, none⟩ = some (.slice ba bn bc) := by
    intro v hv
    rw [kept_cell hv hp1, kept_cell hv hp2, kept_cell hv hgl, kept_cell hv hgl]
    simp [World.cell?, h1, h2, hg]
  have HT := Lib.hid hT
  have hun : Hid (T.up.length = un) := hT.up.1
  have hbn : bn = un := by have h1 : T.byt.length = bn := hT.byt.1.1; have := hun.out; omega
  have hu4 : un ≤ 400 := by have := hun.out; omega
  subst hbn
  clear hT hn hn4 hg h1 h2
  obtain ⟨c1, c2, c3, c4⟩ := cells W hkW
  refine callsIn_of_wp Tryz.func93 rfl trivial ?_ rfl
  simp only [Tryz.ntmps93, List.size_toArray, List.length_cons, List.length_nil, Nat.reduceAdd, Nat.reduceSub, Array.replicate_succ, Array.replicate_zero, List.push_toArray, List.append_toArray, List.nil_append, List.cons_append]
  gi_wp2
  clear c1 c2 c3 c4
  gi_loopw [4] (fun i wr => ∃ (k : Nat) (pre : List KdP), 1 ≤ k ∧ i = .int .i64 k ∧ Hid (pre.map Subtype.val = kidsTo T node k) ∧ Hid (k ≤ max bn 1) ∧ J pre wr ∧ kept w wr) (fun i _ => bn - (intOf i).toNat)
  case atStart => exact ⟨1, [], Nat.le_refl _, rfl, (by simp [Hid, kidsTo]), Nat.le_max_right _ _, h0, hkW⟩
  case round =>
    obtain ⟨k, pre, hk, rfl, HP, HK, hj, hkr⟩ := hrel
    obtain ⟨c1, c2, c3, c4⟩ := cells wr hkr
    by_cases hlt : k < bn
    · have hdk : decide ((k : Int) < bn) = true := by simp; omega
      obtain ⟨b0, o0, u, e0, hl0, cu0, hu⟩ := sl1_at HT.out.up hlt
      subst e0
      obtain ⟨b3, o3, c, e3, hl3, cb0, hc⟩ := sl1_at HT.out.byt.1 hlt
      subst e3
      have cu : wr.cell? ⟨b0, o0 + k, none⟩ = some (.int .i64 u) := (kept_cell hkr (p := ⟨b0, o0 + k, none⟩) hl0).trans cu0
      have cb : wr.cell? ⟨b3, o3 + k, none⟩ = some (.int .u8 c) := (kept_cell hkr (p := ⟨b3, o3 + k, none⟩) hl3).trans cb0
      have hcr := HT.out.byt.2 c (List.mem_of_getElem? hc)
      have hplen : pre.length ≤ k := by have h1 := congrArg List.length HP.out; have := kidsTo_length T node k; rw [List.length_map] at h1; omega
      have i1 : (0 : Int) ≤ (k : Int) := by omega
      have i2 : (k : Int) < (bn : Int) := by omega
      by_cases hun2 : u = node
      · subst hun2
        have HS : Hid ((pre ++ [(⟨(c, k), hcr⟩ : KdP)]).map Subtype.val = kidsTo T u (k + 1)) := by
          unfold Hid kidsTo
          rw [if_pos ⟨hk, hu⟩, ← HP.out, hc]
          simp
        clear cu0 cb0 hu hc
        gi_wp2
        refine regionR_drawn_tail (wideF _ _) 21 mixed (by kernel_rfl) (by kernel_rfl) ?_
        dsimp only [List.take_succ_cons, List.take_zero, List.drop_succ_cons, List.drop_zero]
        repeat (go_big_quiet_step (fail))
        refine wpQuiet_nil ?_
        rintro _ ⟨nq, rfl⟩
        have hb0 : Below wr.heap.size wr (wr.drewN nq) := ⟨rfl, rfl, rfl, Nat.le_refl _, fun _ _ => rfl⟩
        obtain ⟨fn, tmps, assign, body, hyl, hRo⟩ := hY pre ⟨(c, k), hcr⟩ (wr.drewN nq) (abides_below hJ hj hb0) (by omega)
        dsimp only [kdEnc] at hyl
        gi_wp2
        refine hRo.mono ?_
        rintro e W4 (⟨rfl, hJ4, hk4⟩ | ⟨rfl, hJx4⟩)
        · gi_wp2
          go_roundw
          case rel => exact ⟨k + 1, _, by omega, by go_num, HS, (by unfold Hid; omega), hJ4, keepOn_t hkr hk4⟩
          case measure => simp [intOf]; omega
        · gi_wp2
          refine bodyPost_ret (results_none rfl _ _ _) rfl ?_
          refine ⟨⟨_, rfl⟩, .inr ⟨_, ?_, hJx4⟩⟩
          rw [HS.out]
          intro p hp
          rw [mem_kidsTo] at hp ⊢
          have := hun.out
          exact ⟨hp.1, by omega, hp.2.2⟩
      · have hd : (u == node) = false := by simpa using hun2
        have HS : Hid (pre.map Subtype.val = kidsTo T node (k + 1)) := by
          unfold Hid kidsTo
          rw [if_neg (fun h => hun2 (by have := h.2; rw [hu] at this; exact Option.some.inj this)), ← HP.out, List.append_nil]
        clear cu0 cb0 hu hc
        gi_wp2
        refine regionR_drawn (wideF _ _) mixed (by kernel_rfl) (by kernel_rfl) ?_
        repeat (go_big_quiet_step (fail))
        refine wpQuiet_nil ?_
        rintro _ ⟨nq, rfl⟩
        have hb0 : Below wr.heap.size wr (wr.drewN nq) := ⟨rfl, rfl, rfl, Nat.le_refl _, fun _ _ => rfl⟩
        have hkr2 : kept w (wr.drewN nq) := hkr
        gi_wp2
        go_roundw
        case rel => exact ⟨k + 1, _, by omega, by go_num, HS, (by unfold Hid; omega), abides_below hJ hj hb0, hkr2⟩
        case measure => simp [intOf]; omega
    · have hdk : decide ((k : Int) < bn) = false := by simp; omega
      gi_wp2
      go_end0
      refine ⟨⟨_, rfl⟩, .inl ⟨pre, ?_, hj⟩⟩
      show pre.map Subtype.val = kidsTo T node T.up.length
      rw [HP.out, hun.out]
      have hmx := HK.out
      by_cases e : bn = 0
      · obtain rfl : k = 1 := by omega
        subst e
        simp [kidsTo]
      · obtain rfl : k = bn := by omega
        rfl

theorem results_cells2 {fn : Func} {p q : Tmp} {tmps : Array Value} {W : World} {B C : Nat} (h : fn.results = #[.cell p 3, .cell q 4]) (hp : tmps.getD p undef = .pointer (some ⟨B, 0, none⟩)) (hq : tmps.getD q undef = .pointer (some ⟨C, 0, none⟩)) {v : Int} {b : Bool} (hB : Boxed W B 3 (.int .i64 v)) (hC : Boxed W C 4 (.bool b)) :
    (results fn tmps).run Tryz.prog W = .ok (.tuple #[.int .i64 v, .bool b]) W := by
  have hp' : tmps[p]?.getD undef = .pointer (some ⟨B, 0, none⟩) := by simpa using hp
  have hq' : tmps[q]?.getD undef = .pointer (some ⟨C, 0, none⟩) := by simpa using hq
  have hc := hB.cell
  have hc2 := hC.cell
  simp [results, h, hp', hq', asAddr, hc, hc2, go_sem, loadVar]

set_option maxRecDepth 100000 in
set_option maxHeartbeats 4000000 in
theorem tkid_any (t : TV) (T : TrieT) (node c : Int) (w : World) (hT : Tri w t T) (hb : t.un ≤ 140737488351232) :
    Calls Tryz.prog 12 #[.agg t.cells, .int .i64 node, .int .u8 c] w fun e w' => ∃ (r : Int) (ok : Bool), e = .returned (.tuple #[.int .i64 r, .bool ok]) ∧ (rightT T = true → KidR T node c r ok) ∧ (rightT T = false → r = 0 ∧ ok = false) ∧ Below w.heap.size w w' := by
  obtain ⟨ua, un, uc, da, dn, dc, xa, xn, xc, ba, bn, bc⟩ := t
  dsimp only at hb
  obtain ⟨W, hW⟩ : ∃ W, W = (((w.alloc (.cells #[.slice ua un uc, .slice da dn dc, .slice xa xn xc, .slice ba bn bc] 28)).alloc (.cells #[.int .u8 c] 5)).alloc (.cells #[.int .i64 0] 3)).alloc (.cells #[.bool false] 4) := ⟨_, rfl⟩
  have hB : Below w.heap.size w W := by rw [hW]; exact (((below_alloc _ _).alloc (by simp only [World.size_alloc]; omega) _).alloc (by simp only [World.size_alloc]; omega) _).alloc (by simp only [World.size_alloc]; omega) _
  have hO : Bx w.heap.size [.cells #[.slice ua un uc, .slice da dn dc, .slice xa xn xc, .slice ba bn bc] 28, .cells #[.int .u8 c] 5, .cells #[.int .i64 0] 3, .cells #[.bool false] 4] W := by
    rw [hW]; exact ((((Bx.nil _ w).snoc _ rfl).snoc _ (by simp)).snoc _ (by simp)).snoc _ (by simp)
  have hT2 := hT.below hB
  have c0 : W.cell? ⟨w.heap.size, 0, none⟩ = some (.slice ua un uc) := hO.cell (i := 0) rfl rfl
  have c1 : W.cell? ⟨w.heap.size, 1, none⟩ = some (.slice da dn dc) := hO.cell (i := 0) rfl rfl
  have c2 : W.cell? ⟨w.heap.size, 2, none⟩ = some (.slice xa xn xc) := hO.cell (i := 0) rfl rfl
  have c3 : W.cell? ⟨w.heap.size, 3, none⟩ = some (.slice ba bn bc) := hO.cell (i := 0) rfl rfl
  have bC : Boxed W (w.heap.size + 1) 5 (.int .u8 c) := hO 1 _ rfl
  have bR : Boxed W (w.heap.size + 1 + 1) 3 (.int .i64 0) := hO 2 _ rfl
  have bK : Boxed W (w.heap.size + 1 + 1 + 1) 4 (.bool false) := hO 3 _ rfl
  clear hO
  refine calls_of_wp_M Tryz.func12 rfl ?_
  simp only [Tryz.ntmps12, List.size_toArray, List.length_cons, List.length_nil, Nat.reduceAdd, Nat.reduceSub, Array.replicate_succ, Array.replicate_zero, List.push_toArray, List.append_toArray, List.nil_append, List.cons_append]
  cases hr : readP T with
  | none =>
    have k1 := Lib.hid (read_no _ T W hT2 hb hr)
    have HZ : Hid (rightT T = false) := by unfold Hid rightT; rw [hr]; rfl
    clear hr hT hT2
    go_upto_region 1 with fail
    rw [← hW]
    clear hW
    go_wp2_with fail
    refine k1.out.mono ?_
    rintro e w1 ⟨rfl, hb1⟩
    have hBf : Below w.heap.size w w1 := hB.trans (hb1.mono hB.size)
    have bR1 : Boxed w1 (w.heap.size + 1 + 1) 3 (.int .i64 0) := (hb1.block _ bR.lt).trans bR
    have bK1 : Boxed w1 (w.heap.size + 1 + 1 + 1) 4 (.bool false) := (hb1.block _ bK.lt).trans bK
    have q1 := bR1.cell
    have q2 := bR1.frozen
    have q3 := bK1.cell
    have q4 := bK1.frozen
    go_wp2
    have bR2 : Boxed ((w1.setCell ⟨w.heap.size + 1 + 1, 0, none⟩ (.int .i64 0)).setCell ⟨w.heap.size + 1 + 1 + 1, 0, none⟩ (.bool false)) (w.heap.size + 1 + 1) 3 (.int .i64 0) := (Below.heap_setCell _ _ _ _ (by simp)).trans (bR1.set _)
    have bK2 : Boxed ((w1.setCell ⟨w.heap.size + 1 + 1, 0, none⟩ (.int .i64 0)).setCell ⟨w.heap.size + 1 + 1 + 1, 0, none⟩ (.bool false)) (w.heap.size + 1 + 1 + 1) 4 (.bool false) := by
      have t1 : Boxed (w1.setCell ⟨w.heap.size + 1 + 1, 0, none⟩ (.int .i64 0)) (w.heap.size + 1 + 1 + 1) 4 (.bool false) := (Below.heap_setCell _ _ _ _ (by simp)).trans bK1
      exact t1.set _
    refine endN rfl (results_cells2 rfl rfl rfl bR2 bK2) ⟨0, false, rfl, fun h => (by rw [HZ.out] at h; cases h), fun _ => ⟨rfl, rfl⟩, (hBf.setCell (by simp; omega) _).setCell (by simp; omega) _⟩
  | some r =>
    obtain ⟨sp, ws⟩ := r
    have k1 := Lib.hid (read_yes _ T sp ws W hT2 hb hr)
    have HZ : Hid (rightT T = true) := by unfold Hid rightT; rw [hr]; rfl
    have hln : T.byt.length = T.up.length ∧ T.up.length ≤ 400 := by
      unfold readP at hr
      obtain ⟨sp0, h1, _⟩ := Option.bind_eq_some_iff.1 hr
      unfold spO at h1
      split at h1
      · rename_i hc
        exact ⟨hc.2.2.1, hc.2.1⟩
      · cases h1
    clear hr
    go_upto_region 1 with fail
    rw [← hW]
    clear hW
    go_wp2_with fail
    refine k1.out.mono ?_
    rintro e w1 ⟨g, rfl, hRd, hb1⟩
    obtain ⟨sa, sc, wa, wc, hg, hS, hWs, hsc, hwc⟩ := hRd.ex
    dsimp only at hg
    have hBf : Below w.heap.size w w1 := hB.trans (hb1.mono hB.size)
    have bC1 : Boxed w1 (w.heap.size + 1) 5 (.int .u8 c) := (hb1.block _ bC.lt).trans bC
    have bR1 : Boxed w1 (w.heap.size + 1 + 1) 3 (.int .i64 0) := (hb1.block _ bR.lt).trans bR
    have bK1 : Boxed w1 (w.heap.size + 1 + 1 + 1) 4 (.bool false) := (hb1.block _ bK.lt).trans bK
    go_wp2_with (go_at_call 59; refine (kids_any g node w1).mono ?_; rintro e w' ⟨rfl, rfl⟩)
    have bA : ((w1.alloc (.cells #[.pointer (some ⟨g, 0, none⟩)] 67)).alloc (.cells #[.int .i64 node] 3)).heap[w1.heap.size]? = some (.cells #[.pointer (some ⟨g, 0, none⟩)] 67 (0, 0)) := (Boxed.new w1 67 _).alloc _
    have bN : ((w1.alloc (.cells #[.pointer (some ⟨g, 0, none⟩)] 67)).alloc (.cells #[.int .i64 node] 3)).heap[w1.heap.size + 1]? = some (.cells #[.int .i64 node] 3 (0, 0)) := by
      have := Boxed.new (w1.alloc (.cells #[.pointer (some ⟨g, 0, none⟩)] 67)) 3 (.int .i64 node)
      rwa [World.size_alloc] at this
    have hB3 : Below w1.heap.size w1 ((w1.alloc (.cells #[.pointer (some ⟨g, 0, none⟩)] 67)).alloc (.cells #[.int .i64 node] 3)) := (below_alloc _ _).alloc (by simp) _
    generalize ((w1.alloc (.cells #[.pointer (some ⟨g, 0, none⟩)] 67)).alloc (.cells #[.int .i64 node] 3)) = w3 at *
    have hBw : Below w.heap.size w w3 := hBf.trans (hB3.mono hBf.size)
    have hT3 := hT.below hBw
    have hg3 : w3.heap[g]? = _ := (hB3.block g (Array.getElem?_eq_some_iff.1 hg).1).trans hg
    have bC3 : Boxed w3 (w.heap.size + 1) 5 (.int .u8 c) := (hB3.block _ bC1.lt).trans bC1
    have bR3 : Boxed w3 (w.heap.size + 1 + 1) 3 (.int .i64 0) := (hB3.block _ bR1.lt).trans bR1
    have bK3 : Boxed w3 (w.heap.size + 1 + 1 + 1) 4 (.bool false) := (hB3.block _ bK1.lt).trans bK1
    have hsz : w.heap.size + 1 + 1 + 1 < w3.heap.size := bK3.lt
    apply rangeF rfl (enters_of Tryz.func93 (by kernel_rfl) rfl) (kids_stops _ T g w1.heap.size (w1.heap.size + 1) node _ _ 8 w3 hT3 hln.1 hln.2 hg3 bA bN) keepOn_t (keepOn_b fun _ h => h) (fun _ => rfl)
      (fun pre W => Boxed W (w.heap.size + 1) 5 (.int .u8 c) ∧ Boxed W (w.heap.size + 1 + 1) 3 (.int .i64 0) ∧ Boxed W (w.heap.size + 1 + 1 + 1) 4 (.bool false) ∧ Below w.heap.size w W ∧ w3.heap.size ≤ W.heap.size ∧ ∀ p ∈ pre.map Subtype.val, p.1 ≠ c)
      (fun c' pre W => ∃ k : Nat, Boxed W (w.heap.size + 1 + 1) 3 (.int .i64 k) ∧ Boxed W (w.heap.size + 1 + 1 + 1) 4 (.bool true) ∧ Below w.heap.size w W ∧ c' = .ret ∧ (c, k) ∈ pre.map Subtype.val)
    case hI => exact OwnFrom.and (Own.from (boxed_own _ _ _) _) (OwnFrom.and (Own.from (boxed_own _ _ _) _) (OwnFrom.and (Own.from (boxed_own _ _ _) _) (OwnFrom.and (ownFrom_below (Nat.le_refl _) (by omega)) (OwnFrom.and (own_size _ _) (own_pure _ _)))))
    case hIx =>
      intro c' s A C row hs hg hr
      obtain ⟨k, hs⟩ := hs
      have h : OwnFrom w3.heap.size (fun (s : List KdP) (W : World) => Boxed W (w.heap.size + 1 + 1) 3 (.int .i64 k) ∧ Boxed W (w.heap.size + 1 + 1 + 1) 4 (.bool true) ∧ Below w.heap.size w W ∧ (c' = .ret ∧ (c, k) ∈ s.map Subtype.val)) :=
        OwnFrom.and (Own.from (boxed_own _ _ _) _) (OwnFrom.and (Own.from (boxed_own _ _ _) _) (OwnFrom.and (ownFrom_below (Nat.le_refl _) (by omega)) (own_pure _ _)))
      exact ⟨k, h s A C row hs hg hr⟩
    case h0 => exact ⟨bC3, bR3, bK3, hBw, Nat.le_refl _, by simp⟩
    case hassign =>
      intro l x W K hK
      unfold kdEnc
      gi_wp2
      exact hK
    case hbody =>
      rintro l pre ⟨⟨y, k⟩, hy⟩ W ⟨hC, hR, hK, hB, hs, hall⟩ hlen
      have q0 := hC.cell
      have q1 := hR.cell
      have q2 := hR.frozen
      have q3 := hK.cell
      have q4 := hK.frozen
      dsimp only at hy ⊢
      have HALL := Lib.hid hall
      clear hall
      by_cases e : y = c
      · subst e
        have d1 : (y == y) = true := by simp
        gi_wp2
        have kO := ((KeepsOthers.setCell W ⟨w.heap.size + 1 + 1, 0, none⟩ (.int .i64 k)).from w3.heap.size).trans ((KeepsOthers.setCell (W.setCell ⟨w.heap.size + 1 + 1, 0, none⟩ (.int .i64 k)) ⟨w.heap.size + 1 + 1 + 1, 0, none⟩ (.bool true)).from w3.heap.size)
        have bR2 : Boxed ((W.setCell ⟨w.heap.size + 1 + 1, 0, none⟩ (.int .i64 k)).setCell ⟨w.heap.size + 1 + 1 + 1, 0, none⟩ (.bool true)) (w.heap.size + 1 + 1) 3 (.int .i64 k) := (Below.heap_setCell _ _ _ _ (by simp)).trans (hR.set _)
        have bK2 : Boxed ((W.setCell ⟨w.heap.size + 1 + 1, 0, none⟩ (.int .i64 k)).setCell ⟨w.heap.size + 1 + 1 + 1, 0, none⟩ (.bool true)) (w.heap.size + 1 + 1 + 1) 4 (.bool true) := by
          have t1 : Boxed (W.setCell ⟨w.heap.size + 1 + 1, 0, none⟩ (.int .i64 k)) (w.heap.size + 1 + 1 + 1) 4 (.bool false) := (Below.heap_setCell _ _ _ _ (by simp)).trans hK
          exact t1.set _
        exact ⟨kO, k, bR2, bK2, (hB.setCell (by simp; omega) _).setCell (by simp; omega) _, rfl, by simp⟩
      · have d1 : (y == c) = false := by simpa using e
        gi_wp2
        refine ⟨keepsFrom_of_below (Below.refl _ _), keepOn_of_below (Below.refl _ _) (fun k hk => by omega), hC, hR, hK, hB, hs, ?_⟩
        rw [List.map_append]
        intro p hp
        rcases List.mem_append.1 hp with hp | hp
        · exact HALL.out p hp
        · simp at hp; rw [hp]; exact e
    case hdone =>
      rintro D zs W hD hS ⟨hC, hR, hK, hB, hs, hall⟩ hD2
      have q1 := hR.cell
      have q2 := hR.frozen
      have q3 := hK.cell
      have q4 := hK.frozen
      go_wp2
      have bR2 : Boxed (((W.setCell ⟨w.heap.size + 1 + 1, 0, none⟩ (.int .i64 0)).setCell ⟨w.heap.size + 1 + 1 + 1, 0, none⟩ (.bool false)).putObj D (.deferred none)) (w.heap.size + 1 + 1) 3 (.int .i64 0) := (World.putObj_heap_other (by omega)).trans ((Below.heap_setCell _ _ _ _ (by simp)).trans (hR.set _))
      have bK2 : Boxed (((W.setCell ⟨w.heap.size + 1 + 1, 0, none⟩ (.int .i64 0)).setCell ⟨w.heap.size + 1 + 1 + 1, 0, none⟩ (.bool false)).putObj D (.deferred none)) (w.heap.size + 1 + 1 + 1) 4 (.bool false) := by
        have t1 : Boxed (W.setCell ⟨w.heap.size + 1 + 1, 0, none⟩ (.int .i64 0)) (w.heap.size + 1 + 1 + 1) 4 (.bool false) := (Below.heap_setCell _ _ _ _ (by simp)).trans hK
        exact (World.putObj_heap_other (by omega)).trans (t1.set _)
      have hD3 : ((W.setCell ⟨w.heap.size + 1 + 1, 0, none⟩ (.int .i64 0)).setCell ⟨w.heap.size + 1 + 1 + 1, 0, none⟩ (.bool false)).heap[D]? = some (.deferred (some [])) := (Below.heap_setCell _ _ _ _ (by simp; omega)).trans ((Below.heap_setCell _ _ _ _ (by simp; omega)).trans hD2)
      refine endM rfl hD3 (results_cells2 rfl rfl rfl bR2 bK2) ⟨0, false, rfl, fun _ => ⟨fun h => (by cases h), fun _ => ⟨rfl, fun k hk => ?_⟩⟩, fun h => (by rw [HZ.out] at h; cases h), put_below ((hB.setCell (by simp; omega) _).setCell (by simp; omega) _) (by omega) (Nat.le_refl _) _⟩
      obtain ⟨h1, h2, h3, h4⟩ := hk
      refine hall (c, k) ?_ rfl
      rw [hS, mem_kidsTo]
      exact ⟨h1, h2, h3, by rw [h4]; rfl⟩
    case hstop =>
      rintro D c' pre W hD hS ⟨k, hR, hK, hB, rfl, hm⟩ hD2
      go_wp2
      have bT : Boxed (W.putObj D (.deferred none)) (w.heap.size + 1 + 1) 3 (.int .i64 k) := (World.putObj_heap_other (by omega)).trans hR
      have bT2 : Boxed (W.putObj D (.deferred none)) (w.heap.size + 1 + 1 + 1) 4 (.bool true) := (World.putObj_heap_other (by omega)).trans hK
      refine endM rfl hD2 (results_cells2 rfl rfl rfl bT bT2) ⟨k, true, rfl, fun _ => ⟨fun _ => ⟨k, rfl, ?_⟩, fun h => by cases h⟩, fun h => (by rw [HZ.out] at h; cases h), put_below hB (by omega) (Nat.le_refl _) _⟩
      have := mem_kidsTo.1 (hS _ hm)
      dsimp only at this
      obtain ⟨h1, h2, h3, h4⟩ := this
      refine ⟨h1, h2, h3, ?_⟩
      rw [List.getElem?_eq_getElem (by rw [hln.1]; exact h2)] at h4 ⊢
      rw [h4]
      rfl

end Go.Proofs.YtifcoalhkcflnaaGreat

/- A trie in memory of its own (layer 7, the document's way): walked. Printed by gen_v7.py. -/


namespace Go.Proofs.YtifcoalhkcflnaaGreat
open Go.RowKit Go.Sort
set_option linter.unusedVariables false
set_option linter.unusedSimpArgs false

theorem i64_one (x : Int) : (Value.int .i64 x).oneCell' = true := rfl
theorem i64_infoP : (Tryz.prog.info? 3).map (fun i => (i.zero, i.size, i.bytes)) = some (some (.int .i64 0), 1, 8) := by kernel_rfl
theorem results_trie1 {fn : Func} {p : Tmp} {tmps : Array Value} {W : World} {B : Nat} {x y z v : Value} (h : fn.results = #[.cell p 28]) (hp : tmps.getD p undef = .pointer (some ⟨B, 0, none⟩)) (hB : W.heap[B]? = some (.cells #[x, y, z, v] 28 (0, 0))) :
    (results fn tmps).run Tryz.prog W = .ok (.agg #[x, y, z, v]) W :=
  results_cell_row h _ W B 28 #[x, y, z, v] _ _ hp hB Tryz.underlying28 rfl (by kernel_rfl)
/-- A trie of the call's own. -/
structure OTri (W : World) (base : Nat) (t : TV) (T : TrieT) : Prop where
  up : W.ownsRow base 3 1 (.slice t.ua t.un t.uc) t.un (T.up.map (Value.int .i64))
  dep : W.ownsRow base 3 1 (.slice t.da t.dn t.dc) t.dn (T.dep.map (Value.int .i64))
  wrd : W.ownsRow base 3 1 (.slice t.xa t.xn t.xc) t.xn (T.wrd.map (Value.int .i64))
  byt : W.ownsRow base 5 1 (.slice t.ba t.bn t.bc) t.bn (T.byt.map (Value.int .u8))
  bd : ∀ c ∈ T.byt, 0 ≤ c ∧ c ≤ 255
  s1 : sep (.slice t.ua t.un t.uc) (.slice t.da t.dn t.dc)
  s2 : sep (.slice t.ua t.un t.uc) (.slice t.xa t.xn t.xc)
  s3 : sep (.slice t.ua t.un t.uc) (.slice t.ba t.bn t.bc)
  s4 : sep (.slice t.da t.dn t.dc) (.slice t.xa t.xn t.xc)
  s5 : sep (.slice t.da t.dn t.dc) (.slice t.ba t.bn t.bc)
  s6 : sep (.slice t.xa t.xn t.xc) (.slice t.ba t.bn t.bc)
theorem row_cap {w : World} {base n : Nat} {e : TypeId} {a : Option Addr} {m c : Nat} {xs : List Value} (h : w.ownsRow base e 1 (.slice a m c) n xs) : m ≤ c := by
  rcases h.2 with ⟨h', _⟩ | ⟨g', cap', cur, h', _, hg, hnc, _⟩
  · injection h' with h1 h2 h3; omega
  · injection h' with h1 h2 h3; omega
theorem OTri.tri {W : World} {base : Nat} {t : TV} {T : TrieT} (h : OTri W base t T) : Tri W t T :=
  ⟨own_sl h.up, own_sl h.dep, own_sl h.wrd, ⟨own_sl h.byt, h.bd⟩, row_cap h.up, row_cap h.dep, row_cap h.wrd, row_cap h.byt⟩
theorem OTri.below {W V : World} {base : Nat} {t : TV} {T : TrieT} (h : OTri W base t T) (hb : Below W.heap.size W V) : OTri V base t T :=
  ⟨own_below_ h.up hb, own_below_ h.dep hb, own_below_ h.wrd hb, own_below_ h.byt hb, h.bd, h.s1, h.s2, h.s3, h.s4, h.s5, h.s6⟩
theorem own_fresh {v lit : Value} {p : Nat} (hl : lit.ownBlock = some p) (h : v.ownBlock = lit.ownBlock ∨ v.ownBlock = some (p + 1)) : ∀ k, v.ownBlock = some k → p ≤ k := fun k hk => by
  rcases h with e | e
  · rw [hl, hk] at e; injection e with e; omega
  · rw [hk] at e; injection e with e; omega
theorem sep_of_lt {u v : Value} {n : Nat} (hu : ∀ k, u.ownBlock = some k → k < n) (hv : ∀ k, v.ownBlock = some k → n ≤ k) : sep u v := fun k h1 h2 => by have := hu k h1; have := hv k h2; omega
theorem grown_box {W V : World} {B : Nat} {o : Obj} (hg : (W.alloc o).grownBy V (some W.heap.size)) (hB : B < W.heap.size) : V.heap[B]? = W.heap[B]? :=
  (hg.block B (by simp; omega) (by simp; omega)).trans (Below.heap_alloc _ _ _ hB)
theorem grown_below2 {B : Nat} {W0 W V : World} {o : Obj} (hB : Below B W0 W) (hg : (W.alloc o).grownBy V (some W.heap.size)) (hn : B ≤ W.heap.size) : Below B W0 V :=
  (hB.alloc hn o).grown hg (by simp; omega) (fun k e => by injection e with e; omega)
theorem row_keep {W V : World} {base n size : Nat} {e : TypeId} {v : Value} {xs : List Value} {o : Obj} (h : W.ownsRow base e size v n xs) (hg : (W.alloc o).grownBy V (some W.heap.size)) : V.ownsRow base e size v n xs :=
  (h.alloc o).kept hg (by
    cases hv : v.ownBlock with
    | none => exact .inl rfl
    | some k => exact .inr (fun e => by have := (row_lt h k hv).2; injection e with e; omega))
theorem row_mono {w : World} {base base' n size : Nat} {e : TypeId} {v : Value} {xs : List Value} (h : w.ownsRow base e size v n xs) (hb : base' ≤ base) : w.ownsRow base' e size v n xs :=
  ⟨h.1, h.2.imp id fun ⟨g, cap, cur, h1, h2, r⟩ => ⟨g, cap, cur, h1, by omega, r⟩⟩
theorem lit_nil (w : World) (e : TypeId) {base : Nat} (hb : base ≤ w.heap.size) : (w.alloc (.cells #[] e)).ownsRow base e 1 (.slice (some ⟨w.heap.size, 0, none⟩) 0 0) 0 [] :=
  World.ownsRow_lit w #[] 0 hb (by decide) rfl

end Go.Proofs.YtifcoalhkcflnaaGreat

/- Opening the arguments of laws: integers, configurations, slices of integers. -/







namespace Go.Proofs.YtifcoalhkcflnaaGreat
open Go.ChangeShapes Go.WideShapes Go.ChangeAt Go.RowKit Go.Joins
open Go.ChangeMaps (open_string shut_string)
set_option linter.unusedVariables false
set_option linter.unusedSimpArgs false

theorem own : ownKnob Tryz.prog.godebug = none := by kernel_rfl
theorem laidOut : laidOutB Tryz.prog = true := by kernel_rfl
theorem cells_int : Tryz.prog.cellsOf 3 = 1 := by kernel_rfl

section
variable {H : Type} {enc : TypeId × Value → H} {W : World} {r : Reach} {base : Nat} {d : DataW H} {p : List MemPlace} {v : Value}

theorem array7 {α : Type} {cs : Array α} (h : cs.size = 7) : ∃ c0 c1 c2 c3 c4 c5 c6, cs = #[c0, c1, c2, c3, c4, c5, c6] := by
  obtain ⟨l⟩ := cs
  match l, h with
  | [c0, c1, c2, c3, c4, c5, c6], _ => exact ⟨c0, c1, c2, c3, c4, c5, c6, rfl⟩

set_option maxRecDepth 100000 in
theorem open_i64 (hv : Value.okWide Tryz.prog W r base 3 v) (h : DataW.Trod enc Tryz.prog W 0 (fun _ => true) true 3 v d p) :
    ∃ n : Int, v = .int .i64 n ∧ -9223372036854775808 ≤ n ∧ n ≤ 9223372036854775807 := by
  obtain ⟨n, rfl, _, _, hw⟩ := open_int Tryz.underlying3 hv h
  refine ⟨n, rfl, ?_⟩
  simp [Lit.wf, IntKind.min, IntKind.max, IntKind.signed, IntKind.bits] at hw
  omega

set_option maxRecDepth 100000 in
theorem open_sl_i64 (hv : Value.okWide Tryz.prog W r base 25 v) (h : DataW.Trod enc Tryz.prog W 0 (fun _ => true) true 25 v d p) :
    ∃ (a : Option Addr) (len cap : Nat) (zs : List Int), v = .slice a len cap ∧ Sl1 (Value.int .i64) W a len zs := by
  obtain ⟨a, len, cap, rfl⟩ := okWide_slice Tryz.underlying25 hv
  refine ⟨a, len, cap, ?_⟩
  obtain ⟨fuel, hf⟩ := h
  rcases open_ints Tryz.underlying25 Tryz.underlying3 (by kernel_rfl) hf with ⟨hcs, _⟩ | ⟨x, l, c, zs, hcs, _, hl, hm, hz, _, hcell, hwz⟩
  · simp [Value.cells] at hcs
    obtain ⟨rfl, rfl, rfl⟩ := hcs
    exact ⟨[], rfl, rfl, .inl rfl⟩
  · simp [Value.cells] at hcs
    obtain ⟨rfl, rfl, rfl⟩ := hcs
    have hz' : zs.length = cap := by simpa using hz
    refine ⟨zs.take len, rfl, by simp; omega, ?_⟩
    by_cases h0 : len = 0
    · exact .inl h0
    · right
      obtain ⟨b, off, spot⟩ := x
      have hc := hcell 0 (by omega)
      have hspot : spot = none := by simpa [Addr.add] using World.cell?_spot hc
      subst hspot
      refine ⟨b, off, rfl, ?_, ?_⟩
      · have := World.block_lt_of_cell? W _ hc
        simpa [Addr.add] using this
      · intro i x hx
        have hi : i < len := by have := (List.getElem?_eq_some_iff.1 hx).1; simp at this; omega
        have h1 := hcell i (by omega)
        rw [Addr.add_lit] at h1
        rw [h1]
        rw [List.getElem?_take, if_pos hi] at hx
        simp [hx]
end

end Go.Proofs.YtifcoalhkcflnaaGreat

/- Opening the arguments of laws: sets, slices of bytes, hits, slices of hits. -/



namespace Go.Proofs.YtifcoalhkcflnaaGreat
open Go.ChangeShapes Go.WideShapes Go.ChangeAt Go.RowKit Go.Joins Go.Deep
set_option linter.unusedVariables false
set_option linter.unusedSimpArgs false
set_option maxRecDepth 100000

theorem cells_Set : Tryz.prog.cellsOf 24 = 2 := by kernel_rfl
theorem cells_bool : Tryz.prog.cellsOf 4 = 1 := by kernel_rfl
theorem cells_u8 : Tryz.prog.cellsOf 5 = 1 := by kernel_rfl
theorem cells_u8s : Tryz.prog.cellsOf 26 = 1 := by kernel_rfl
theorem cells_wds : Tryz.prog.cellsOf 22 = 1 := by kernel_rfl
theorem wf_i64 {n : Int} (h : (Lit.int .i64 n).wf = true) : I64 n := by
  simp [Lit.wf, IntKind.min, IntKind.max, IntKind.signed, IntKind.bits] at h
  exact ⟨by omega, by omega⟩
theorem wf_u8 {n : Int} (h : (Lit.int .u8 n).wf = true) : 0 ≤ n ∧ n ≤ 255 := by
  simp [Lit.wf, IntKind.min, IntKind.max, IntKind.signed, IntKind.bits] at h
  omega

section
variable {H : Type} {enc : TypeId × Value → H} {W : World} {r : Reach} {base : Nat} {d : DataW H} {p : List MemPlace} {v : Value}

theorem open_sl_u8 (hv : Value.okWide Tryz.prog W r base 26 v) (h : DataW.Trod enc Tryz.prog W 0 (fun _ => true) true 26 v d p) :
    ∃ (a : Option Addr) (len cap : Nat) (zs : List Int), v = .slice a len cap ∧ Bys W a len zs ∧ len ≤ cap ∧ cap ≤ maxLen := by
  obtain ⟨a, len, cap, rfl⟩ := okWide_slice Tryz.underlying26 hv
  obtain ⟨fuel, hf⟩ := h
  rcases open_ints Tryz.underlying26 Tryz.underlying5 (by kernel_rfl) hf with ⟨hcs, _⟩ | ⟨x, l, c, zs, hcs, _, hl, hm, hz, _, hcell, hwz⟩
  · simp [Value.cells] at hcs
    obtain ⟨rfl, rfl, rfl⟩ := hcs
    exact ⟨none, 0, 0, [], rfl, Bys.nil _ _, Nat.le_refl _, by unfold maxLen; omega⟩
  · simp [Value.cells] at hcs
    obtain ⟨rfl, rfl, rfl⟩ := hcs
    have hz' : zs.length = cap := by simpa using hz
    refine ⟨_, len, _, zs.take len, rfl, ⟨⟨by simp; omega, ?_⟩, fun n hn => wf_u8 (hwz n (List.mem_of_mem_take hn))⟩, hl, hm⟩
    by_cases h0 : len = 0
    · exact .inl h0
    · right
      obtain ⟨b, off, spot⟩ := x
      have hc := hcell 0 (by omega)
      obtain rfl : spot = none := by simpa [Addr.add] using World.cell?_spot hc
      refine ⟨b, off, rfl, ?_, fun i u hu => ?_⟩
      · have := World.block_lt_of_cell? W _ hc
        rwa [add_plain] at this
      · have hi : i < len := by have := (List.getElem?_eq_some_iff.1 hu).1; simp at this; omega
        have h1 := hcell i (by omega)
        rw [add_plain] at h1
        rw [h1]
        rw [List.getElem?_take, if_pos hi] at hu
        simp [hu]

/-- The cells of a row of texts, read. -/
theorem wds_cells {fuel : Nat} {v : Value} {x : DataW H × List MemPlace} (h : DataW.trod enc Tryz.prog W 0 (fun _ => true) true fuel 22 [v] = some x) : ∃ (a : Option Addr) (len cap : Nat) (wss : List (List Int)), v = .slice a len cap ∧ Wds W a len wss ∧ len ≤ cap ∧ cap ≤ maxLen := by
  rcases open_int_rows Tryz.underlying22 Tryz.underlying26 Tryz.underlying5 cells_u8s cells_u8 h with ⟨hcs, _⟩ | ⟨x, len, cap, A, L, C, Z, hcs, _, hl, hm, _, hi⟩
  · simp at hcs
    exact ⟨none, 0, 0, [], hcs, ⟨[], ⟨rfl, .inl rfl⟩, rfl, fun i v xs h => by simp at h⟩, Nat.le_refl _, by unfold maxLen; omega⟩
  · simp at hcs
    refine ⟨some x, len, cap, (List.range len).map fun i => (Z i).take (L i), hcs, ⟨(List.range len).map fun i => (A i, L i, C i), ⟨by simp, ?_⟩, by simp, fun i v xs hv hx => ?_⟩, hl, hm⟩
    · by_cases h0 : len = 0
      · exact .inl h0
      · right
        obtain ⟨b, off, spot⟩ := x
        have hc := (hi 0 (by omega)).1
        obtain rfl : spot = none := by simpa [Addr.add] using World.cell?_spot hc
        refine ⟨b, off, rfl, ?_, fun i u hu => ?_⟩
        · have := World.block_lt_of_cell? W _ hc
          rwa [add_plain] at this
        · have hil : i < len := by have := (List.getElem?_eq_some_iff.1 hu).1; simpa using this
          simp [hil] at hu
          have h1 := (hi i (by omega)).1
          rw [add_plain] at h1
          rw [h1, ← hu]
    · have hil : i < len := by have := (List.getElem?_eq_some_iff.1 hv).1; simpa using this
      simp [hil] at hv hx
      subst hv hx
      obtain ⟨_, hLC, hCm, hZ, hwf, hAn, hA⟩ := hi i (by omega)
      refine ⟨⟨⟨by simp; omega, ?_⟩, fun n hn => wf_u8 (hwf n (List.mem_of_mem_take hn))⟩, hLC⟩
      by_cases h0 : L i = 0
      · exact .inl h0
      · right
        cases hAi : A i with
        | none => have := hAn hAi; omega
        | some y =>
          obtain ⟨_, hc⟩ := hA y hAi
          obtain ⟨b, off, spot⟩ := y
          have hc0 := hc 0 (by omega)
          obtain rfl : spot = none := by simpa [Addr.add] using World.cell?_spot hc0
          refine ⟨b, off, rfl, ?_, fun j u hu => ?_⟩
          · have := World.block_lt_of_cell? W _ hc0
            rwa [add_plain] at this
          · have hj : j < L i := by have := (List.getElem?_eq_some_iff.1 hu).1; simp at this; omega
            have h1 := hc j (by omega)
            rw [add_plain] at h1
            rw [h1]
            rw [List.getElem?_take, if_pos hj] at hu
            simp [hu]

theorem open_set (hv : Value.okWide Tryz.prog W r base 24 v) (h : DataW.Trod enc Tryz.prog W 0 (fun _ => true) true 24 v d p) :
    ∃ (fold : Bool) (a : Option Addr) (len cap : Nat) (wss : List (List Int)), v = .agg #[.bool fold, .slice a len cap] ∧ Wds W a len wss ∧ len ≤ cap ∧ cap ≤ maxLen := by
  obtain ⟨cs, rfl, hsz⟩ := okWide_struct Tryz.underlying24 hv
  obtain ⟨l⟩ := cs
  match l, hsz.trans cells_Set with
  | [c0, c1], _ =>
    obtain ⟨fuel, hf⟩ := h
    obtain ⟨xs, n, _, _, _, hlen, hx⟩ := DataW.trod_struct Tryz.underlying24 hf
    have hlen' : xs.length = 2 := hlen
    obtain ⟨y0, hy0⟩ : ∃ y, xs[0]? = some y := ⟨xs[0]'(by omega), by simp⟩
    obtain ⟨y1, hy1⟩ : ∃ y, xs[1]? = some y := ⟨xs[1]'(by omega), by simp⟩
    have h0 := hx 0
    simp only [List.getElem?_toArray, List.getElem?_cons_zero, List.getElem?_cons_succ, Option.some.injEq, forall_eq', cells_bool, hy0] at h0
    obtain ⟨b, e0, _⟩ := DataW.trod_bool Tryz.underlying4 h0
    have h1 := hx 1
    simp only [List.getElem?_toArray, List.getElem?_cons_zero, List.getElem?_cons_succ, Option.some.injEq, forall_eq', cells_wds, hy1] at h1
    simp [Value.cells] at e0 h1
    obtain ⟨a, len, cap, wss, e1, hw, hc, hm⟩ := wds_cells h1
    exact ⟨b, a, len, cap, wss, by rw [e0, e1], hw, hc, hm⟩
end

end Go.Proofs.YtifcoalhkcflnaaGreat
