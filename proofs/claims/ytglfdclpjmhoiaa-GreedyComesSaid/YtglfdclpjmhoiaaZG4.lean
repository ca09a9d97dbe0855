/- Parts of the proof, one behind the other: J1, J4, JA, J2, JB, JC, J3, J5, J6, J7. No condition but what each theorem states. -/
import Derived.Shelf.SlSortFuncK.BreakPatternsK
import Derived.Deep.CutBlock
import Derived.Deep.DeepCutAuto
import Derived.Test.YtglfdclpjmhoiaaZG3
set_option linter.unusedVariables false
set_option linter.unusedSimpArgs false

/- The insertion sort of a segment of hits, walked. -/

namespace Go.Proofs.Ytglfdclpjmhoiaa
open Go.RowKit Go.Sort

/-- A world within the sort. -/
structure SSt (C : World → Prop) (w : World) (g cap : Nat) (c : List HitP) (W : World) : Prop where
 row : RowAt W g cap c
 ctx : C W
 grown : w.grownBy W (some g)
theorem SSt.below {cf : FuncId} {rv : Value} {ord : HitP → HitP → Int} {S : HitP → Prop} {C : World → Prop} {g cap : Nat} {c : List HitP} {w W W' : World} (hB : CmpB cf rv ord S C g) (h : SSt C w g cap c W) (hb : Below W.heap.size W W') : SSt C w g cap c W' :=
 ⟨h.row.below hb, hB.below _ _ h.ctx hb, h.grown.trans (gb_of_below hb g)⟩
theorem SSt.start {C : World → Prop} {w : World} {g cap : Nat} {c : List HitP} (h : RowAt w g cap c) (hC : C w) : SSt C w g cap c w := ⟨h, hC, World.grownBy.refl _ _⟩
theorem SSt.trans {C : World → Prop} {w W V : World} {g cap : Nat} {c d : List HitP} (h : SSt C w g cap c W) (k : SSt C W g cap d V) : SSt C w g cap d V := ⟨k.row, k.ctx, h.grown.trans k.grown⟩
/-- Two elements exchanged: the world that the statement leaves. -/
theorem SSt.swap {cf : FuncId} {rv : Value} {ord : HitP → HitP → Int} {S : HitP → Prop} {C : World → Prop} {g cap i j : Nat} {c : List HitP} {x y : HitP} {w W : World} (hB : CmpB cf rv ord S C g) (hi : i < c.length) (hj : j < c.length) (hx : nth c i = x) (hy : nth c j = y) (h : SSt C w g cap c W) :
  SSt C w g cap (swp c i j) ((((W.setCell ⟨g, i * 2, none⟩ (.int .i64 y.1)).setCell ⟨g, i * 2 + 1, none⟩ (.int .i64 y.2)).setCell ⟨g, j * 2, none⟩ (.int .i64 x.1)).setCell ⟨g, j * 2 + 1, none⟩ (.int .i64 x.2)).drew := by
 subst hx hy
 have r1 := (h.row.set (k := i) hi (nth c j)).set (k := j) (by simpa using hj) (nth c i)
 have c1 := hB.store _ (j * 2 + 1) (.int .i64 (nth c i).2) (hB.store _ (j * 2) (.int .i64 (nth c i).1) (hB.store _ (i * 2 + 1) (.int .i64 (nth c j).2) (hB.store _ (i * 2) (.int .i64 (nth c j).1) h.ctx)))
 have g1 := (((h.grown.trans (grown_set2 W g (i * 2) (.int .i64 (nth c j).1))).trans (grown_set2 _ g (i * 2 + 1) (.int .i64 (nth c j).2))).trans (grown_set2 _ g (j * 2) (.int .i64 (nth c i).1))).trans (grown_set2 _ g (j * 2 + 1) (.int .i64 (nth c i).2))
 generalize (((W.setCell ⟨g, i * 2, none⟩ (.int .i64 (nth c j).1)).setCell ⟨g, i * 2 + 1, none⟩ (.int .i64 (nth c j).2)).setCell ⟨g, j * 2, none⟩ (.int .i64 (nth c i).1)).setCell ⟨g, j * 2 + 1, none⟩ (.int .i64 (nth c i).2) = V at *
 exact ⟨r1.below (below_drew V), hB.below _ _ c1 (below_drew V), g1.trans (gb_of_below (below_drew V) g)⟩
/-- An element's two cells, in the world at hand and in those grown out of it. -/
theorem SSt.cell {C : World → Prop} {w W : World} {g cap : Nat} {c : List HitP} {k : Nat} {x : HitP} (h : SSt C w g cap c W) (hk : k < c.length) (hx : nth c k = x) :
  (W.cell? ⟨g, k * 2, none⟩ = some (.int .i64 x.1) ∧ W.cell? ⟨g, k * 2 + 1, none⟩ = some (.int .i64 x.2)) ∧ (W.frozen? ⟨g, k * 2, none⟩ = false ∧ W.frozen? ⟨g, k * 2 + 1, none⟩ = false) ∧
  (∀ d os, (grow (redrawn W d) os).cell? ⟨g, k * 2, none⟩ = some (.int .i64 x.1)) ∧ (∀ d os, (grow (redrawn W d) os).cell? ⟨g, k * 2 + 1, none⟩ = some (.int .i64 x.2)) := by
 subst hx
 obtain ⟨c0, c1, f0, f1⟩ := h.row.cell hk
 have hl := h.row.lt
 exact ⟨⟨c0, c1⟩, ⟨f0, f1⟩, fun d os => ((below_regrown W d os).cell (p := ⟨g, k * 2, none⟩) hl).trans c0, fun d os => ((below_regrown W d os).cell (p := ⟨g, k * 2 + 1, none⟩) hl).trans c1⟩
theorem SSt.call {cf : FuncId} {rv : Value} {ord : HitP → HitP → Int} {S : HitP → Prop} {C : World → Prop} {g cap : Nat} {c : List HitP} {w W : World} {x y : HitP} (hB : CmpB cf rv ord S C g) (h : SSt C w g cap c W) (hx : S x) (hy : S y) :
  ∀ d os, Calls Try.prog cf #[rv, .agg #[.int .i64 x.1, .int .i64 x.2], .agg #[.int .i64 y.1, .int .i64 y.2]] (grow (redrawn W d) os) fun e w' => e = .returned (.int .i64 (ord x y)) ∧ Below (grow (redrawn W d) os).heap.size (grow (redrawn W d) os) w' :=
 fun d os => hB.calls x y _ hx hy (hB.below _ _ h.ctx (below_regrown W d os))
theorem seg_S {S : HitP → Prop} {a b : Nat} {c d : List HitP} (h : Seg a b c d) (hb : b ≤ c.length) (hl : ∀ x ∈ c, S x) : ∀ x ∈ d, S x := fun x hx => hl x ((h.perm hb).mem_iff.1 hx)

abbrev ltO (ord : HitP → HitP → Int) : HitP → HitP → Prop := fun x y => ord x y < 0

set_option maxRecDepth 100000 in
set_option maxHeartbeats 1500000 in
theorem insSortG_any (cf : FuncId) (rv : Value) (ord : HitP → HitP → Int) (S : HitP → Prop) (C : World → Prop) (g n cap cc a b : Nat) (l : List HitP) (w : World) (hB : CmpB cf rv ord S C g)
  (hO : Ord (ltO ord)) (hl : ∀ h ∈ l, S h) (hln : l.length = n) (hn1 : n ≤ 1000000000000) (hab : a ≤ b) (hbn : b ≤ n) (hC : C w) (hR : RowAt w g cap l) :
  Calls Try.prog 79 #[.slice (some ⟨g, 0, none⟩) n cc, .int .i64 a, .int .i64 b, .func (.func cf) #[rv] #[]] w fun e w' => e = .returned (.tuple #[]) ∧
   ∃ c' : List HitP, Seg a b l c' ∧ Srt (ltO ord) c' a b ∧ SSt C w g cap c' w' := by
 have he := hB.enters
 have HLN := Lib.hid hln
 have HO := Lib.hid hO
 have HB := Lib.hid hB
 have HL := Lib.hid hl
 clear hln hO hB hl
 go_enter Try.func79, Try.ntmps79
 go_wp2
 go_loopw [8, 9] (fun i _ wr => ∃ (k : Nat) (c : List HitP), (k = a + 1 ∨ k ≤ b) ∧ a + 1 ≤ k ∧ i = .int .i64 k ∧ Hid (Seg a b l c ∧ Srt (ltO ord) c a k) ∧ SSt C w g cap c wr) (fun i _ _ => b + 1 - (intOf i).toNat)
 case atStart => exact ⟨a + 1, l, .inl rfl, Nat.le_refl _, by go_num, ⟨Seg.refl _ _ _, Srt.small _ _ (Nat.le_refl _)⟩, SSt.start hR hC⟩
 case round =>
  obtain ⟨k, c, hk, hk1, rfl, HC, hSt⟩ := hrel
  by_cases hlt : k < b
  ·
   have hd : decide ((k : Int) < b) = true := by simp; omega
   go_wp2
   go_loopw [9] (fun j wi => ∃ (m : Nat) (c : List HitP), m ≤ k ∧ a ≤ m ∧ j = .int .i64 m ∧ Hid (Seg a b l c ∧ Ins (ltO ord) c a k m) ∧ SSt C w g cap c wi) (fun j _ => (intOf j).toNat)
   case atStart => exact ⟨k, c, Nat.le_refl _, by omega, rfl, ⟨HC.out.1, Ins.start HC.out.2⟩, hSt⟩
   case round =>
    clear HC hSt
    obtain ⟨m, c, hm, ham, rfl, HC, hSt⟩ := hrel
    have HCL : Hid (c.length = n) := by rw [Hid, HC.out.1.length, HLN.out]
    by_cases h0 : a < m
    ·
     obtain ⟨j, rfl⟩ : ∃ j, m = j + 1 := ⟨m - 1, by omega⟩
     have hcS := seg_S HC.out.1 (by rw [HLN.out]; exact hbn) HL.out
     obtain ⟨x, hx⟩ : ∃ x, nth c (j + 1) = x := ⟨_, rfl⟩
     obtain ⟨y, hy⟩ : ∃ y, nth c j = y := ⟨_, rfl⟩
     have hSx : S x := hx ▸ hcS _ (nth_mem (by rw [HCL.out]; omega))
     have hSy : S y := hy ▸ hcS _ (nth_mem (by rw [HCL.out]; omega))
     obtain ⟨_, _, gx0, gx1⟩ := hSt.cell (k := j + 1) (by rw [HCL.out]; omega) hx
     obtain ⟨_, _, gy0, gy1⟩ := hSt.cell (k := j) (by rw [HCL.out]; omega) hy
     have hcall := hSt.call HB.out hSx hSy
     have HX := Lib.hid hx
     have HY := Lib.hid hy
     clear hx hy hcS
     have hd0 : decide ((a : Int) < (j : Int) + 1) = true := by simp; omega
     go_wp2
     refine wp_region_quiet_below mixed (by kernel_rfl) ?_
     repeat (go_big_quiet_step (exact grown_below (hcall _ _)))
     refine wpQuiet_nil ?_
     rintro _ ⟨⟨dq, osq⟩, rfl⟩
     have hSt2 := hSt.below HB.out (below_regrown wr dq osq)
     clear gx0 gx1 gy0 gy1 hcall hSt
     dsimp only
     obtain ⟨W2, hW2⟩ : ∃ W2, W2 = grow (redrawn wr dq) osq := ⟨_, rfl⟩
     rw [← hW2] at hSt2 ⊢
     clear hW2
     by_cases hxy : ord x y < 0
     ·
      have HXY := Lib.hid hxy
      have hdx : decide (ord x y < 0) = true := by simp [hxy]
      rw [hdx]
      obtain ⟨⟨x0, x1⟩, ⟨fx0, fx1⟩, _, _⟩ := hSt2.cell (k := j + 1) (by rw [HCL.out]; omega) HX.out
      obtain ⟨⟨y0, y1⟩, ⟨fy0, fy1⟩, _, _⟩ := hSt2.cell (k := j) (by rw [HCL.out]; omega) HY.out
      clear hxy hdx
      go_wp2
      go_region
      go_wp2
      have hall := hSt2.swap HB.out (i := j + 1) (j := j) (by rw [HCL.out]; omega) (by rw [HCL.out]; omega) HX.out HY.out
      have hst := Ins.step HO.out HC.out.2 (by omega) (by omega) (by rw [HCL.out]; omega) (by rw [HX.out, HY.out]; exact HXY.out)
      go_roundw
      case rel => exact ⟨j, swp c (j + 1) j, by omega, by omega, by go_num, ⟨HC.out.1.trans (Seg.swap c (by omega) (by omega)), hst⟩, hall⟩
      case measure => simp [intOf]; try omega
     ·
      have hdx : decide (ord x y < 0) = false := by simp [hxy]
      rw [hdx]
      have hs := Ins.stop HO.out HC.out.2 (by omega) (.inr (by rw [Nat.add_sub_cancel, HX.out, HY.out]; exact hxy))
      have HS : Hid (Seg a b l c ∧ Srt (ltO ord) c a (k + 1)) := ⟨HC.out.1, hs⟩
      clear hs hxy hdx
      go_wp2
      go_roundw
      case rel => exact ⟨k + 1, c, .inr (by omega), by omega, by go_num, HS, hSt2⟩
      case measure => simp [intOf]; omega
    ·
     obtain rfl : m = a := by omega
     have HS : Hid (Seg m b l c ∧ Srt (ltO ord) c m (k + 1)) := ⟨HC.out.1, Ins.stop HO.out HC.out.2 (by omega) (.inl (Nat.le_refl _))⟩
     have hd0 : decide ((m : Int) < (m : Int)) = false := by simp
     go_wp2
     go_quiet (fail)
     go_wp2
     go_roundw
     case rel => exact ⟨k + 1, c, .inr (by omega), by omega, by go_num, HS, hSt.below HB.out ⟨rfl, rfl, rfl, Nat.le_refl _, fun _ _ => rfl⟩⟩
     case measure => simp [intOf]; omega
  ·
   have HF : Hid (Seg a b l c ∧ Srt (ltO ord) c a b) := ⟨HC.out.1, fun p q h0 h1 h2 => HC.out.2 p q h0 h1 (by omega)⟩
   go_wp2
   go_end0
   exact ⟨rfl, c, HF.out.1, HF.out.2, hSt⟩

end Go.Proofs.Ytglfdclpjmhoiaa

/- The sort's partitions: plain laws and the state of a round. -/

namespace Go.Proofs.Ytglfdclpjmhoiaa
open Go.RowKit Go.Sort

/-- What stands left of a pivot; what an element that is the pivot's like does. -/
def ltQ (ord : HitP → HitP → Int) (p e : HitP) : Prop := ord e p < 0
def eqQ (ord : HitP → HitP → Int) (p e : HitP) : Prop := ¬ ord p e < 0
def PLq (Q : HitP → HitP → Prop) (c : List HitP) (a x : Nat) : Prop := ∀ k, a + 1 ≤ k → k < x → Q (nth c a) (nth c k)
def PRq (Q : HitP → HitP → Prop) (c : List HitP) (a y b : Nat) : Prop := ∀ k, y < k → k < b → ¬ Q (nth c a) (nth c k)
theorem PLq.step {Q : HitP → HitP → Prop} {c : List HitP} {a x : Nat} (h : PLq Q c a x) (hq : Q (nth c a) (nth c x)) : PLq Q c a (x + 1) := fun k h1 h2 => by
 by_cases e : k = x
 · rw [e]; exact hq
 · exact h k h1 (by omega)
theorem PRq.step {Q : HitP → HitP → Prop} {c : List HitP} {a z b : Nat} (h : PRq Q c a (z + 1) b) (hq : ¬ Q (nth c a) (nth c (z + 1))) : PRq Q c a z b := fun k h1 h2 => by
 by_cases e : k = z + 1
 · rw [e]; exact hq
 · exact h k (by omega) h2
/-- The exchange of what stands wrong on both sides. -/
theorem part_swap {Q : HitP → HitP → Prop} {c : List HitP} {a x y b : Nat} (hL : PLq Q c a x) (hR : PRq Q c a y b) (hx : ¬ Q (nth c a) (nth c x)) (hy : Q (nth c a) (nth c y)) (h1 : a + 1 ≤ x) (h2 : x < y) (h3 : y < b) (hb : b ≤ c.length) :
  PLq Q (swp c x y) a (x + 1) ∧ PRq Q (swp c x y) a (y - 1) b := by
 have ea : nth (swp c x y) a = nth c a := by rw [nth_swp (by omega) (by omega), if_neg (by omega), if_neg (by omega)]
 refine ⟨fun k g1 g2 => ?_, fun k g1 g2 => ?_⟩
 ·
  rw [ea, nth_swp (by omega) (by omega), if_neg (by omega)]
  split
  · exact hy
  · exact hL k g1 (by omega)
 ·
  rw [ea, nth_swp (by omega) (by omega)]
  split
  · exact hx
  ·
   rw [if_neg (by omega)]
   exact hR k (by omega) g2
/-- The pivot put in its place. -/
theorem part_done {ord : HitP → HitP → Int} {c : List HitP} {a y b : Nat} (hL : PLq (ltQ ord) c a (y + 1)) (hR : PRq (ltQ ord) c a y b) (h1 : a ≤ y) (h3 : y < b) (hb : b ≤ c.length) :
  (∀ i, a ≤ i → i < y → ltO ord (nth (swp c y a) i) (nth (swp c y a) y)) ∧ (∀ i, y < i → i < b → ¬ ltO ord (nth (swp c y a) i) (nth (swp c y a) y)) := by
 have ey : nth (swp c y a) y = nth c a := by
  rw [nth_swp (by omega) (by omega)]
  split
  · rename_i e; rw [e]
  · rw [if_pos rfl]
 refine ⟨fun i g1 g2 => ?_, fun i g1 g2 => ?_⟩
 ·
  rw [ey, nth_swp (by omega) (by omega)]
  split
  · exact hL y (by omega) (by omega)
  ·
   rw [if_neg (by omega)]
   exact hL i (by omega) (by omega)
 ·
  rw [ey, nth_swp (by omega) (by omega), if_neg (by omega), if_neg (by omega)]
  exact hR i g1 g2

/-- The state of a round. -/
structure PI (Q : HitP → HitP → Prop) (S : HitP → Prop) (C : World → Prop) (w : World) (g cap n a b : Nat) (l c : List HitP) (x y : Nat) (W : World) : Prop where
 seg : Seg a b l c
 len : c.length = n
 mem : ∀ h ∈ c, S h
 pl : PLq Q c a x
 pr : PRq Q c a y b
 st : SSt C w g cap c W
 piv : nth c a = nth l a
section
variable {Q : HitP → HitP → Prop} {S : HitP → Prop} {C : World → Prop} {w W W' : World} {g cap n a b x y z i j k : Nat} {l c : List HitP} {cf : FuncId} {rv : Value} {ord : HitP → HitP → Int}
theorem PI.start (hn : l.length = n) (hl : ∀ h ∈ l, S h) (h : SSt C w g cap l W) : PI Q S C w g cap n a b l l (a + 1) (b - 1) W :=
 ⟨Seg.refl _ _ _, hn, hl, fun k h1 h2 => by omega, fun k h1 h2 => by omega, h, rfl⟩
theorem PI.below (hB : CmpB cf rv ord S C g) (h : PI Q S C w g cap n a b l c x y W) (hb : Below W.heap.size W W') : PI Q S C w g cap n a b l c x y W' :=
 ⟨h.seg, h.len, h.mem, h.pl, h.pr, h.st.below hB hb, h.piv⟩
theorem PI.up (h : PI Q S C w g cap n a b l c x y W) (hq : Q (nth c a) (nth c x)) : PI Q S C w g cap n a b l c (x + 1) y W :=
 ⟨h.seg, h.len, h.mem, h.pl.step hq, h.pr, h.st, h.piv⟩
theorem PI.down (h : PI Q S C w g cap n a b l c x (z + 1) W) (hq : ¬ Q (nth c a) (nth c (z + 1))) : PI Q S C w g cap n a b l c x z W :=
 ⟨h.seg, h.len, h.mem, h.pl, h.pr.step hq, h.st, h.piv⟩
/-- Two elements, as a test reads them. -/
theorem PI.look (hB : CmpB cf rv ord S C g) (h : PI Q S C w g cap n a b l c x y W) (hk : k < n) (hj : j < n) :
  ∃ u v : HitP, Hid (nth c k = u) ∧ Hid (nth c j = v) ∧
   (∀ d os, (grow (redrawn W d) os).cell? ⟨g, k * 2, none⟩ = some (.int .i64 u.1)) ∧ (∀ d os, (grow (redrawn W d) os).cell? ⟨g, k * 2 + 1, none⟩ = some (.int .i64 u.2)) ∧
   (∀ d os, (grow (redrawn W d) os).cell? ⟨g, j * 2, none⟩ = some (.int .i64 v.1)) ∧ (∀ d os, (grow (redrawn W d) os).cell? ⟨g, j * 2 + 1, none⟩ = some (.int .i64 v.2)) ∧
   ∀ d os, Calls Try.prog cf #[rv, .agg #[.int .i64 u.1, .int .i64 u.2], .agg #[.int .i64 v.1, .int .i64 v.2]] (grow (redrawn W d) os) fun e w' => e = .returned (.int .i64 (ord u v)) ∧ Below (grow (redrawn W d) os).heap.size (grow (redrawn W d) os) w' := by
 have hk' : k < c.length := by rw [h.len]; exact hk
 have hj' : j < c.length := by rw [h.len]; exact hj
 obtain ⟨_, _, g0, g1⟩ := h.st.cell hk' rfl
 obtain ⟨_, _, g2, g3⟩ := h.st.cell hj' rfl
 exact ⟨nth c k, nth c j, rfl, rfl, g0, g1, g2, g3, h.st.call hB (h.mem _ (nth_mem hk')) (h.mem _ (nth_mem hj'))⟩
/-- Two elements, as an exchange reads and writes them. -/
theorem SSt.xch (hB : CmpB cf rv ord S C g) (h : SSt C w g cap c W) (hi : i < c.length) (hj : j < c.length) :
  ∃ u v : HitP, (i = j → u = v) ∧ (W.cell? ⟨g, i * 2, none⟩ = some (.int .i64 u.1) ∧ W.cell? ⟨g, i * 2 + 1, none⟩ = some (.int .i64 u.2)) ∧ (W.frozen? ⟨g, i * 2, none⟩ = false ∧ W.frozen? ⟨g, i * 2 + 1, none⟩ = false) ∧
   (W.cell? ⟨g, j * 2, none⟩ = some (.int .i64 v.1) ∧ W.cell? ⟨g, j * 2 + 1, none⟩ = some (.int .i64 v.2)) ∧ (W.frozen? ⟨g, j * 2, none⟩ = false ∧ W.frozen? ⟨g, j * 2 + 1, none⟩ = false) ∧
   SSt C w g cap (swp c i j) ((((W.setCell ⟨g, i * 2, none⟩ (.int .i64 v.1)).setCell ⟨g, i * 2 + 1, none⟩ (.int .i64 v.2)).setCell ⟨g, j * 2, none⟩ (.int .i64 u.1)).setCell ⟨g, j * 2 + 1, none⟩ (.int .i64 u.2)).drew := by
 obtain ⟨p, q, _, _⟩ := h.cell hi rfl
 obtain ⟨r, s, _, _⟩ := h.cell hj rfl
 exact ⟨nth c i, nth c j, fun e => by rw [e], p, q, r, s, h.swap hB hi hj rfl rfl⟩
theorem PI.swapped (h : PI Q S C w g cap n a b l c x y W) (h' : SSt C w g cap (swp c x y) W') (hx : ¬ Q (nth c a) (nth c x)) (hy : Q (nth c a) (nth c y)) (h1 : a + 1 ≤ x) (h2 : x < y) (h3 : y < b) (hb : b ≤ n) :
  PI Q S C w g cap n a b l (swp c x y) (x + 1) (y - 1) W' := by
 have hs : Seg a b c (swp c x y) := Seg.swap c (by omega) (by omega)
 have hp := part_swap h.pl h.pr hx hy h1 h2 h3 (by rw [h.len]; exact hb)
 exact ⟨h.seg.trans hs, by rw [swp_length, h.len], seg_S hs (by rw [h.len]; exact hb) h.mem, hp.1, hp.2, h', by rw [← h.piv, nth_swp (by have := h.len; omega) (by have := h.len; omega), if_neg (by omega), if_neg (by omega)]⟩
/-- What partition promises. -/
structure Parted (ord : HitP → HitP → Int) (a b : Nat) (l c : List HitP) (m : Nat) : Prop where
 seg : Seg a b l c
 left : ∀ i, a ≤ i → i < m → ltO ord (nth c i) (nth c m)
 right : ∀ i, m < i → i < b → ¬ ltO ord (nth c i) (nth c m)
theorem PI.parted (h : PI (ltQ ord) S C w g cap n a b l c (y + 1) y W) (h1 : a ≤ y) (h2 : y < b) (hb : b ≤ n) : Parted ord a b l (swp c y a) y := by
 have hp := part_done h.pl h.pr h1 h2 (by rw [h.len]; exact hb)
 exact ⟨h.seg.trans (Seg.swap c (by omega) (by omega)), hp.1, hp.2⟩
/-- What partitionEqual promises: those that are like the pivot, then those above it. -/
structure PartEq (ord : HitP → HitP → Int) (a b pv : Nat) (l c : List HitP) (m : Nat) : Prop where
 seg : Seg a b l c
 left : ∀ i, a ≤ i → i < m → ¬ ltO ord (nth l pv) (nth c i)
 right : ∀ i, m ≤ i → i < b → ltO ord (nth l pv) (nth c i)
theorem PI.partEq {k : List HitP} (hO : Ord (ltO ord)) (h : PI (eqQ ord) S C w g cap n a b k c (y + 1) y W) (e : k = swp l a z) (hs : Seg a b l k) (hz : a ≤ z ∧ z < b) (hy : a ≤ y) (hb : b ≤ n) : PartEq ord a b z l c (y + 1) := by
 have hl : l.length = n := by rw [← h.len, h.seg.length, hs.length]
 have hp : nth c a = nth l z := by
  rw [h.piv, e, nth_swp (by omega) (by omega)]
  split
  · rename_i q; rw [q]
  · rw [if_pos rfl]
 refine ⟨hs.trans h.seg, fun i h1 h2 => ?_, fun i h1 h2 => ?_⟩
 ·
  rw [← hp]
  by_cases q : i = a
  · rw [q]; exact hO.irrefl _
  · exact h.pl i (by omega) h2
 ·
  rw [← hp]
  exact Classical.byContradiction fun q => h.pr i (by omega) h2 q
end

end Go.Proofs.Ytglfdclpjmhoiaa

/- The two small functions that breakPatterns calls. -/

namespace Go.Proofs.Ytglfdclpjmhoiaa
open Go.RowKit Go.Sort Go.Shelf

theorem xorNext_any (rb X : Nat) (hX : X < 18446744073709551616) (W : World) (hc : W.cell? ⟨rb, 0, none⟩ = some (.int .u64 X)) (hf : W.frozen? ⟨rb, 0, none⟩ = false) :
  Calls Try.prog 94 #[.pointer (some ⟨rb, 0, none⟩)] W fun e w' => ∃ Y : Nat, Y < 18446744073709551616 ∧ e = .returned (.int .u64 Y) ∧ w' = (W.setCell ⟨rb, 0, none⟩ (.int .u64 Y)).drewN 3 :=
 (AnyF.xorshift_Next (P := Try.prog) (ρ := sortHit_ren) { sortHit with } rb 0 X hX W hc hf).mono fun e w' ⟨h1, h2⟩ => ⟨xorNextN X, xorNextN_lt X hX, h1, h2⟩
theorem nextPow_any (n : Nat) (W : World) (h : n ≤ 1000000000000) : Calls Try.prog 93 #[.int .i64 n] W fun e w' => e = .returned (.int .u64 ((1 <<< bitsLen n : Nat) : Int)) ∧ w' = W :=
 AnyF.nextPowerOfTwo (P := Try.prog) (ρ := sortHit_ren) { sortHit with } n (by omega) W

end Go.Proofs.Ytglfdclpjmhoiaa

/- The sort's helpers that choose a pivot; a segment reversed: walked. -/

namespace Go.Proofs.Ytglfdclpjmhoiaa
open Go.RowKit Go.Sort

/-- A world in which the swaps are counted in a box of their own. -/
structure Pst (C : World → Prop) (w : World) (g cap : Nat) (c : List HitP) (W0 : World) (sb s : Nat) (W : World) : Prop where
 base : SSt C w g cap c W0
 bel : Below W0.heap.size W0 W
 fresh : W0.heap.size ≤ sb
 box : Boxed W sb 3 (.int .i64 s)
section
variable {cf : FuncId} {rv : Value} {ord : HitP → HitP → Int} {S : HitP → Prop} {C : World → Prop} {g cap sb s : Nat} {c : List HitP} {w W0 W W' : World}
theorem Pst.st (hB : CmpB cf rv ord S C g) (h : Pst C w g cap c W0 sb s W) : SSt C w g cap c W := h.base.below hB h.bel
theorem Pst.below (h : Pst C w g cap c W0 sb s W) (hb : Below W.heap.size W W') : Pst C w g cap c W0 sb s W' :=
 ⟨h.base, h.bel.trans (hb.mono h.bel.size), h.fresh, (hb.block _ h.box.lt).trans h.box⟩
theorem Pst.set (h : Pst C w g cap c W0 sb s W) (n : Nat) : Pst C w g cap c W0 sb n (W.setCell ⟨sb, 0, none⟩ (.int .i64 n)) :=
 ⟨h.base, h.bel.setCell (by exact h.fresh) _, h.fresh, h.box.set _⟩
end

def Pk (a b x y : Nat) : Prop := x = a ∧ y = b ∨ x = b ∧ y = a
def In3 (a b d m : Nat) : Prop := m = a ∨ m = b ∨ m = d

set_option maxRecDepth 100000 in
set_option maxHeartbeats 1000000 in
theorem order2_any (cf : FuncId) (rv : Value) (ord : HitP → HitP → Int) (S : HitP → Prop) (C : World → Prop) (g n cap cc a b sb s : Nat) (c : List HitP) (w W0 W : World) (hB : CmpB cf rv ord S C g) (hl : ∀ h ∈ c, S h) (hn : c.length = n) (hn1 : n ≤ 1000000000000) (ha : a < n) (hb : b < n) (hs : s ≤ 1000) (hP : Pst C w g cap c W0 sb s W) :
  Calls Try.prog 101 #[.slice (some ⟨g, 0, none⟩) n cc, .int .i64 a, .int .i64 b, .pointer (some ⟨sb, 0, none⟩), .func (.func cf) #[rv] #[]] W fun e w' =>
   ∃ x y s' : Nat, e = .returned (.tuple #[.int .i64 x, .int .i64 y]) ∧ Pk a b x y ∧ s' ≤ s + 1 ∧ Pst C w g cap c W0 sb s' w' := by
 have he := hB.enters
 have hSt := hP.st hB
 obtain ⟨x, hx⟩ : ∃ x, nth c b = x := ⟨_, rfl⟩
 obtain ⟨y, hy⟩ : ∃ y, nth c a = y := ⟨_, rfl⟩
 have hSx : S x := hx ▸ hl _ (nth_mem (by omega))
 have hSy : S y := hy ▸ hl _ (nth_mem (by omega))
 obtain ⟨_, _, gx0, gx1⟩ := hSt.cell (k := b) (by omega) hx
 obtain ⟨_, _, gy0, gy1⟩ := hSt.cell (k := a) (by omega) hy
 have hcall := hSt.call hB hSx hSy
 have HB := Lib.hid hB
 clear hx hy hn hB hl
 go_enter Try.func101, Try.ntmps101
 go_wp2
 refine wp_region_quiet_below mixed (by kernel_rfl) ?_
 repeat (go_big_quiet_step (exact grown_below (hcall _ _)))
 refine wpQuiet_nil ?_
 rintro _ ⟨⟨dq, osq⟩, rfl⟩
 have hP2 := hP.below (below_regrown W dq osq)
 clear gx0 gx1 gy0 gy1 hcall hSt hP
 dsimp only
 obtain ⟨W2, hW2⟩ : ∃ W2, W2 = grow (redrawn W dq) osq := ⟨_, rfl⟩
 rw [← hW2] at hP2 ⊢
 clear hW2
 by_cases hxy : ord x y < 0
 ·
  have hdx : decide (ord x y < 0) = true := by simp [hxy]
  rw [hdx]
  clear hxy hdx
  have k0 := hP2.box.cell
  have k1 := hP2.box.frozen
  go_wp2
  go_ret2
  exact ⟨b, a, s + 1, rfl, .inr ⟨rfl, rfl⟩, Nat.le_refl _, hP2.set (s + 1)⟩
 ·
  have hdx : decide (ord x y < 0) = false := by simp [hxy]
  rw [hdx]
  clear hxy hdx
  go_wp2
  go_ret2
  exact ⟨a, b, s, rfl, .inl ⟨rfl, rfl⟩, Nat.le_succ _, hP2⟩

set_option maxRecDepth 100000 in
set_option maxHeartbeats 1000000 in
theorem median_any (cf : FuncId) (rv : Value) (ord : HitP → HitP → Int) (S : HitP → Prop) (C : World → Prop) (g n cap cc a b d sb s : Nat) (c : List HitP) (w W0 W : World) (hB : CmpB cf rv ord S C g) (hl : ∀ h ∈ c, S h) (hn : c.length = n) (hn1 : n ≤ 1000000000000) (ha : a < n) (hb : b < n) (hd : d < n) (hs : s ≤ 900) (hP : Pst C w g cap c W0 sb s W) :
  Calls Try.prog 96 #[.slice (some ⟨g, 0, none⟩) n cc, .int .i64 a, .int .i64 b, .int .i64 d, .pointer (some ⟨sb, 0, none⟩), .func (.func cf) #[rv] #[]] W fun e w' =>
   ∃ m s' : Nat, e = .returned (.int .i64 m) ∧ In3 a b d m ∧ s' ≤ s + 3 ∧ Pst C w g cap c W0 sb s' w' := by
 have HB := Lib.hid hB
 have HL := Lib.hid hl
 have HN := Lib.hid hn
 clear hB hl hn
 go_enter Try.func96, Try.ntmps96
 go_wp2_with fail
 refine (order2_any cf rv ord S C g n cap cc a b sb s c w W0 _ HB.out HL.out HN.out hn1 ha hb (by omega) hP).mono ?_
 rintro e W1 ⟨x1, y1, s1, rfl, hp1, hs1, hP1⟩
 have hx1 : x1 < n := by rcases hp1 with ⟨rfl, rfl⟩ | ⟨rfl, rfl⟩ <;> omega
 have hy1 : y1 < n := by rcases hp1 with ⟨rfl, rfl⟩ | ⟨rfl, rfl⟩ <;> omega
 go_wp2_with fail
 refine (order2_any cf rv ord S C g n cap cc y1 d sb s1 c w W0 _ HB.out HL.out HN.out hn1 hy1 hd (by omega) hP1).mono ?_
 rintro e W2 ⟨x2, y2, s2, rfl, hp2, hs2, hP2⟩
 have hx2 : x2 < n := by rcases hp2 with ⟨rfl, rfl⟩ | ⟨rfl, rfl⟩ <;> omega
 go_wp2_with fail
 refine (order2_any cf rv ord S C g n cap cc x1 x2 sb s2 c w W0 _ HB.out HL.out HN.out hn1 hx1 hx2 (by omega) hP2).mono ?_
 rintro e W3 ⟨x3, y3, s3, rfl, hp3, hs3, hP3⟩
 have hin : In3 a b d y3 := by
  unfold In3
  rcases hp1 with ⟨rfl, rfl⟩ | ⟨rfl, rfl⟩ <;> rcases hp2 with ⟨rfl, rfl⟩ | ⟨rfl, rfl⟩ <;> rcases hp3 with ⟨rfl, rfl⟩ | ⟨rfl, rfl⟩ <;> simp
 have HIN := Lib.hid hin
 clear hin hp1 hp2 hp3
 go_wp2
 go_ret
 exact ⟨y3, s3, rfl, HIN.out, by omega, hP3⟩

set_option maxRecDepth 100000 in
set_option maxHeartbeats 1000000 in
theorem medAdj_any (cf : FuncId) (rv : Value) (ord : HitP → HitP → Int) (S : HitP → Prop) (C : World → Prop) (g n cap cc a sb s : Nat) (c : List HitP) (w W0 W : World) (hB : CmpB cf rv ord S C g) (hl : ∀ h ∈ c, S h) (hn : c.length = n) (hn1 : n ≤ 1000000000000) (ha : 1 ≤ a) (hb : a + 1 < n) (hs : s ≤ 900) (hP : Pst C w g cap c W0 sb s W) :
  Calls Try.prog 95 #[.slice (some ⟨g, 0, none⟩) n cc, .int .i64 a, .pointer (some ⟨sb, 0, none⟩), .func (.func cf) #[rv] #[]] W fun e w' =>
   ∃ m s' : Nat, e = .returned (.int .i64 m) ∧ In3 (a - 1) a (a + 1) m ∧ s' ≤ s + 3 ∧ Pst C w g cap c W0 sb s' w' := by
 have HB := Lib.hid hB
 have HL := Lib.hid hl
 have HN := Lib.hid hn
 clear hB hl hn
 obtain ⟨k, rfl⟩ : ∃ k, a = k + 1 := ⟨a - 1, by omega⟩
 have hcall := median_any cf rv ord S C g n cap cc k (k + 1) (k + 1 + 1) sb s c w W0 W HB.out HL.out HN.out hn1 (by omega) (by omega) (by omega) hs hP
 simp only [Int.natCast_add, Int.natCast_one] at hcall
 have HC := Lib.hid hcall
 clear hcall
 go_enter Try.func95, Try.ntmps95
 go_wp2_with fail
 refine HC.out.mono ?_
 rintro e W1 ⟨m, s1, rfl, hin, hs1, hP1⟩
 have HIN := Lib.hid hin
 clear hin
 go_wp2
 go_ret
 exact ⟨m, s1, rfl, HIN.out, hs1, hP1⟩

end Go.Proofs.Ytglfdclpjmhoiaa

/- A cell written in a world and in what has grown out of it: for breakPatterns' own box. -/

namespace Go.Proofs.Ytglfdclpjmhoiaa
open Go.RowKit Go.Sort

theorem below_setBoth {B : Nat} {V W : World} (h : Below B V W) (p : Addr) (hp : p.block < B) (u : Value) : Below B (V.setCell p u) (W.setCell p u) :=
 ⟨h.os, h.tape, h.output, by simpa [World.setCell] using h.size, fun k hk => by
  by_cases e : k = p.block
  ·
   subst e
   have := h.block _ hk
   simp only [World.setCell, Array.getElem?_modify, if_true]
   rw [this]
  ·
   rw [Below.heap_setCell _ _ _ _ e, Below.heap_setCell _ _ _ _ e]
   exact h.block k hk⟩

/-- A world of the sort beside whose row a random number has a box of its own. -/
structure Bst (C : World → Prop) (w : World) (g cap : Nat) (c : List HitP) (sb X : Nat) (V W : World) : Prop where
 base : SSt C w g cap c V
 bel : Below V.heap.size V W
 fresh : V.heap.size ≤ sb
 box : Boxed W sb 134 (.int .u64 X)
section
variable {cf : FuncId} {rv : Value} {ord : HitP → HitP → Int} {S : HitP → Prop} {C : World → Prop} {g cap sb X i j : Nat} {c : List HitP} {w V W : World}
theorem Bst.st (hB : CmpB cf rv ord S C g) (h : Bst C w g cap c sb X V W) : SSt C w g cap c W := h.base.below hB h.bel
theorem Bst.next (h : Bst C w g cap c sb X V W) (Y : Nat) : Bst C w g cap c sb Y V ((W.setCell ⟨sb, 0, none⟩ (.int .u64 Y)).drewN 3) :=
 ⟨h.base, h.bel.trans (Below.trans ((Below.refl _ _).setCell (by exact h.fresh) _) ⟨rfl, rfl, rfl, Nat.le_refl _, fun _ _ => rfl⟩), h.fresh, h.box.set _⟩
/-- An exchange in the row leaves the box as it is. -/
theorem Bst.swap (hB : CmpB cf rv ord S C g) (h : Bst C w g cap c sb X V W) (hg : g < V.heap.size) (hi : i < c.length) (hj : j < c.length) {u v : HitP} (hu : nth c i = u) (hv : nth c j = v) :
  ∃ V', Bst C w g cap (swp c i j) sb X V' ((((W.setCell ⟨g, i * 2, none⟩ (.int .i64 v.1)).setCell ⟨g, i * 2 + 1, none⟩ (.int .i64 v.2)).setCell ⟨g, j * 2, none⟩ (.int .i64 u.1)).setCell ⟨g, j * 2 + 1, none⟩ (.int .i64 u.2)).drew := by
 have hs := h.base.swap hB hi hj hu hv
 have hsz : ∀ (U : World) (p : Addr) (x : Value), (U.setCell p x).heap.size = U.heap.size := fun U p x => by simp [World.setCell]
 have b1 := below_setBoth (below_setBoth (below_setBoth (below_setBoth h.bel ⟨g, i * 2, none⟩ hg (.int .i64 v.1)) ⟨g, i * 2 + 1, none⟩ hg (.int .i64 v.2)) ⟨g, j * 2, none⟩ hg (.int .i64 u.1)) ⟨g, j * 2 + 1, none⟩ hg (.int .i64 u.2)
 have hne : sb ≠ g := by have := h.fresh; omega
 have hk : (((((W.setCell ⟨g, i * 2, none⟩ (.int .i64 v.1)).setCell ⟨g, i * 2 + 1, none⟩ (.int .i64 v.2)).setCell ⟨g, j * 2, none⟩ (.int .i64 u.1)).setCell ⟨g, j * 2 + 1, none⟩ (.int .i64 u.2))).heap[sb]? = W.heap[sb]? := by
  rw [Below.heap_setCell _ _ _ _ hne, Below.heap_setCell _ _ _ _ hne, Below.heap_setCell _ _ _ _ hne, Below.heap_setCell _ _ _ _ hne]
 refine ⟨_, hs, ?_, ?_, ?_⟩
 ·
  show Below (World.heap _).size _ _
  have e : ((((V.setCell ⟨g, i * 2, none⟩ (.int .i64 v.1)).setCell ⟨g, i * 2 + 1, none⟩ (.int .i64 v.2)).setCell ⟨g, j * 2, none⟩ (.int .i64 u.1)).setCell ⟨g, j * 2 + 1, none⟩ (.int .i64 u.2)).drew.heap.size = V.heap.size := by
   show (World.setCell _ _ _).heap.size = _
   rw [hsz, hsz, hsz, hsz]
  rw [e]
  exact ⟨b1.os, b1.tape, b1.output, b1.size, b1.block⟩
 ·
  show (World.setCell _ _ _).heap.size ≤ sb
  rw [hsz, hsz, hsz, hsz]; exact h.fresh
 · exact hk.trans h.box
end

end Go.Proofs.Ytglfdclpjmhoiaa

/- The sort's breakPatterns, walked. -/

namespace Go.Proofs.Ytglfdclpjmhoiaa
open Go.RowKit Go.Sort

set_option maxRecDepth 100000 in
set_option maxHeartbeats 4000000 in
theorem break_any (cf : FuncId) (rv : Value) (ord : HitP → HitP → Int) (S : HitP → Prop) (C : World → Prop) (g n cap cc a b : Nat) (l : List HitP) (w W : World) (hB : CmpB cf rv ord S C g) (hn : l.length = n) (hn1 : n ≤ 1000000000000) (hab : a + 12 < b) (hbn : b ≤ n) (hP : SSt C w g cap l W) :
  Calls Try.prog 81 #[.slice (some ⟨g, 0, none⟩) n cc, .int .i64 a, .int .i64 b, .func (.func cf) #[rv] #[]] W fun e w' =>
   e = .returned (.tuple #[]) ∧ ∃ c', Seg a b l c' ∧ SSt C w g cap c' w' := by
 have he := hB.enters
 have HB := Lib.hid hB
 have HN := Lib.hid hn
 obtain ⟨L, hL⟩ : ∃ L, b = a + L := ⟨b - a, by omega⟩
 have HBE := Lib.hid hL
 have E1 := Lib.hid (show (b : Int) - (a : Int) = ((L : Nat) : Int) from by omega)
 have hL8 : (8 : Int) ≤ L := by omega
 have hLn : L ≤ n := by omega
 have hbn2 : a + L ≤ n := by omega
 have hLp : (0 : Int) ≤ L := by omega
 obtain ⟨M, hM⟩ : ∃ M : Nat, M = 1 <<< bitsLen L := ⟨_, rfl⟩
 have hM1 : 1 ≤ M := by rw [hM, Nat.one_shiftLeft]; exact Nat.two_pow_pos _
 have hM2 : M ≤ 2 * L := by rw [hM, Nat.one_shiftLeft]; exact two_pow_bitsLen_le (by omega)
 have hNP := nextPow_any L
 rw [← hM] at hNP
 clear hn hB hL hM
 go_enter Try.func81, Try.ntmps81
 go_upto_region 1 with fail
 rw [E1.out]
 go_wp2_with fail
 refine (hNP _ (by omega)).mono ?_
 rintro e w1 ⟨rfl, rfl⟩
 go_wp2
 go_loopw [11] (fun vi wr => ∃ (t X : Nat) (c : List HitP) (V : World), vi = .int .i64 ((a : Int) + (L : Int) / 4 * 2 - 1 + (t : Int)) ∧ t ≤ 3 ∧ X < 18446744073709551616 ∧ Hid (Seg a (a + L) l c) ∧ g < V.heap.size ∧ Bst C w g cap c W.heap.size X V wr) (fun vi _ => (a + L / 4 * 2 + 3) - (intOf vi).toNat)
 case atStart => exact ⟨0, L, l, W, by simp, by omega, by omega, Seg.refl _ _ _, hP.row.lt, hP, (Below.refl _ _).alloc (Nat.le_refl _) _, Nat.le_refl _, Boxed.new _ _ _⟩
 case round =>
  clear hP
  obtain ⟨t, X, c, V, rfl, ht, hX, HS, hgV, hI⟩ := hrel
  by_cases ht3 : t < 3
  ·
   have hle : (a : Int) + (L : Int) / 4 * 2 - 1 + (t : Int) ≤ (a : Int) + (L : Int) / 4 * 2 + 1 := by omega
   have hcl : c.length = n := by rw [HS.out.length, HN.out]
   go_wp2_with fail
   refine (xorNext_any W.heap.size X hX wr hI.box.cell hI.box.frozen).mono ?_
   rintro e w2 ⟨Y, hY, rfl, rfl⟩
   have hI2 := hI.next Y
   obtain ⟨W2, hW2⟩ : ∃ W2, W2 = (wr.setCell ⟨W.heap.size, 0, none⟩ (.int .u64 Y)).drewN 3 := ⟨_, rfl⟩
   rw [← hW2] at hI2 ⊢
   clear hW2 hI
   obtain ⟨O, hO⟩ : ∃ O : Nat, O = Y &&& (M - 1) := ⟨_, rfl⟩
   have lO : O ≤ M - 1 := by rw [hO]; exact Nat.and_le_right
   have eAnd : bits .and .u64 (Y : Int) ((M : Int) - 1) = (O : Int) := by
    rw [show ((M : Int) - 1) = ((M - 1 : Nat) : Int) by omega, bits_and_u64_nat _ _ hY (by omega), hO]
   clear hO
   go_upto_region 8 with fail
   obtain ⟨K, hK⟩ : ∃ K : Nat, K = a + L / 4 * 2 - 1 + t := ⟨_, rfl⟩
   have EK := Lib.hid (show (a : Int) + (L : Int) / 4 * 2 - 1 + (t : Int) = ((K : Nat) : Int) from by omega)
   have hKb : a ≤ K ∧ K < a + L := by omega
   have hKn : K < n := by omega
   clear hK
   rw [EK.out]
   go_upto_if 45 with fail
   go_cut [12] (fun s12 wx => W2 = wx ∧ ∃ O : Nat, s12 = .int .i64 O ∧ O < L)
   case first =>
    by_cases hLO : L ≤ O
    ·
     have d0 : decide ((L : Int) ≤ O) = true := by simp; omega
     go_wp2_with fail
     go_meet
     exact ⟨rfl, O - L, by congr 1; omega, by omega⟩
    ·
     have d0 : decide ((L : Int) ≤ O) = false := by simp; omega
     go_wp2_with fail
     go_meet
     exact ⟨rfl, O, rfl, by omega⟩
   case rest =>
    obtain ⟨rfl, Q, rfl, hQ⟩ := hcut
    have haQ : a + Q < n := by omega
    obtain ⟨u, hu⟩ : ∃ u, nth c K = u := ⟨_, rfl⟩
    obtain ⟨v, hv⟩ : ∃ v, nth c (a + Q) = v := ⟨_, rfl⟩
    obtain ⟨⟨x0, x1⟩, ⟨fx0, fx1⟩, _, _⟩ := (hI2.st HB.out).cell (k := K) (by omega) hu
    obtain ⟨⟨y0, y1⟩, ⟨fy0, fy1⟩, _, _⟩ := (hI2.st HB.out).cell (k := a + Q) (by omega) hv
    obtain ⟨V', hX'⟩ := hI2.swap HB.out hgV (i := K) (j := a + Q) (by omega) (by omega) hu hv
    have HS2 : Hid (Seg a (a + L) l (swp c K (a + Q))) := HS.out.trans (Seg.swap c (by omega) (by omega))
    clear hI2 HS hcl
    by_cases hKQ : K = a + Q
    ·
     have huv : u = v := by rw [← hu, ← hv, hKQ]
     subst hKQ
     subst huv
     have HX := Lib.hid hX'
     clear hX' hu hv
     go_wp2
     go_region
     go_wp2
     go_roundw
     case rel => exact ⟨t + 1, Y, _, V', by congr 1; have := EK.out; omega, by omega, hY, HS2, HX.out.base.row.lt, HX.out⟩
     case measure => have := EK.out; simp [intOf]; omega
    ·
     have HX := Lib.hid hX'
     clear hX' hu hv
     go_wp2
     go_region
     go_wp2
     go_roundw
     case rel => exact ⟨t + 1, Y, _, V', by congr 1; have := EK.out; omega, by omega, hY, HS2, HX.out.base.row.lt, HX.out⟩
     case measure => have := EK.out; simp [intOf]; omega
  ·
   have HF : Hid (Seg a b l c) := by rw [HBE.out]; exact HS.out
   have HX := Lib.hid (hI.st HB.out)
   clear hI HS
   go_wp2
   go_end0
   exact ⟨rfl, c, HF.out, HX.out⟩

end Go.Proofs.Ytglfdclpjmhoiaa

/- The sort's pivot chosen; a segment reversed: walked. -/

namespace Go.Proofs.Ytglfdclpjmhoiaa
open Go.RowKit Go.Sort

theorem In3.bd {a b d m lo hi : Nat} (h : In3 a b d m) (ha : lo ≤ a ∧ a < hi) (hb : lo ≤ b ∧ b < hi) (hd : lo ≤ d ∧ d < hi) : lo ≤ m ∧ m < hi := by
 rcases h with rfl | rfl | rfl <;> assumption

set_option maxRecDepth 100000 in
set_option maxHeartbeats 2000000 in
theorem choosePivot_any (cf : FuncId) (rv : Value) (ord : HitP → HitP → Int) (S : HitP → Prop) (C : World → Prop) (g n cap cc a b : Nat) (c : List HitP) (w W : World) (hB : CmpB cf rv ord S C g) (hl : ∀ h ∈ c, S h) (hn : c.length = n) (hn1 : n ≤ 1000000000000) (hab : a + 12 < b) (hbn : b ≤ n) (hP : SSt C w g cap c W) :
  Calls Try.prog 82 #[.slice (some ⟨g, 0, none⟩) n cc, .int .i64 a, .int .i64 b, .func (.func cf) #[rv] #[]] W fun e w' =>
   ∃ p h : Nat, e = .returned (.tuple #[.int .i64 p, .int .i64 h]) ∧ (a ≤ p ∧ p < b) ∧ h ≤ 2 ∧ SSt C w g cap c w' := by
 have HB := Lib.hid hB
 have HL := Lib.hid hl
 have HN := Lib.hid hn
 clear hB hl hn
 obtain ⟨l, rfl⟩ : ∃ l, b = a + l := ⟨b - a, by omega⟩
 have hP0 : Pst C w g cap c W W.heap.size 0 (W.alloc (.cells #[.int .i64 0] 3)) := ⟨hP, (Below.refl _ _).alloc (Nat.le_refl _) _, Nat.le_refl _, Boxed.new _ _ _⟩
 have E1 := Lib.hid (show (a : Int) + ((a : Int) + (l : Int) - a) / 4 = ((a + l / 4 : Nat) : Int) from by omega)
 have E2 := Lib.hid (show (a : Int) + ((a : Int) + (l : Int) - a) / 4 * 2 = ((a + l / 4 * 2 : Nat) : Int) from by omega)
 have E3 := Lib.hid (show (a : Int) + ((a : Int) + (l : Int) - a) / 4 * 3 = ((a + l / 4 * 3 : Nat) : Int) from by omega)
 have d8 : decide ((8 : Int) ≤ (a : Int) + (l : Int) - a) = true := by simp; omega
 have hsz : W.heap.size < (W.alloc (.cells #[.int .i64 0] 3)).heap.size := by simp
 by_cases h50 : 50 ≤ l
 ·
  have d50 : decide ((50 : Int) ≤ (a : Int) + (l : Int) - a) = true := by simp; omega
  go_enter Try.func82, Try.ntmps82
  go_wp2_with fail
  rw [E1.out, E2.out, E3.out]
  refine (medAdj_any cf rv ord S C g n cap cc (a + l / 4) W.heap.size 0 c w W _ HB.out HL.out HN.out hn1 (by omega) (by omega) (by omega) hP0).mono ?_
  rintro e W1 ⟨m1, s1, rfl, hi1, hs1, hP1⟩
  have hm1 := hi1.bd (lo := a) (hi := a + l) (by omega) (by omega) (by omega)
  clear hi1
  go_wp2_with fail
  refine (medAdj_any cf rv ord S C g n cap cc (a + l / 4 * 2) W.heap.size s1 c w W _ HB.out HL.out HN.out hn1 (by omega) (by omega) (by omega) hP1).mono ?_
  rintro e W2 ⟨m2, s2, rfl, hi2, hs2, hP2⟩
  have hm2 := hi2.bd (lo := a) (hi := a + l) (by omega) (by omega) (by omega)
  clear hi2
  go_wp2_with fail
  refine (medAdj_any cf rv ord S C g n cap cc (a + l / 4 * 3) W.heap.size s2 c w W _ HB.out HL.out HN.out hn1 (by omega) (by omega) (by omega) hP2).mono ?_
  rintro e W3 ⟨m3, s3, rfl, hi3, hs3, hP3⟩
  have hm3 := hi3.bd (lo := a) (hi := a + l) (by omega) (by omega) (by omega)
  clear hi3
  go_wp2_with fail
  refine (median_any cf rv ord S C g n cap cc m1 m2 m3 W.heap.size s3 c w W _ HB.out HL.out HN.out hn1 (by omega) (by omega) (by omega) (by omega) hP3).mono ?_
  rintro e W4 ⟨m, s4, rfl, hi, hs4, hP4⟩
  have hm := hi.bd (lo := a) (hi := a + l) hm1 hm2 hm3
  clear hi
  have k0 := hP4.box.cell
  have hst := hP4.st HB.out
  by_cases z0 : s4 = 0
  ·
   subst z0
   go_wp2
   go_ret2
   exact ⟨m, 1, rfl, hm, by omega, hst⟩
  ·
   have e0 : ((s4 : Int) == 0) = false := by simp; omega
   by_cases z12 : s4 = 12
   ·
    subst z12
    go_wp2
    go_ret2
    exact ⟨m, 2, rfl, hm, by omega, hst⟩
   ·
    have e12 : ((s4 : Int) == 12) = false := by simp; omega
    go_wp2
    go_ret2
    exact ⟨m, 0, rfl, hm, by omega, hst⟩
 ·
  have d50 : decide ((50 : Int) ≤ (a : Int) + (l : Int) - a) = false := by simp; omega
  go_enter Try.func82, Try.ntmps82
  go_wp2_with fail
  rw [E1.out, E2.out, E3.out]
  refine (median_any cf rv ord S C g n cap cc (a + l / 4) (a + l / 4 * 2) (a + l / 4 * 3) W.heap.size 0 c w W _ HB.out HL.out HN.out hn1 (by omega) (by omega) (by omega) (by omega) hP0).mono ?_
  rintro e W4 ⟨m, s4, rfl, hi, hs4, hP4⟩
  have hm := hi.bd (lo := a) (hi := a + l) (by omega) (by omega) (by omega)
  clear hi
  have k0 := hP4.box.cell
  have hst := hP4.st HB.out
  by_cases z0 : s4 = 0
  ·
   subst z0
   go_wp2
   go_ret2
   exact ⟨m, 1, rfl, hm, by omega, hst⟩
  ·
   have e0 : ((s4 : Int) == 0) = false := by simp; omega
   have e12 : ((s4 : Int) == 12) = false := by simp; omega
   go_wp2
   go_ret2
   exact ⟨m, 0, rfl, hm, by omega, hst⟩

set_option maxRecDepth 100000 in
set_option maxHeartbeats 1000000 in
theorem reverse_any (cf : FuncId) (rv : Value) (ord : HitP → HitP → Int) (S : HitP → Prop) (C : World → Prop) (g n cap cc a b : Nat) (l : List HitP) (w W : World) (hB : CmpB cf rv ord S C g) (hn : l.length = n) (hn1 : n ≤ 1000000000000) (hab : a < b) (hbn : b ≤ n) (hP : SSt C w g cap l W) :
  Calls Try.prog 83 #[.slice (some ⟨g, 0, none⟩) n cc, .int .i64 a, .int .i64 b, .func (.func cf) #[rv] #[]] W fun e w' =>
   e = .returned (.tuple #[]) ∧ ∃ c', Seg a b l c' ∧ SSt C w g cap c' w' := by
 have HB := Lib.hid hB
 have HN := Lib.hid hn
 clear hB hn
 obtain ⟨q, rfl⟩ : ∃ q, b = q + 1 := ⟨b - 1, by omega⟩
 go_enter Try.func83, Try.ntmps83
 go_wp2
 go_loopw [8, 9] (fun i j wr => ∃ (x y : Nat) (c : List HitP), a ≤ x ∧ x ≤ q + 1 ∧ y ≤ q ∧ a ≤ y + 1 ∧ i = .int .i64 x ∧ j = .int .i64 y ∧ Hid (Seg a (q + 1) l c) ∧ SSt C w g cap c wr) (fun _ j _ => (intOf j).toNat)
 case atStart => exact ⟨a, q, l, Nat.le_refl _, by omega, Nat.le_refl _, by omega, rfl, by go_num, Seg.refl _ _ _, hP⟩
 case round =>
  obtain ⟨x, y, c, h1, h2, h3, h4, rfl, rfl, HS, hSt⟩ := hrel
  by_cases hlt : x < y
  ·
   obtain ⟨u, hu⟩ : ∃ u, nth c x = u := ⟨_, rfl⟩
   obtain ⟨v, hv⟩ : ∃ v, nth c y = v := ⟨_, rfl⟩
   have hcl : c.length = n := by rw [HS.out.length, HN.out]
   obtain ⟨⟨x0, x1⟩, ⟨fx0, fx1⟩, _, _⟩ := hSt.cell (k := x) (by omega) hu
   obtain ⟨⟨y0, y1⟩, ⟨fy0, fy1⟩, _, _⟩ := hSt.cell (k := y) (by omega) hv
   have hall := hSt.swap HB.out (i := x) (j := y) (by omega) (by omega) hu hv
   have HALL := Lib.hid hall
   have HS2 : Hid (Seg a (q + 1) l (swp c x y)) := HS.out.trans (Seg.swap c (by omega) (by omega))
   have hd : decide ((x : Int) < y) = true := by simp; omega
   obtain ⟨y', rfl⟩ : ∃ y', y = y' + 1 := ⟨y - 1, by omega⟩
   clear hall hu hv hcl HS
   go_wp2
   go_region
   go_wp2
   go_roundw
   case rel => exact ⟨x + 1, y', _, by omega, by omega, by omega, by omega, by go_num, by go_num, HS2, HALL.out⟩
   case measure => simp [intOf]; try omega
  ·
   go_wp2
   go_end0
   exact ⟨rfl, c, HS.out, hSt⟩

end Go.Proofs.Ytglfdclpjmhoiaa

/- The sort's partition, walked. -/

namespace Go.Proofs.Ytglfdclpjmhoiaa
open Go.RowKit Go.Sort

set_option maxRecDepth 100000 in
set_option maxHeartbeats 4000000 in
theorem partition_any (cf : FuncId) (rv : Value) (ord : HitP → HitP → Int) (S : HitP → Prop) (C : World → Prop) (g n cap cc a b pv : Nat) (l : List HitP) (w W : World) (hB : CmpB cf rv ord S C g) (hl : ∀ h ∈ l, S h) (hn : l.length = n) (hn1 : n ≤ 1000000000000) (hab : a + 1 < b) (hbn : b ≤ n) (hpv : a ≤ pv ∧ pv < b) (hP : SSt C w g cap l W) :
  Calls Try.prog 86 #[.slice (some ⟨g, 0, none⟩) n cc, .int .i64 a, .int .i64 b, .int .i64 pv, .func (.func cf) #[rv] #[]] W fun e w' =>
   ∃ (m : Nat) (t : Bool) (c' : List HitP), e = .returned (.tuple #[.int .i64 m, .bool t]) ∧ (a ≤ m ∧ m < b) ∧ Parted ord a b l c' m ∧ SSt C w g cap c' w' := by
 have he := hB.enters
 have HB := Lib.hid hB
 obtain ⟨q, hq⟩ : ∃ q, b = q + 1 := ⟨b - 1, by omega⟩
 subst hq
 obtain ⟨l2, hl2⟩ : ∃ l2, l2 = swp l a pv := ⟨_, rfl⟩
 have HSG : Hid (Seg a (q + 1) l l2) := by rw [Hid, hl2]; exact Seg.swap l (by omega) (by omega)
 have HM : Hid (∀ x ∈ l2, S x) := seg_S HSG.out (by omega) hl
 have HN2 : Hid (l2.length = n) := by rw [Hid, HSG.out.length]; exact hn
 obtain ⟨u, v, huv, ⟨x0, x1⟩, ⟨fx0, fx1⟩, ⟨y0, y1⟩, ⟨fy0, fy1⟩, hX⟩ := hP.xch HB.out (i := a) (j := pv) (by omega) (by omega)
 rw [← hl2] at hX
 obtain ⟨hp1, hp2⟩ := hpv
 have hpn : pv < n := by omega
 have han : a < n := by omega
 clear hn hl hB hP hl2
 go_enter Try.func86, Try.ntmps86
 go_upto_region 2 with fail
 go_cut [] (fun wx => SSt C w g cap l2 wx)
 case first =>
  by_cases hpa : pv = a
  ·
   subst hpa
   have huv' := huv rfl
   subst huv'
   clear huv
   have HX := Lib.hid hX
   clear hX
   go_region
   go_wp2_with fail
   go_meet
   exact HX.out
  ·
   clear huv
   have HX := Lib.hid hX
   clear hX
   go_region
   go_wp2_with fail
   go_meet
   exact HX.out
 case rest =>
  clear huv hX x0 x1 fx0 fx1 y0 y1 fy0 fy1
  have hI : PI (ltQ ord) S C w g cap n a (q + 1) l2 l2 (a + 1) q wc := PI.start HN2.out HM.out hcut
  clear hcut
  obtain ⟨W1, hW1⟩ : ∃ W1, W1 = wc := ⟨_, rfl⟩
  rw [← hW1] at hI ⊢
  clear hW1
  go_upto_block 0 with fail
  go_cut [12] (fun si wx => ∃ (x : Nat) (c : List HitP), si = .int .i64 x ∧ a + 1 ≤ x ∧ x ≤ q + 1 ∧ Hid (x ≤ q → ¬ (ltQ ord) (nth c a) (nth c x)) ∧ PI (ltQ ord) S C w g cap n a (q + 1) l2 c x q wx)
  case first =>
   go_wp2_with fail
   go_loopw [12] (fun i wr => ∃ (x : Nat) (c : List HitP), i = .int .i64 x ∧ a + 1 ≤ x ∧ x ≤ q + 1 ∧ PI (ltQ ord) S C w g cap n a (q + 1) l2 c x q wr) (fun i _ => q + 1 - (intOf i).toNat)
   case atStart => exact ⟨_, _, by go_num, by omega, by omega, hI⟩
   case round =>
    clear hI
    obtain ⟨x, c, rfl, hx1, hx2, hI⟩ := hrel
    by_cases hlt : x ≤ q
    ·
     obtain ⟨u, v, HU, HV, gx0, gx1, gy0, gy1, hcall⟩ := hI.look HB.out (k := x) (j := a) (by omega) (by omega)
     have hd0 : decide ((x : Int) ≤ q) = true := by simp; omega
     go_wp2
     refine wp_region_quiet_below mixed (by kernel_rfl) ?_
     repeat (go_big_quiet_step (exact grown_below (hcall _ _)))
     refine wpQuiet_nil ?_
     rintro _ ⟨⟨dq, osq⟩, rfl⟩
     have hI2 := hI.below HB.out (below_regrown wr dq osq)
     clear gx0 gx1 gy0 gy1 hcall hI
     dsimp only
     obtain ⟨W2, hW2⟩ : ∃ W2, W2 = grow (redrawn wr dq) osq := ⟨_, rfl⟩
     rw [← hW2] at hI2 ⊢
     clear hW2
     by_cases hxy : ord u v < 0
     ·
      have hdx : decide (ord u v < 0) = true := by simp [hxy]
      rw [hdx]
      have hI3 := hI2.up (x := x) (by unfold ltQ; rw [HU.out, HV.out]; exact hxy)
      clear hxy hdx hI2
      go_wp2
      go_roundw
      case rel => exact ⟨x + 1, c, by go_num, by omega, by omega, hI3⟩
      case measure => simp [intOf]; omega
     ·
      have hdx : decide (ord u v < 0) = false := by simp [hxy]
      rw [hdx]
      have HP2 : Hid (x ≤ q → ¬ (ltQ ord) (nth c a) (nth c x)) := fun _ => by unfold ltQ; rw [HU.out, HV.out]; exact hxy
      clear hxy hdx
      go_wp2_with fail
      go_meet
      exact ⟨x, c, rfl, hx1, hx2, HP2, hI2⟩
    ·
     have hd0 : decide ((x : Int) ≤ q) = false := by simp; omega
     have HP2 : Hid (x ≤ q → ¬ (ltQ ord) (nth c a) (nth c x)) := fun h => absurd h hlt
     go_wp2
     go_quiet (fail)
     go_wp2_with fail
     go_meet
     exact ⟨x, c, rfl, hx1, hx2, HP2, hI.below HB.out ⟨rfl, rfl, rfl, Nat.le_refl _, fun _ _ => rfl⟩⟩
  case rest =>
   clear hI
   obtain ⟨x, c, rfl, hx1, hx2, HPX, hI⟩ := hcut
   go_upto_block 2 with fail
   go_cut [13] (fun sj wx => ∃ y : Nat, sj = .int .i64 y ∧ x ≤ y + 1 ∧ y ≤ q ∧ Hid (x ≤ y → (ltQ ord) (nth c a) (nth c y)) ∧ PI (ltQ ord) S C w g cap n a (q + 1) l2 c x y wx)
   case first =>
    go_wp2_with fail
    go_loopw [13] (fun j wr => ∃ y : Nat, j = .int .i64 y ∧ x ≤ y + 1 ∧ y ≤ q ∧ PI (ltQ ord) S C w g cap n a (q + 1) l2 c x y wr) (fun j _ => (intOf j).toNat)
    case atStart => exact ⟨q, by go_num, by omega, Nat.le_refl _, hI⟩
    case round =>
     clear hI
     obtain ⟨y, rfl, hy1, hy2, hI⟩ := hrel
     by_cases hlt : x ≤ y
     ·
      obtain ⟨z, rfl⟩ : ∃ z, y = z + 1 := ⟨y - 1, by omega⟩
      obtain ⟨u, v, HU, HV, gx0, gx1, gy0, gy1, hcall⟩ := hI.look HB.out (k := z + 1) (j := a) (by omega) (by omega)
      have hd0 : decide ((x : Int) ≤ (z : Int) + 1) = true := by simp; omega
      go_wp2
      refine wp_region_quiet_below mixed (by kernel_rfl) ?_
      repeat (go_big_quiet_step (exact grown_below (hcall _ _)))
      refine wpQuiet_nil ?_
      rintro _ ⟨⟨dq, osq⟩, rfl⟩
      have hI2 := hI.below HB.out (below_regrown wr dq osq)
      clear gx0 gx1 gy0 gy1 hcall hI
      dsimp only
      obtain ⟨W2, hW2⟩ : ∃ W2, W2 = grow (redrawn wr dq) osq := ⟨_, rfl⟩
      rw [← hW2] at hI2 ⊢
      clear hW2
      by_cases hxy : ord u v < 0
      ·
       have hdx : decide (ord u v < 0) = true := by simp [hxy]
       rw [hdx]
       have HP2 : Hid (x ≤ z + 1 → (ltQ ord) (nth c a) (nth c (z + 1))) := fun _ => by unfold ltQ; rw [HU.out, HV.out]; exact hxy
       clear hxy hdx
       go_wp2_with fail
       go_meet
       exact ⟨z + 1, by go_num, hy1, hy2, HP2, hI2⟩
      ·
       have hdx : decide (ord u v < 0) = false := by simp [hxy]
       rw [hdx]
       have hI3 := hI2.down (z := z) (by unfold ltQ; rw [HU.out, HV.out]; exact hxy)
       clear hxy hdx hI2
       go_wp2
       go_roundw
       case rel => exact ⟨z, by go_num, by omega, by omega, hI3⟩
       case measure => simp [intOf]; try omega
     ·
      have hd0 : decide ((x : Int) ≤ y) = false := by simp; omega
      have HP2 : Hid (x ≤ y → (ltQ ord) (nth c a) (nth c y)) := fun h => absurd h hlt
      go_wp2
      go_quiet (fail)
      go_wp2_with fail
      go_meet
      exact ⟨y, rfl, hy1, hy2, HP2, hI.below HB.out ⟨rfl, rfl, rfl, Nat.le_refl _, fun _ _ => rfl⟩⟩
   case rest =>
    clear hI
    obtain ⟨y, rfl, hy1, hy2, HPY, hI⟩ := hcut
    by_cases hex : y < x
    ·
     have hd : decide ((y : Int) < x) = true := by simp; omega
     obtain rfl : x = y + 1 := by omega
     obtain ⟨u, v, huv, ⟨x0, x1⟩, ⟨fx0, fx1⟩, ⟨y0, y1⟩, ⟨fy0, fy1⟩, hX⟩ := hI.st.xch HB.out (i := y) (j := a) (by rw [hI.len]; omega) (by rw [hI.len]; omega)
     have hyn : y < n := by omega
     have hP := hI.parted (by omega) (by omega) hbn
     have HR : Hid (Parted ord a (q + 1) l (swp c y a) y) := ⟨HSG.out.trans hP.seg, hP.left, hP.right⟩
     have hbd : a ≤ y ∧ y < q + 1 := by omega
     clear hP HPX HPY
     by_cases hya : y = a
     ·
      subst hya
      have huv' := huv rfl
      subst huv'
      clear huv
      have HX := Lib.hid hX
      clear hX
      go_wp2
      go_region
      go_wp2
      go_ret2
      exact ⟨y, true, _, rfl, hbd, HR.out, HX.out⟩
     ·
      clear huv
      have HX := Lib.hid hX
      clear hX
      go_wp2
      go_region
      go_wp2
      go_ret2
      exact ⟨y, true, _, rfl, hbd, HR.out, HX.out⟩
    ·
     have hd : decide ((y : Int) < x) = false := by simp; omega
     have hne : x ≠ y := fun e => HPX.out (by omega) (by rw [e]; exact HPY.out (by omega))
     obtain ⟨u, v, huv, ⟨x0, x1⟩, ⟨fx0, fx1⟩, ⟨y0, y1⟩, ⟨fy0, fy1⟩, hX⟩ := hI.st.xch HB.out (i := x) (j := y) (by rw [hI.len]; omega) (by rw [hI.len]; omega)
     have hI2 := hI.swapped hX (HPX.out (by omega)) (HPY.out (by omega)) (by omega) (by omega) (by omega) hbn
     have HX := Lib.hid hI2
     clear hX hI2 HPX HPY huv
     have hxn : x < n := by omega
     have hyn : y < n := by omega
     obtain ⟨y', rfl⟩ : ∃ y', y = y' + 1 := ⟨y - 1, by omega⟩
     go_wp2
     go_region
     go_wp2
     go_loopw [12, 13] (fun i j wr => ∃ (x y : Nat) (c : List HitP), i = .int .i64 x ∧ j = .int .i64 y ∧ a + 1 ≤ x ∧ x ≤ y + 1 ∧ y ≤ q ∧ PI (ltQ ord) S C w g cap n a (q + 1) l2 c x y wr) (fun _ j _ => (intOf j).toNat)
     case atStart => exact ⟨x + 1, y', _, by go_num, by go_num, by omega, by omega, by omega, HX.out⟩
     case round =>
      clear HX
      obtain ⟨x0, y0, c0, rfl, rfl, hb1, hb2, hb3, hI⟩ := hrel
      go_upto_block 6 with fail
      go_cut [12] (fun si wx => ∃ (x : Nat) (c : List HitP), si = .int .i64 x ∧ a + 1 ≤ x ∧ x ≤ y0 + 1 ∧ Hid (x ≤ y0 → ¬ (ltQ ord) (nth c a) (nth c x)) ∧ PI (ltQ ord) S C w g cap n a (q + 1) l2 c x y0 wx)
      case first =>
       go_wp2_with fail
       go_loopw [12] (fun i wr => ∃ (x : Nat) (c : List HitP), i = .int .i64 x ∧ a + 1 ≤ x ∧ x ≤ y0 + 1 ∧ PI (ltQ ord) S C w g cap n a (q + 1) l2 c x y0 wr) (fun i _ => y0 + 1 - (intOf i).toNat)
       case atStart => exact ⟨_, _, by go_num, by omega, by omega, hI⟩
       case round =>
        clear hI
        obtain ⟨x, c, rfl, hx1, hx2, hI⟩ := hrel
        by_cases hlt : x ≤ y0
        ·
         obtain ⟨u, v, HU, HV, gx0, gx1, gy0, gy1, hcall⟩ := hI.look HB.out (k := x) (j := a) (by omega) (by omega)
         have hd0 : decide ((x : Int) ≤ y0) = true := by simp; omega
         go_wp2
         refine wp_region_quiet_below mixed (by kernel_rfl) ?_
         repeat (go_big_quiet_step (exact grown_below (hcall _ _)))
         refine wpQuiet_nil ?_
         rintro _ ⟨⟨dq, osq⟩, rfl⟩
         have hI2 := hI.below HB.out (below_regrown wr dq osq)
         clear gx0 gx1 gy0 gy1 hcall hI
         dsimp only
         obtain ⟨W2, hW2⟩ : ∃ W2, W2 = grow (redrawn wr dq) osq := ⟨_, rfl⟩
         rw [← hW2] at hI2 ⊢
         clear hW2
         by_cases hxy : ord u v < 0
         ·
          have hdx : decide (ord u v < 0) = true := by simp [hxy]
          rw [hdx]
          have hI3 := hI2.up (x := x) (by unfold ltQ; rw [HU.out, HV.out]; exact hxy)
          clear hxy hdx hI2
          go_wp2
          go_roundw
          case rel => exact ⟨x + 1, c, by go_num, by omega, by omega, hI3⟩
          case measure => simp [intOf]; omega
         ·
          have hdx : decide (ord u v < 0) = false := by simp [hxy]
          rw [hdx]
          have HP2 : Hid (x ≤ y0 → ¬ (ltQ ord) (nth c a) (nth c x)) := fun _ => by unfold ltQ; rw [HU.out, HV.out]; exact hxy
          clear hxy hdx
          go_wp2_with fail
          go_meet
          exact ⟨x, c, rfl, hx1, hx2, HP2, hI2⟩
        ·
         have hd0 : decide ((x : Int) ≤ y0) = false := by simp; omega
         have HP2 : Hid (x ≤ y0 → ¬ (ltQ ord) (nth c a) (nth c x)) := fun h => absurd h hlt
         go_wp2
         go_quiet (fail)
         go_wp2_with fail
         go_meet
         exact ⟨x, c, rfl, hx1, hx2, HP2, hI.below HB.out ⟨rfl, rfl, rfl, Nat.le_refl _, fun _ _ => rfl⟩⟩
      case rest =>
       clear hI
       obtain ⟨x, c, rfl, hx1, hx2, HPX, hI⟩ := hcut
       go_upto_block 8 with fail
       go_cut [13] (fun sj wx => ∃ y : Nat, sj = .int .i64 y ∧ x ≤ y + 1 ∧ y ≤ y0 ∧ Hid (x ≤ y → (ltQ ord) (nth c a) (nth c y)) ∧ PI (ltQ ord) S C w g cap n a (q + 1) l2 c x y wx)
       case first =>
        go_wp2_with fail
        go_loopw [13] (fun j wr => ∃ y : Nat, j = .int .i64 y ∧ x ≤ y + 1 ∧ y ≤ y0 ∧ PI (ltQ ord) S C w g cap n a (q + 1) l2 c x y wr) (fun j _ => (intOf j).toNat)
        case atStart => exact ⟨y0, by go_num, by omega, Nat.le_refl _, hI⟩
        case round =>
         clear hI
         obtain ⟨y, rfl, hy1, hy2, hI⟩ := hrel
         by_cases hlt : x ≤ y
         ·
          obtain ⟨z, rfl⟩ : ∃ z, y = z + 1 := ⟨y - 1, by omega⟩
          obtain ⟨u, v, HU, HV, gx0, gx1, gy0, gy1, hcall⟩ := hI.look HB.out (k := z + 1) (j := a) (by omega) (by omega)
          have hd0 : decide ((x : Int) ≤ (z : Int) + 1) = true := by simp; omega
          go_wp2
          refine wp_region_quiet_below mixed (by kernel_rfl) ?_
          repeat (go_big_quiet_step (exact grown_below (hcall _ _)))
          refine wpQuiet_nil ?_
          rintro _ ⟨⟨dq, osq⟩, rfl⟩
          have hI2 := hI.below HB.out (below_regrown wr dq osq)
          clear gx0 gx1 gy0 gy1 hcall hI
          dsimp only
          obtain ⟨W2, hW2⟩ : ∃ W2, W2 = grow (redrawn wr dq) osq := ⟨_, rfl⟩
          rw [← hW2] at hI2 ⊢
          clear hW2
          by_cases hxy : ord u v < 0
          ·
           have hdx : decide (ord u v < 0) = true := by simp [hxy]
           rw [hdx]
           have HP2 : Hid (x ≤ z + 1 → (ltQ ord) (nth c a) (nth c (z + 1))) := fun _ => by unfold ltQ; rw [HU.out, HV.out]; exact hxy
           clear hxy hdx
           go_wp2_with fail
           go_meet
           exact ⟨z + 1, by go_num, hy1, hy2, HP2, hI2⟩
          ·
           have hdx : decide (ord u v < 0) = false := by simp [hxy]
           rw [hdx]
           have hI3 := hI2.down (z := z) (by unfold ltQ; rw [HU.out, HV.out]; exact hxy)
           clear hxy hdx hI2
           go_wp2
           go_roundw
           case rel => exact ⟨z, by go_num, by omega, by omega, hI3⟩
           case measure => simp [intOf]; try omega
         ·
          have hd0 : decide ((x : Int) ≤ y) = false := by simp; omega
          have HP2 : Hid (x ≤ y → (ltQ ord) (nth c a) (nth c y)) := fun h => absurd h hlt
          go_wp2
          go_quiet (fail)
          go_wp2_with fail
          go_meet
          exact ⟨y, rfl, hy1, hy2, HP2, hI.below HB.out ⟨rfl, rfl, rfl, Nat.le_refl _, fun _ _ => rfl⟩⟩
       case rest =>
        clear hI
        obtain ⟨y, rfl, hy1, hy2, HPY, hI⟩ := hcut
        by_cases hex : y < x
        ·
         have hd : decide ((y : Int) < x) = true := by simp; omega
         obtain rfl : x = y + 1 := by omega
         obtain ⟨u, v, huv, ⟨x0, x1⟩, ⟨fx0, fx1⟩, ⟨y0, y1⟩, ⟨fy0, fy1⟩, hX⟩ := hI.st.xch HB.out (i := y) (j := a) (by rw [hI.len]; omega) (by rw [hI.len]; omega)
         have hyn : y < n := by omega
         have hP := hI.parted (by omega) (by omega) hbn
         have HR : Hid (Parted ord a (q + 1) l (swp c y a) y) := ⟨HSG.out.trans hP.seg, hP.left, hP.right⟩
         have hbd : a ≤ y ∧ y < q + 1 := by omega
         clear hP HPX HPY
         by_cases hya : y = a
         ·
          subst hya
          have huv' := huv rfl
          subst huv'
          clear huv
          have HX := Lib.hid hX
          clear hX
          go_wp2
          go_region
          go_wp2
          go_ret2
          exact ⟨y, false, _, rfl, hbd, HR.out, HX.out⟩
         ·
          clear huv
          have HX := Lib.hid hX
          clear hX
          go_wp2
          go_region
          go_wp2
          go_ret2
          exact ⟨y, false, _, rfl, hbd, HR.out, HX.out⟩
        ·
         have hd : decide ((y : Int) < x) = false := by simp; omega
         have hne : x ≠ y := fun e => HPX.out (by omega) (by rw [e]; exact HPY.out (by omega))
         obtain ⟨u, v, huv, ⟨x0, x1⟩, ⟨fx0, fx1⟩, ⟨y0, y1⟩, ⟨fy0, fy1⟩, hX⟩ := hI.st.xch HB.out (i := x) (j := y) (by rw [hI.len]; omega) (by rw [hI.len]; omega)
         have hI2 := hI.swapped hX (HPX.out (by omega)) (HPY.out (by omega)) (by omega) (by omega) (by omega) hbn
         have HX := Lib.hid hI2
         clear hX hI2 HPX HPY huv
         have hxn : x < n := by omega
         have hyn : y < n := by omega
         obtain ⟨y', rfl⟩ : ∃ y', y = y' + 1 := ⟨y - 1, by omega⟩
         go_wp2
         go_region
         go_wp2
         go_roundw
         case rel => exact ⟨x + 1, y', _, by go_num, by go_num, by omega, by omega, by omega, HX.out⟩
         case measure => simp [intOf]; try omega

end Go.Proofs.Ytglfdclpjmhoiaa

/- The sort's partition by those that are like the pivot, walked. -/

namespace Go.Proofs.Ytglfdclpjmhoiaa
open Go.RowKit Go.Sort

set_option maxRecDepth 100000 in
set_option maxHeartbeats 4000000 in
theorem partitionEqual_any (cf : FuncId) (rv : Value) (ord : HitP → HitP → Int) (S : HitP → Prop) (C : World → Prop) (g n cap cc a b pv : Nat) (l : List HitP) (w W : World) (hB : CmpB cf rv ord S C g) (hO : Ord (ltO ord)) (hl : ∀ h ∈ l, S h) (hn : l.length = n) (hn1 : n ≤ 1000000000000) (hab : a + 1 < b) (hbn : b ≤ n) (hpv : a ≤ pv ∧ pv < b) (hP : SSt C w g cap l W) :
  Calls Try.prog 85 #[.slice (some ⟨g, 0, none⟩) n cc, .int .i64 a, .int .i64 b, .int .i64 pv, .func (.func cf) #[rv] #[]] W fun e w' =>
   ∃ (m : Nat) (c' : List HitP), e = .returned (.int .i64 m) ∧ (a < m ∧ m ≤ b) ∧ PartEq ord a b pv l c' m ∧ SSt C w g cap c' w' := by
 have he := hB.enters
 have HB := Lib.hid hB
 have HO := Lib.hid hO
 obtain ⟨q, hq⟩ : ∃ q, b = q + 1 := ⟨b - 1, by omega⟩
 subst hq
 obtain ⟨l2, hl2⟩ : ∃ l2, l2 = swp l a pv := ⟨_, rfl⟩
 have HSG : Hid (Seg a (q + 1) l l2) := by rw [Hid, hl2]; exact Seg.swap l (by omega) (by omega)
 have HM : Hid (∀ x ∈ l2, S x) := seg_S HSG.out (by omega) hl
 have HN2 : Hid (l2.length = n) := by rw [Hid, HSG.out.length]; exact hn
 have HE := Lib.hid hl2
 have HPV := Lib.hid hpv
 obtain ⟨u, v, huv, ⟨x0, x1⟩, ⟨fx0, fx1⟩, ⟨y0, y1⟩, ⟨fy0, fy1⟩, hX⟩ := hP.xch HB.out (i := a) (j := pv) (by omega) (by omega)
 rw [← hl2] at hX
 obtain ⟨hp1, hp2⟩ := hpv
 have hpn : pv < n := by omega
 have han : a < n := by omega
 clear hn hl hB hP hl2 hO
 go_enter Try.func85, Try.ntmps85
 go_upto_region 2 with fail
 go_cut [] (fun wx => SSt C w g cap l2 wx)
 case first =>
  by_cases hpa : pv = a
  ·
   subst hpa
   have huv' := huv rfl
   subst huv'
   clear huv
   have HX := Lib.hid hX
   clear hX
   go_region
   go_wp2_with fail
   go_meet
   exact HX.out
  ·
   clear huv
   have HX := Lib.hid hX
   clear hX
   go_region
   go_wp2_with fail
   go_meet
   exact HX.out
 case rest =>
  clear huv hX x0 x1 fx0 fx1 y0 y1 fy0 fy1
  have hI : PI (eqQ ord) S C w g cap n a (q + 1) l2 l2 (a + 1) q wc := PI.start HN2.out HM.out hcut
  clear hcut
  obtain ⟨W1, hW1⟩ : ∃ W1, W1 = wc := ⟨_, rfl⟩
  rw [← hW1] at hI ⊢
  clear hW1
  go_wp2
  go_loopw [11, 12] (fun i j wr => ∃ (x y : Nat) (c : List HitP), i = .int .i64 x ∧ j = .int .i64 y ∧ a + 1 ≤ x ∧ x ≤ y + 1 ∧ y ≤ q ∧ PI (eqQ ord) S C w g cap n a (q + 1) l2 c x y wr) (fun _ j _ => (intOf j).toNat)
  case atStart => exact ⟨a + 1, q, _, by go_num, by go_num, by omega, by omega, by omega, hI⟩
  case round =>
   clear hI
   obtain ⟨x0, y0, c0, rfl, rfl, hb1, hb2, hb3, hI⟩ := hrel
   go_upto_block 2 with fail
   go_cut [11] (fun si wx => ∃ (x : Nat) (c : List HitP), si = .int .i64 x ∧ a + 1 ≤ x ∧ x ≤ y0 + 1 ∧ Hid (x ≤ y0 → ¬ (eqQ ord) (nth c a) (nth c x)) ∧ PI (eqQ ord) S C w g cap n a (q + 1) l2 c x y0 wx)
   case first =>
    go_wp2_with fail
    go_loopw [11] (fun i wr => ∃ (x : Nat) (c : List HitP), i = .int .i64 x ∧ a + 1 ≤ x ∧ x ≤ y0 + 1 ∧ PI (eqQ ord) S C w g cap n a (q + 1) l2 c x y0 wr) (fun i _ => y0 + 1 - (intOf i).toNat)
    case atStart => exact ⟨_, _, by go_num, by omega, by omega, hI⟩
    case round =>
     clear hI
     obtain ⟨x, c, rfl, hx1, hx2, hI⟩ := hrel
     by_cases hlt : x ≤ y0
     ·
      obtain ⟨u, v, HU, HV, gx0, gx1, gy0, gy1, hcall⟩ := hI.look HB.out (k := a) (j := x) (by omega) (by omega)
      have hd0 : decide ((x : Int) ≤ y0) = true := by simp; omega
      go_wp2
      refine wp_region_quiet_below mixed (by kernel_rfl) ?_
      repeat (go_big_quiet_step (exact grown_below (hcall _ _)))
      refine wpQuiet_nil ?_
      rintro _ ⟨⟨dq, osq⟩, rfl⟩
      have hI2 := hI.below HB.out (below_regrown wr dq osq)
      clear gx0 gx1 gy0 gy1 hcall hI
      dsimp only
      obtain ⟨W2, hW2⟩ : ∃ W2, W2 = grow (redrawn wr dq) osq := ⟨_, rfl⟩
      rw [← hW2] at hI2 ⊢
      clear hW2
      by_cases hxy : ord u v < 0
      ·
       have hdx : decide (ord u v < 0) = true := by simp [hxy]
       rw [hdx]
       have HP2 : Hid (x ≤ y0 → ¬ (eqQ ord) (nth c a) (nth c x)) := fun _ => by unfold eqQ; rw [HU.out, HV.out]; exact fun h => h hxy
       clear hxy hdx
       go_wp2_with fail
       go_meet
       exact ⟨x, c, rfl, hx1, hx2, HP2, hI2⟩
      ·
       have hdx : decide (ord u v < 0) = false := by simp [hxy]
       rw [hdx]
       have hI3 := hI2.up (x := x) (by unfold eqQ; rw [HU.out, HV.out]; exact hxy)
       clear hxy hdx hI2
       go_wp2
       go_roundw
       case rel => exact ⟨x + 1, c, by go_num, by omega, by omega, hI3⟩
       case measure => simp [intOf]; omega
     ·
      have hd0 : decide ((x : Int) ≤ y0) = false := by simp; omega
      have HP2 : Hid (x ≤ y0 → ¬ (eqQ ord) (nth c a) (nth c x)) := fun h => absurd h hlt
      go_wp2
      go_quiet (fail)
      go_wp2_with fail
      go_meet
      exact ⟨x, c, rfl, hx1, hx2, HP2, hI.below HB.out ⟨rfl, rfl, rfl, Nat.le_refl _, fun _ _ => rfl⟩⟩
   case rest =>
    clear hI
    obtain ⟨x, c, rfl, hx1, hx2, HPX, hI⟩ := hcut
    go_upto_block 4 with fail
    go_cut [12] (fun sj wx => ∃ y : Nat, sj = .int .i64 y ∧ x ≤ y + 1 ∧ y ≤ y0 ∧ Hid (x ≤ y → (eqQ ord) (nth c a) (nth c y)) ∧ PI (eqQ ord) S C w g cap n a (q + 1) l2 c x y wx)
    case first =>
     go_wp2_with fail
     go_loopw [12] (fun j wr => ∃ y : Nat, j = .int .i64 y ∧ x ≤ y + 1 ∧ y ≤ y0 ∧ PI (eqQ ord) S C w g cap n a (q + 1) l2 c x y wr) (fun j _ => (intOf j).toNat)
     case atStart => exact ⟨y0, by go_num, by omega, Nat.le_refl _, hI⟩
     case round =>
      clear hI
      obtain ⟨y, rfl, hy1, hy2, hI⟩ := hrel
      by_cases hlt : x ≤ y
      ·
       obtain ⟨z, rfl⟩ : ∃ z, y = z + 1 := ⟨y - 1, by omega⟩
       obtain ⟨u, v, HU, HV, gx0, gx1, gy0, gy1, hcall⟩ := hI.look HB.out (k := a) (j := z + 1) (by omega) (by omega)
       have hd0 : decide ((x : Int) ≤ (z : Int) + 1) = true := by simp; omega
       go_wp2
       refine wp_region_quiet_below mixed (by kernel_rfl) ?_
       repeat (go_big_quiet_step (exact grown_below (hcall _ _)))
       refine wpQuiet_nil ?_
       rintro _ ⟨⟨dq, osq⟩, rfl⟩
       have hI2 := hI.below HB.out (below_regrown wr dq osq)
       clear gx0 gx1 gy0 gy1 hcall hI
       dsimp only
       obtain ⟨W2, hW2⟩ : ∃ W2, W2 = grow (redrawn wr dq) osq := ⟨_, rfl⟩
       rw [← hW2] at hI2 ⊢
       clear hW2
       by_cases hxy : ord u v < 0
       ·
        have hdx : decide (ord u v < 0) = true := by simp [hxy]
        rw [hdx]
        have hI3 := hI2.down (z := z) (by unfold eqQ; rw [HU.out, HV.out]; exact fun h => h hxy)
        clear hxy hdx hI2
        go_wp2
        go_roundw
        case rel => exact ⟨z, by go_num, by omega, by omega, hI3⟩
        case measure => simp [intOf]; try omega
       ·
        have hdx : decide (ord u v < 0) = false := by simp [hxy]
        rw [hdx]
        have HP2 : Hid (x ≤ z + 1 → (eqQ ord) (nth c a) (nth c (z + 1))) := fun _ => by unfold eqQ; rw [HU.out, HV.out]; exact hxy
        clear hxy hdx
        go_wp2_with fail
        go_meet
        exact ⟨z + 1, by go_num, hy1, hy2, HP2, hI2⟩
      ·
       have hd0 : decide ((x : Int) ≤ y) = false := by simp; omega
       have HP2 : Hid (x ≤ y → (eqQ ord) (nth c a) (nth c y)) := fun h => absurd h hlt
       go_wp2
       go_quiet (fail)
       go_wp2_with fail
       go_meet
       exact ⟨y, rfl, hy1, hy2, HP2, hI.below HB.out ⟨rfl, rfl, rfl, Nat.le_refl _, fun _ _ => rfl⟩⟩
    case rest =>
     clear hI
     obtain ⟨y, rfl, hy1, hy2, HPY, hI⟩ := hcut
     by_cases hex : y < x
     ·
      have hd : decide ((y : Int) < x) = true := by simp; omega
      obtain rfl : x = y + 1 := by omega
      have HR : Hid (PartEq ord a (q + 1) pv l c (y + 1)) := hI.partEq HO.out HE.out HSG.out HPV.out (by omega) hbn
      have hbd : a < y + 1 ∧ y + 1 ≤ q + 1 := by omega
      have HX := Lib.hid hI.st
      clear hI HPX HPY
      go_wp2
      go_ret
      exact ⟨y + 1, c, by go_num, hbd, HR.out, HX.out⟩
     ·
      have hd : decide ((y : Int) < x) = false := by simp; omega
      have hne : x ≠ y := fun e => HPX.out (by omega) (by rw [e]; exact HPY.out (by omega))
      obtain ⟨u, v, huv, ⟨x0, x1⟩, ⟨fx0, fx1⟩, ⟨y0, y1⟩, ⟨fy0, fy1⟩, hX⟩ := hI.st.xch HB.out (i := x) (j := y) (by rw [hI.len]; omega) (by rw [hI.len]; omega)
      have hI2 := hI.swapped hX (HPX.out (by omega)) (HPY.out (by omega)) (by omega) (by omega) (by omega) hbn
      have HX := Lib.hid hI2
      clear hX hI2 HPX HPY huv
      have hxn : x < n := by omega
      have hyn : y < n := by omega
      obtain ⟨y', rfl⟩ : ∃ y', y = y' + 1 := ⟨y - 1, by omega⟩
      go_wp2
      go_region
      go_wp2
      go_roundw
      case rel => exact ⟨x + 1, y', _, by go_num, by go_num, by omega, by omega, by omega, HX.out⟩
      case measure => simp [intOf]; try omega

end Go.Proofs.Ytglfdclpjmhoiaa

/- Heaps: plain laws; the sort's siftDown walked. -/

namespace Go.Proofs.Ytglfdclpjmhoiaa
open Go.RowKit Go.Sort

section
variable {lt : HitP → HitP → Prop} {c : List HitP} {f hi lo r m : Nat}
theorem Heap.start (h : Heap lt c f hi (lo + 1) hi) : Heap lt c f hi lo lo ∧ Above lt c f hi lo lo :=
 ⟨fun k j h1 h2 h3 h4 => h k j (by omega) (by omega) h3 h4, fun k j h1 h2 h3 h4 => by omega⟩
theorem Heap.stop0 (h : Heap lt c f hi lo r) (h0 : hi ≤ 2 * r + 1) : Heap lt c f hi lo hi := fun k j h1 h2 h3 h4 => by
 by_cases e : k = r
 · omega
 · exact h k j h1 e h3 h4
/-- The greater of a node's kids. -/
def Kid (lt : HitP → HitP → Prop) (c : List HitP) (f hi r m : Nat) : Prop := (m = 2 * r + 1 ∨ m = 2 * r + 2) ∧ m < hi ∧ ∀ j, (j = 2 * r + 1 ∨ j = 2 * r + 2) → j < hi → ¬ lt (nth c (f + m)) (nth c (f + j))
theorem Heap.stop (hO : Ord lt) (h : Heap lt c f hi lo r) (hm : Kid lt c f hi r m) (h0 : ¬ lt (nth c (f + r)) (nth c (f + m))) : Heap lt c f hi lo hi := fun k j h1 h2 h3 h4 => by
 by_cases e : k = r
 ·
  rw [e]
  rw [e] at h3
  exact hO.ntrans _ _ _ h0 (hm.2.2 j h3 h4)
 · exact h k j h1 e h3 h4
theorem Heap.step (hO : Ord lt) (h : Heap lt c f hi lo r) (ha : Above lt c f hi lo r) (hm : Kid lt c f hi r m) (hr : lo ≤ r) (hc : f + hi ≤ c.length) (h0 : lt (nth c (f + r)) (nth c (f + m))) :
  Heap lt (swp c (f + r) (f + m)) f hi lo m ∧ Above lt (swp c (f + r) (f + m)) f hi lo m := by
 obtain ⟨h1, h2, h3⟩ := hm
 have E : ∀ k, nth (swp c (f + r) (f + m)) (f + k) = if k = m then nth c (f + r) else if k = r then nth c (f + m) else nth c (f + k) := fun k => by
  rw [nth_swp (by omega) (by omega)]
  have e1 : (f + k = f + m) = (k = m) := by simp
  have e2 : (f + k = f + r) = (k = r) := by simp
  simp only [e1, e2]
 refine ⟨fun k j g1 g2 g3 g4 => ?_, fun k j g1 g2 g3 g4 => ?_⟩
 ·
  rw [E k, E j, if_neg g2]
  by_cases e : k = r
  ·
   rw [if_pos e]
   by_cases e2 : j = m
   · rw [if_pos e2]; exact hO.asym _ _ h0
   ·
    rw [if_neg e2, if_neg (by omega)]
    exact h3 j (by rw [← e]; exact g3) g4
  ·
   rw [if_neg e]
   by_cases e2 : j = m
   · omega
   ·
    rw [if_neg e2]
    by_cases e3 : j = r
    ·
     rw [if_pos e3]
     exact ha k m g1 (by omega) (by omega) h2
    ·
     rw [if_neg e3]
     exact h k j g1 e g3 g4
 ·
  have ek : k = r := by omega
  rw [E k, E j, if_neg (by omega), if_pos ek, if_neg (by omega), if_neg (by omega)]
  exact h m j (by omega) (by omega) g3 g4
end
theorem SSt.look {S : HitP → Prop} {C : World → Prop} {w W : World} {g cap k j : Nat} {c : List HitP} {cf : FuncId} {rv : Value} {ord : HitP → HitP → Int} (hB : CmpB cf rv ord S C g) (h : SSt C w g cap c W) (hS : ∀ x ∈ c, S x) (hk : k < c.length) (hj : j < c.length) :
  ∃ u v : HitP, Hid (nth c k = u) ∧ Hid (nth c j = v) ∧
   (∀ d os, (grow (redrawn W d) os).cell? ⟨g, k * 2, none⟩ = some (.int .i64 u.1)) ∧ (∀ d os, (grow (redrawn W d) os).cell? ⟨g, k * 2 + 1, none⟩ = some (.int .i64 u.2)) ∧
   (∀ d os, (grow (redrawn W d) os).cell? ⟨g, j * 2, none⟩ = some (.int .i64 v.1)) ∧ (∀ d os, (grow (redrawn W d) os).cell? ⟨g, j * 2 + 1, none⟩ = some (.int .i64 v.2)) ∧
   ∀ d os, Calls Try.prog cf #[rv, .agg #[.int .i64 u.1, .int .i64 u.2], .agg #[.int .i64 v.1, .int .i64 v.2]] (grow (redrawn W d) os) fun e w' => e = .returned (.int .i64 (ord u v)) ∧ Below (grow (redrawn W d) os).heap.size (grow (redrawn W d) os) w' := by
 obtain ⟨_, _, g0, g1⟩ := h.cell hk rfl
 obtain ⟨_, _, g2, g3⟩ := h.cell hj rfl
 exact ⟨nth c k, nth c j, rfl, rfl, g0, g1, g2, g3, h.call hB (hS _ (nth_mem hk)) (hS _ (nth_mem hj))⟩

/-- The state of siftDown. -/
structure SD (ord : HitP → HitP → Int) (S : HitP → Prop) (C : World → Prop) (w : World) (g cap n f lo hi : Nat) (l c : List HitP) (r : Nat) (W : World) : Prop where
 seg : Seg (f + lo) (f + hi) l c
 len : c.length = n
 mem : ∀ h ∈ c, S h
 heap : Heap (ltO ord) c f hi lo r
 above : Above (ltO ord) c f hi lo r
 st : SSt C w g cap c W
theorem SD.below {ord : HitP → HitP → Int} {S : HitP → Prop} {C : World → Prop} {w W W' : World} {g cap n f lo hi r : Nat} {l c : List HitP} {cf : FuncId} {rv : Value} (hB : CmpB cf rv ord S C g) (h : SD ord S C w g cap n f lo hi l c r W) (hb : Below W.heap.size W W') : SD ord S C w g cap n f lo hi l c r W' :=
 ⟨h.seg, h.len, h.mem, h.heap, h.above, h.st.below hB hb⟩
theorem SD.step {ord : HitP → HitP → Int} {S : HitP → Prop} {C : World → Prop} {w W W' : World} {g cap n f lo hi r m : Nat} {l c : List HitP} (hO : Ord (ltO ord)) (h : SD ord S C w g cap n f lo hi l c r W) (hm : Kid (ltO ord) c f hi r m) (hr : lo ≤ r) (hn : f + hi ≤ n) (h0 : ltO ord (nth c (f + r)) (nth c (f + m))) (hs : SSt C w g cap (swp c (f + r) (f + m)) W') :
  SD ord S C w g cap n f lo hi l (swp c (f + r) (f + m)) m W' := by
 have hl := h.len
 have hm1 := hm.1
 have hm2 := hm.2.1
 have hsg : Seg (f + lo) (f + hi) c (swp c (f + r) (f + m)) := Seg.swap c (by omega) (by omega)
 have hst := Heap.step hO h.heap h.above hm hr (by omega) h0
 exact ⟨h.seg.trans hsg, by rw [swp_length]; exact hl, seg_S hsg (by omega) h.mem, hst.1, hst.2, hs⟩

set_option maxRecDepth 100000 in
set_option maxHeartbeats 4000000 in
theorem siftDown_any (cf : FuncId) (rv : Value) (ord : HitP → HitP → Int) (S : HitP → Prop) (C : World → Prop) (g n cap cc lo hi f : Nat) (l : List HitP) (w W : World) (hB : CmpB cf rv ord S C g) (hO : Ord (ltO ord)) (hl : ∀ h ∈ l, S h) (hn : l.length = n) (hn1 : n ≤ 1000000000000) (hlo : lo ≤ hi) (hfn : f + hi ≤ n)
  (hH : Heap (ltO ord) l f hi (lo + 1) hi) (hP : SSt C w g cap l W) :
  Calls Try.prog 92 #[.slice (some ⟨g, 0, none⟩) n cc, .int .i64 lo, .int .i64 hi, .int .i64 f, .func (.func cf) #[rv] #[]] W fun e w' =>
   e = .returned (.tuple #[]) ∧ ∃ c', Seg (f + lo) (f + hi) l c' ∧ Heap (ltO ord) c' f hi lo hi ∧ SSt C w g cap c' w' := by
 have he := hB.enters
 have HB := Lib.hid hB
 have HO := Lib.hid hO
 have HFN := Lib.hid hfn
 have hI : SD ord S C w g cap n f lo hi l l lo W := ⟨Seg.refl _ _ _, hn, hl, hH.start.1, hH.start.2, hP⟩
 clear hn hl hB hP hH hO
 go_enter Try.func92, Try.ntmps92
 go_wp2
 go_loopw [10, 11] (fun i _ wr => ∃ (r : Nat) (c : List HitP), i = .int .i64 r ∧ lo ≤ r ∧ r ≤ hi ∧ SD ord S C w g cap n f lo hi l c r wr) (fun i _ _ => hi + 1 - (intOf i).toNat)
 case atStart => exact ⟨lo, l, rfl, Nat.le_refl _, hlo, hI⟩
 case round =>
  clear hI
  obtain ⟨r, c, rfl, hr1, hr2, hI⟩ := hrel
  obtain ⟨m, hm⟩ : ∃ m, m = 2 * r + 1 := ⟨_, rfl⟩
  have HM := Lib.hid hm
  have E1 := Lib.hid (show (2 : Int) * (r : Int) + 1 = ((m : Nat) : Int) from by omega)
  go_upto_region 2 with fail
  rw [E1.out]
  by_cases hex : hi ≤ m
  ·
   have hd : decide ((hi : Int) ≤ m) = true := by simp; omega
   have HF : Hid (Seg (f + lo) (f + hi) l c ∧ Heap (ltO ord) c f hi lo hi) := ⟨hI.seg, hI.heap.stop0 (by omega)⟩
   have HX := Lib.hid hI.st
   clear hI hm
   go_wp2
   go_end0
   exact ⟨rfl, c, HF.out.1, HF.out.2, HX.out⟩
  ·
   have hd : decide ((hi : Int) ≤ m) = false := by simp; omega
   clear hm
   go_upto_region 3 with fail
   go_cut [40] (fun s40 wx => ∃ B : Bool, s40 = .bool B ∧ Hid ((B = true → m + 1 < hi ∧ ltO ord (nth c (f + m)) (nth c (f + m + 1))) ∧ (B = false → m + 1 < hi → ¬ ltO ord (nth c (f + m)) (nth c (f + m + 1)))) ∧ SD ord S C w g cap n f lo hi l c r wx)
   case first =>
    by_cases h2 : m + 1 < hi
    ·
     obtain ⟨u, v, HU, HV, gx0, gx1, gy0, gy1, hcall⟩ := hI.st.look HB.out hI.mem (k := f + m) (j := f + m + 1) (by rw [hI.len]; omega) (by rw [hI.len]; omega)
     have hd0 : decide ((m : Int) + 1 < hi) = true := by simp; omega
     have hb1 : f + m < n := by omega
     have hb2 : f + m + 1 < n := by omega
     refine wp_region_quiet_below mixed (by kernel_rfl) ?_
     repeat (go_big_quiet_step (exact grown_below (hcall _ _)))
     refine wpQuiet_nil ?_
     rintro _ ⟨⟨dq, osq⟩, rfl⟩
     have hI2 := hI.below HB.out (below_regrown wr dq osq)
     have HP : Hid ((decide (ord u v < 0) = true → m + 1 < hi ∧ ltO ord (nth c (f + m)) (nth c (f + m + 1))) ∧ (decide (ord u v < 0) = false → m + 1 < hi → ¬ ltO ord (nth c (f + m)) (nth c (f + m + 1)))) := by
      unfold ltO; rw [HU.out, HV.out]
      exact ⟨fun h => ⟨h2, of_decide_eq_true h⟩, fun h _ => of_decide_eq_false h⟩
     clear gx0 gx1 gy0 gy1 hcall hI
     dsimp only
     obtain ⟨B, hBB⟩ : ∃ B, B = decide (ord u v < 0) := ⟨_, rfl⟩
     rw [← hBB] at HP ⊢
     clear hBB
     go_wp2_with fail
     go_meet
     exact ⟨B, rfl, HP, hI2⟩
    ·
     have hd0 : decide ((m : Int) + 1 < hi) = false := by simp; omega
     go_quiet (fail)
     go_wp2_with fail
     go_meet
     exact ⟨false, rfl, ⟨fun h => (by cases h), fun _ h => absurd h (by omega)⟩, hI.below HB.out ⟨rfl, rfl, rfl, Nat.le_refl _, fun _ _ => rfl⟩⟩
   case rest =>
    clear hI
    obtain ⟨B, rfl, HP, hI⟩ := hcut
    go_upto_if 40 with fail
    go_cut [11] (fun s11 wx => ∃ m : Nat, s11 = .int .i64 m ∧ Hid (Kid (ltO ord) c f hi r m) ∧ SD ord S C w g cap n f lo hi l c r wx)
    case first =>
     cases B
     ·
      have HK : Hid (Kid (ltO ord) c f hi r m) := by
       have hm := HM.out
       refine ⟨.inl hm, by omega, fun j hj1 hj2 => ?_⟩
       rcases hj1 with hj1 | hj1
       · rw [hj1, ← hm]; exact HO.out.irrefl _
       ·
        have e : f + j = f + m + 1 := by omega
        rw [e]; exact HP.out.2 rfl (by omega)
      clear HP
      go_wp2_with fail
      go_meet
      exact ⟨m, rfl, HK, hI⟩
     ·
      have HK : Hid (Kid (ltO ord) c f hi r (m + 1)) := by
       have hm := HM.out
       have hp := HP.out.1 rfl
       have e1 : f + (m + 1) = f + m + 1 := by omega
       refine ⟨.inr (by omega), hp.1, fun j hj1 hj2 => ?_⟩
       rw [e1]
       rcases hj1 with hj1 | hj1
       · rw [hj1, ← hm]; exact HO.out.asym _ _ hp.2
       ·
        have e : f + j = f + m + 1 := by omega
        rw [e]; exact HO.out.irrefl _
      clear HP
      go_wp2_with fail
      go_meet
      exact ⟨m + 1, by go_num, HK, hI⟩
    case rest =>
     clear hI HP
     obtain ⟨m', rfl, HK, hI⟩ := hcut
     have hm1 : f + m' < n := by have := HK.out.2.1; omega
     have hr3 : f + r < n := by have := HK.out.2.1; have := HK.out.1; omega
     have hrm : r < m' := by have := HK.out.1; omega
     have hmh : m' < hi := HK.out.2.1
     obtain ⟨u, v, HU, HV, gx0, gx1, gy0, gy1, hcall⟩ := hI.st.look HB.out hI.mem (k := f + r) (j := f + m') (by rw [hI.len]; omega) (by rw [hI.len]; omega)
     go_wp2
     refine wp_region_quiet_below mixed (by kernel_rfl) ?_
     repeat (go_big_quiet_step (exact grown_below (hcall _ _)))
     refine wpQuiet_nil ?_
     rintro _ ⟨⟨dq, osq⟩, rfl⟩
     have hI2 := hI.below HB.out (below_regrown wc dq osq)
     clear gx0 gx1 gy0 gy1 hcall hI
     dsimp only
     obtain ⟨W2, hW2⟩ : ∃ W2, W2 = grow (redrawn wc dq) osq := ⟨_, rfl⟩
     rw [← hW2] at hI2 ⊢
     clear hW2
     by_cases hxy : ord u v < 0
     ·
      have hdx : decide (ord u v < 0) = true := by simp [hxy]
      rw [hdx]
      have HLT : Hid (ltO ord (nth c (f + r)) (nth c (f + m'))) := by rw [Hid, ltO, HU.out, HV.out]; exact hxy
      clear hxy hdx HU HV
      obtain ⟨u, v, huv, ⟨x0, x1⟩, ⟨fx0, fx1⟩, ⟨y0, y1⟩, ⟨fy0, fy1⟩, hX⟩ := hI2.st.xch HB.out (i := f + r) (j := f + m') (by rw [hI2.len]; omega) (by rw [hI2.len]; omega)
      have HX := Lib.hid (hI2.step HO.out HK.out hr1 HFN.out HLT.out hX)
      clear huv hX hI2
      go_wp2
      go_region
      go_wp2
      go_roundw
      case rel => exact ⟨m', _, rfl, by omega, by omega, HX.out⟩
      case measure => simp [intOf]; omega
     ·
      have hdx : decide (ord u v < 0) = false := by simp [hxy]
      rw [hdx]
      have HF : Hid (Seg (f + lo) (f + hi) l c ∧ Heap (ltO ord) c f hi lo hi) := ⟨hI2.seg, hI2.heap.stop HO.out HK.out (by unfold ltO; rw [HU.out, HV.out]; exact hxy)⟩
      have HX := Lib.hid hI2.st
      clear hxy hdx hI2
      go_wp2
      (try simp only [Exit.inBlock, Exit.then])
      refine bodyPost_ret (results_none rfl _ _ _) rfl ?_
      exact ⟨rfl, c, HF.out.1, HF.out.2, HX.out⟩

end Go.Proofs.Ytglfdclpjmhoiaa
