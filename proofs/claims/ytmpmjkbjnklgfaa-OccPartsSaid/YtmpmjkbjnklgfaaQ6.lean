/- Parts of the proof, one behind the other: I1, I2, H1, I3, Jp, J1, J4, JA, J2, JB, JC. No condition but what each theorem states. -/
import Derived.BigRegion
import Derived.Shelf.SlGeneric
import Derived.Shelf.SlLaysF0
import Derived.Test.YtmpmjkbjnklgfaaProg
import Derived.Shelf.SlSortCmp.Xorshift
import Derived.Shelf.SlSortFuncK.BreakPatternsK
import Derived.Deep.CutBlock
import Derived.Deep.DeepCutAuto
import Derived.Test.YtmpmjkbjnklgfaaQ5

/- Hits sorted in place by insertion, by a method that compares: walked. -/


namespace Go.Proofs.Ytmpmjkbjnklgfaa
open Go.RowKit Go.Sort
set_option linter.unusedVariables false

abbrev nth (c : List HitP) (i : Nat) : HitP := c.getD i (0, 0)
/-- A block that holds hits from its head on. -/
def RowAt (W : World) (g cap : Nat) (l : List HitP) : Prop :=
  ∃ cur : Array Value, W.heap[g]? = some (.cells cur 43 (0, 0)) ∧ cur.size = cap * 2 ∧ l.length ≤ cap ∧ ∀ k, k < l.length → cur[k * 2]? = some (.int .i64 (nth l k).1) ∧ cur[k * 2 + 1]? = some (.int .i64 (nth l k).2)
theorem RowAt.lt {W : World} {g cap : Nat} {l : List HitP} (h : RowAt W g cap l) : g < W.heap.size := by
  obtain ⟨cur, h1, _⟩ := h
  exact (Array.getElem?_eq_some_iff.1 h1).1
theorem RowAt.cell {W : World} {g cap : Nat} {l : List HitP} (h : RowAt W g cap l) {k : Nat} (hk : k < l.length) :
    W.cell? ⟨g, k * 2, none⟩ = some (.int .i64 (nth l k).1) ∧ W.cell? ⟨g, k * 2 + 1, none⟩ = some (.int .i64 (nth l k).2) ∧ W.frozen? ⟨g, k * 2, none⟩ = false ∧ W.frozen? ⟨g, k * 2 + 1, none⟩ = false := by
  obtain ⟨cur, h1, h2, h3, h4⟩ := h
  obtain ⟨c0, c1⟩ := h4 k hk
  simp [World.cell?, World.frozen?, h1, c0, c1]
theorem RowAt.below {W W' : World} {g cap : Nat} {l : List HitP} (h : RowAt W g cap l) (hb : Below W.heap.size W W') : RowAt W' g cap l := by
  have hlt := h.lt
  obtain ⟨cur, h1, h2⟩ := h
  exact ⟨cur, (hb.block g hlt).trans h1, h2⟩
theorem nth_set {l : List HitP} {k i : Nat} {h : HitP} (hk : k < l.length) : nth (l.set k h) i = if i = k then h else nth l i := by
  unfold nth
  rw [List.getD_eq_getElem?_getD, List.getElem?_set, List.getD_eq_getElem?_getD]
  by_cases e : k = i
  · subst e; simp [hk]
  · rw [if_neg e, if_neg (fun h => e h.symm)]
theorem RowAt.set {W : World} {g cap : Nat} {l : List HitP} (h : RowAt W g cap l) {k : Nat} (hk : k < l.length) (x : HitP) :
    RowAt ((W.setCell ⟨g, k * 2, none⟩ (.int .i64 x.1)).setCell ⟨g, k * 2 + 1, none⟩ (.int .i64 x.2)) g cap (l.set k x) := by
  obtain ⟨cur, h1, h2, h3, h4⟩ := h
  have e1 := set_at (i := k * 2) h1 (.int .i64 x.1)
  have e2 := set_at (i := k * 2 + 1) e1 (.int .i64 x.2)
  refine ⟨_, e2, by simp [h2], by simpa using h3, fun j hj => ?_⟩
  rw [List.length_set] at hj
  obtain ⟨c0, c1⟩ := h4 j hj
  rw [nth_set hk]
  by_cases e : j = k
  · subst e
    rw [if_pos rfl]
    simp [Array.getElem?_setIfInBounds, h2]
    omega
  · rw [if_neg e]
    rw [Array.getElem?_setIfInBounds_ne (by omega), Array.getElem?_setIfInBounds_ne (by omega), Array.getElem?_setIfInBounds_ne (by omega), Array.getElem?_setIfInBounds_ne (by omega)]
    exact ⟨c0, c1⟩
/-- Two neighbours exchanged. -/
def swapN (l : List HitP) (j : Nat) : List HitP := (l.set (j + 1) (nth l j)).set j (nth l (j + 1))
theorem swapN_length (l : List HitP) (j : Nat) : (swapN l j).length = l.length := by simp [swapN]
theorem nth_swapN {l : List HitP} {j i : Nat} (hj : j + 1 < l.length) : nth (swapN l j) i = if i = j then nth l (j + 1) else if i = j + 1 then nth l j else nth l i := by
  unfold swapN
  rw [nth_set (by simp; omega), nth_set hj]
theorem swapN_perm {l : List HitP} {j : Nat} (hj : j + 1 < l.length) : (swapN l j).Perm l := by
  have hl : l = l.take j ++ nth l j :: nth l (j + 1) :: l.drop (j + 2) := by
    conv => lhs; rw [← List.take_append_drop j l, List.drop_eq_getElem_cons (by omega), List.drop_eq_getElem_cons hj]
    simp [nth, List.getD_eq_getElem?_getD]
    rw [List.getElem?_eq_getElem (by omega), List.getElem?_eq_getElem hj]
    simp
  have hs : swapN l j = l.take j ++ nth l (j + 1) :: nth l j :: l.drop (j + 2) := by
    apply List.ext_getElem?
    intro i
    have hlen : (l.take j).length = j := by simp; omega
    by_cases hi : i < l.length
    · have e1 : (swapN l j)[i]? = some (nth (swapN l j) i) := by
        unfold nth
        rw [List.getD_eq_getElem?_getD, List.getElem?_eq_getElem (by rw [swapN_length]; exact hi), Option.getD_some]
      have e2 : ∀ i, i < l.length → l[i]? = some (nth l i) := by
        intro i hi
        unfold nth
        rw [List.getD_eq_getElem?_getD, List.getElem?_eq_getElem hi, Option.getD_some]
      rw [e1, nth_swapN hj]
      by_cases h1 : i = j
      · subst h1
        rw [List.getElem?_append_right (by omega), hlen]
        simp
      · by_cases h2 : i = j + 1
        · subst h2
          rw [List.getElem?_append_right (by omega), hlen]
          simp
        · rw [if_neg h1, if_neg h2]
          by_cases h3 : i < j
          · rw [List.getElem?_append_left (by omega), List.getElem?_take, if_pos h3, e2 i hi]
          · rw [List.getElem?_append_right (by omega), hlen, show i - j = (i - j - 2) + 1 + 1 by omega, List.getElem?_cons_succ, List.getElem?_cons_succ, List.getElem?_drop, show j + 2 + (i - j - 2) = i by omega, e2 i hi]
    · rw [List.getElem?_eq_none (by rw [swapN_length]; omega), List.getElem?_eq_none (by simp; omega)]
  rw [hs]
  conv => rhs; rw [hl]
  exact (List.Perm.swap _ _ _).append_left _

/-! ### plain: insertion -/
def InvI (lt : HitP → HitP → Prop) (c : List HitP) (i j : Nat) : Prop := ∀ p q, p < q → q ≤ i → q ≠ j → ¬ lt (nth c q) (nth c p)
def SrtTo (lt : HitP → HitP → Prop) (c : List HitP) (n : Nat) : Prop := ∀ p q, p < q → q < n → ¬ lt (nth c q) (nth c p)
theorem InvI.start {lt : HitP → HitP → Prop} {c : List HitP} {i : Nat} (h : SrtTo lt c i) : InvI lt c i i := fun p q h1 h2 h3 => h p q h1 (by omega)
theorem InvI.stop {lt : HitP → HitP → Prop} {c : List HitP} {i j : Nat} (hn : ∀ a b d, ¬ lt a b → ¬ lt b d → ¬ lt a d) (h : InvI lt c i j) (hj : j ≤ i) (h0 : j = 0 ∨ ¬ lt (nth c j) (nth c (j - 1))) : SrtTo lt c (i + 1) := by
  intro p q h1 h2
  by_cases hq : q = j
  · subst hq
    rcases h0 with h0 | h0
    · omega
    · by_cases hp : p = q - 1
      · rw [hp]; exact h0
      · exact hn _ _ _ h0 (h p (q - 1) (by omega) (by omega) (by omega))
  · exact h p q h1 (by omega) hq
theorem InvI.step {lt : HitP → HitP → Prop} {c : List HitP} {i j : Nat} (ha : ∀ a b, lt a b → ¬ lt b a) (h : InvI lt c i (j + 1)) (hj : j + 1 ≤ i) (hi : i < c.length) (hlt : lt (nth c (j + 1)) (nth c j)) : InvI lt (swapN c j) i j := by
  intro p q h1 h2 h3
  rw [nth_swapN (by omega), nth_swapN (by omega), if_neg h3]
  by_cases hq : q = j + 1
  · subst hq
    rw [if_pos rfl]
    by_cases hp : p = j
    · rw [if_pos hp]; exact ha _ _ hlt
    · rw [if_neg hp, if_neg (by omega)]
      exact h p j (by omega) (by omega) (by omega)
  · rw [if_neg hq]
    by_cases hp : p = j
    · rw [if_pos hp]
      exact h (j + 1) q (by omega) h2 hq
    · rw [if_neg hp]
      by_cases hp1 : p = j + 1
      · rw [if_pos hp1]
        exact h j q (by omega) h2 hq
      · rw [if_neg hp1]
        exact h p q h1 h2 hq

/-- What a function that compares owes the sort. -/
structure CmpB (cf : FuncId) (rv : Value) (ord : HitP → HitP → Int) (S : HitP → Prop) (C : World → Prop) (g : Nat) : Prop where
  enters : ∀ (args : Array Value) (w : World), Sem.run Try.prog (callFunc cf args) w = .ok (.enter cf args) w
  below : ∀ W W', C W → Below W.heap.size W W' → C W'
  store : ∀ W i v, C W → C (W.setCell ⟨g, i, none⟩ v)
  calls : ∀ x y W, S x → S y → C W → Calls Try.prog cf #[rv, .agg #[.int .i64 x.1, .int .i64 x.2], .agg #[.int .i64 y.1, .int .i64 y.2]] W fun e w' => e = .returned (.int .i64 (ord x y)) ∧ Below W.heap.size W w'

end Go.Proofs.Ytmpmjkbjnklgfaa

/- The insertion sort of hits, walked. -/

namespace Go.Proofs.Ytmpmjkbjnklgfaa
open Go.RowKit Go.Sort
set_option linter.unusedVariables false

theorem gb_of_below {W W' : World} (h : Below W.heap.size W W') (g : Nat) : W.grownBy W' (some g) := ⟨h.os, h.tape, h.output, h.size, fun k hk _ => h.block k hk⟩
theorem gb_drew (W : World) (n g : Nat) : W.grownBy (W.drewN n) (some g) := ⟨rfl, rfl, rfl, Nat.le_refl _, fun _ _ _ => rfl⟩
theorem nth_mem {l : List HitP} {i : Nat} (h : i < l.length) : nth l i ∈ l := by
  unfold nth
  rw [List.getD_eq_getElem?_getD, List.getElem?_eq_getElem h, Option.getD_some]
  exact List.getElem_mem h

theorem below_drew (W : World) : Below W.heap.size W W.drew := ⟨rfl, rfl, rfl, Nat.le_refl _, fun _ _ => rfl⟩
theorem swap_world {cf : FuncId} {rv : Value} {ord : HitP → HitP → Int} {S : HitP → Prop} {C : World → Prop} {g cap j : Nat} {c : List HitP} {x y : HitP} {w W : World} (hB : CmpB cf rv ord S C g) (hj : j + 1 < c.length) (hx : nth c (j + 1) = x) (hy : nth c j = y) (hR : RowAt W g cap c) (hC : C W) (hg : w.grownBy W (some g)) :
    RowAt ((((W.setCell ⟨g, (j + 1) * 2, none⟩ (.int .i64 y.1)).setCell ⟨g, (j + 1) * 2 + 1, none⟩ (.int .i64 y.2)).setCell ⟨g, j * 2, none⟩ (.int .i64 x.1)).setCell ⟨g, j * 2 + 1, none⟩ (.int .i64 x.2)).drew g cap (swapN c j) ∧
    C ((((W.setCell ⟨g, (j + 1) * 2, none⟩ (.int .i64 y.1)).setCell ⟨g, (j + 1) * 2 + 1, none⟩ (.int .i64 y.2)).setCell ⟨g, j * 2, none⟩ (.int .i64 x.1)).setCell ⟨g, j * 2 + 1, none⟩ (.int .i64 x.2)).drew ∧
    w.grownBy ((((W.setCell ⟨g, (j + 1) * 2, none⟩ (.int .i64 y.1)).setCell ⟨g, (j + 1) * 2 + 1, none⟩ (.int .i64 y.2)).setCell ⟨g, j * 2, none⟩ (.int .i64 x.1)).setCell ⟨g, j * 2 + 1, none⟩ (.int .i64 x.2)).drew (some g) := by
  subst hx hy
  have r1 := (hR.set (k := j + 1) hj (nth c j)).set (k := j) (by simp; omega) (nth c (j + 1))
  have c1 := hB.store _ (j * 2 + 1) (.int .i64 (nth c (j + 1)).2) (hB.store _ (j * 2) (.int .i64 (nth c (j + 1)).1) (hB.store _ ((j + 1) * 2 + 1) (.int .i64 (nth c j).2) (hB.store _ ((j + 1) * 2) (.int .i64 (nth c j).1) hC)))
  have g1 := (((hg.trans (grown_set2 W g ((j + 1) * 2) (.int .i64 (nth c j).1))).trans (grown_set2 _ g ((j + 1) * 2 + 1) (.int .i64 (nth c j).2))).trans (grown_set2 _ g (j * 2) (.int .i64 (nth c (j + 1)).1))).trans (grown_set2 _ g (j * 2 + 1) (.int .i64 (nth c (j + 1)).2))
  generalize (((W.setCell ⟨g, (j + 1) * 2, none⟩ (.int .i64 (nth c j).1)).setCell ⟨g, (j + 1) * 2 + 1, none⟩ (.int .i64 (nth c j).2)).setCell ⟨g, j * 2, none⟩ (.int .i64 (nth c (j + 1)).1)).setCell ⟨g, j * 2 + 1, none⟩ (.int .i64 (nth c (j + 1)).2) = V at *
  exact ⟨r1.below (below_drew V), hB.below _ _ c1 (below_drew V), g1.trans (gb_of_below (below_drew V) g)⟩

set_option maxRecDepth 100000 in
set_option maxHeartbeats 1500000 in
theorem insSort_any (cf : FuncId) (rv : Value) (ord : HitP → HitP → Int) (S : HitP → Prop) (C : World → Prop) (g n cap cc : Nat) (l : List HitP) (w : World) (hB : CmpB cf rv ord S C g)
    (ha : ∀ a b, ord a b < 0 → 0 ≤ ord b a) (hn : ∀ a b d, 0 ≤ ord a b → 0 ≤ ord b d → 0 ≤ ord a d) (hl : ∀ h ∈ l, S h) (hln : l.length = n) (hn1 : n ≤ 1000000000000) (hC : C w) (hR : RowAt w g cap l) :
    Calls Try.prog 138 #[.slice (some ⟨g, 0, none⟩) n cc, .int .i64 0, .int .i64 n, .func (.func cf) #[rv] #[]] w fun e w' => e = .returned (.tuple #[]) ∧
      ∃ l' : List HitP, l'.Perm l ∧ SrtTo (fun a b => ord a b < 0) l' n ∧ RowAt w' g cap l' ∧ C w' ∧ w.grownBy w' (some g) := by
  have he := hB.enters
  have HLN := Lib.hid hln
  have HA := Lib.hid ha
  have HN := Lib.hid hn
  have HB := Lib.hid hB
  have HL := Lib.hid hl
  clear hln ha hn hB hl
  go_enter Try.func138, Try.ntmps138
  go_wp2
  go_loopw [8, 9] (fun i _ wr => ∃ (k : Nat) (c : List HitP), (k = 1 ∨ k ≤ n) ∧ 1 ≤ k ∧ i = .int .i64 k ∧ Hid (c.Perm l ∧ SrtTo (fun a b => ord a b < 0) c k) ∧ RowAt wr g cap c ∧ C wr ∧ w.grownBy wr (some g)) (fun i _ _ => n + 1 - (intOf i).toNat)
  case atStart => exact ⟨1, l, .inl rfl, Nat.le_refl _, rfl, ⟨List.Perm.refl _, fun p q h1 h2 => by omega⟩, hR, hC, World.grownBy.refl _ _⟩
  case round =>
    obtain ⟨k, c, hk, hk1, rfl, HC, hRr, hCr, hgr⟩ := hrel
    by_cases hlt : k < n
    · have hd : decide ((k : Int) < n) = true := by simp; omega
      go_wp2
      go_loopw [9] (fun j wi => ∃ (m : Nat) (c : List HitP), m ≤ k ∧ j = .int .i64 m ∧ Hid (c.Perm l ∧ InvI (fun a b => ord a b < 0) c k m) ∧ RowAt wi g cap c ∧ C wi ∧ w.grownBy wi (some g)) (fun j _ => (intOf j).toNat)
      case atStart => exact ⟨k, c, Nat.le_refl _, rfl, ⟨HC.out.1, InvI.start HC.out.2⟩, hRr, hCr, hgr⟩
      case round =>
        clear HC hRr hCr hgr
        obtain ⟨m, c, hm, rfl, HC, hRi, hCi, hgi⟩ := hrel
        have hcl : c.length = n := by rw [HC.out.1.length_eq, HLN.out]
        have HCL := Lib.hid hcl
        clear hcl
        by_cases h0 : 0 < m
        · obtain ⟨j, rfl⟩ : ∃ j, m = j + 1 := ⟨m - 1, by omega⟩
          have hgl := hRi.lt
          obtain ⟨x0, x1, fx0, fx1⟩ := hRi.cell (k := j + 1) (by rw [HCL.out]; omega)
          obtain ⟨y0, y1, fy0, fy1⟩ := hRi.cell (k := j) (by rw [HCL.out]; omega)
          have hSx : S (nth c (j + 1)) := HL.out _ (HC.out.1.mem_iff.1 (nth_mem (by rw [HCL.out]; omega)))
          have hSy : S (nth c j) := HL.out _ (HC.out.1.mem_iff.1 (nth_mem (by rw [HCL.out]; omega)))
          obtain ⟨x, hx⟩ : ∃ x, nth c (j + 1) = x := ⟨_, rfl⟩
          obtain ⟨y, hy⟩ : ∃ y, nth c j = y := ⟨_, rfl⟩
          rw [hx] at x0 x1 hSx
          rw [hy] at y0 y1 hSy
          have HX := Lib.hid hx
          have HY := Lib.hid hy
          clear hx hy
          have gx0 : ∀ d os, (grow (redrawn wr d) os).cell? ⟨g, (j + 1) * 2, none⟩ = some (.int .i64 x.1) := fun d os => ((below_regrown wr d os).cell (p := ⟨g, (j + 1) * 2, none⟩) hgl).trans x0
          have gx1 : ∀ d os, (grow (redrawn wr d) os).cell? ⟨g, (j + 1) * 2 + 1, none⟩ = some (.int .i64 x.2) := fun d os => ((below_regrown wr d os).cell (p := ⟨g, (j + 1) * 2 + 1, none⟩) hgl).trans x1
          have gy0 : ∀ d os, (grow (redrawn wr d) os).cell? ⟨g, j * 2, none⟩ = some (.int .i64 y.1) := fun d os => ((below_regrown wr d os).cell (p := ⟨g, j * 2, none⟩) hgl).trans y0
          have gy1 : ∀ d os, (grow (redrawn wr d) os).cell? ⟨g, j * 2 + 1, none⟩ = some (.int .i64 y.2) := fun d os => ((below_regrown wr d os).cell (p := ⟨g, j * 2 + 1, none⟩) hgl).trans y1
          have hd0 : decide (0 < (j : Int) + 1) = true := by simp
          have hcall : ∀ d os, Calls Try.prog cf #[rv, .agg #[.int .i64 x.1, .int .i64 x.2], .agg #[.int .i64 y.1, .int .i64 y.2]] (grow (redrawn wr d) os) fun e w' => e = .returned (.int .i64 (ord x y)) ∧ Below (grow (redrawn wr d) os).heap.size (grow (redrawn wr d) os) w' :=
            fun d os => HB.out.calls x y _ hSx hSy (HB.out.below _ _ hCi (below_regrown wr d os))
          clear x0 x1 fx0 fx1 y0 y1 fy0 fy1
          go_wp2
          refine wp_region_quiet_below mixed (by kernel_rfl) ?_
          repeat (go_big_quiet_step (exact grown_below (hcall _ _)))
          refine wpQuiet_nil ?_
          rintro _ ⟨⟨dq, osq⟩, rfl⟩
          have hBq := below_regrown wr dq osq
          have hR2 := hRi.below hBq
          have hC2 := HB.out.below _ _ hCi hBq
          have hg2 : w.grownBy (grow (redrawn wr dq) osq) (some g) := hgi.trans (gb_of_below hBq g)
          clear gx0 gx1 gy0 gy1 hcall hBq hRi hCi hgi
          dsimp only
          obtain ⟨W2, hW2⟩ : ∃ W2, W2 = grow (redrawn wr dq) osq := ⟨_, rfl⟩
          rw [← hW2] at hR2 hC2 hg2 ⊢
          clear hW2
          by_cases hxy : ord x y < 0
          · have HXY := Lib.hid hxy
            have hdx : decide (ord x y < 0) = true := by simp [hxy]
            rw [hdx]
            obtain ⟨x0, x1, fx0, fx1⟩ := hR2.cell (k := j + 1) (by rw [HCL.out]; omega)
            obtain ⟨y0, y1, fy0, fy1⟩ := hR2.cell (k := j) (by rw [HCL.out]; omega)
            rw [HX.out] at x0 x1
            rw [HY.out] at y0 y1
            clear hxy hdx
            go_wp2
            go_region
            go_wp2
            have hj1 : j + 1 < c.length := by rw [HCL.out]; omega
            have hst := InvI.step (lt := fun a b => ord a b < 0) (fun a b h => Int.not_lt.2 (HA.out a b h)) HC.out.2 (by omega) (by rw [HCL.out]; omega) (by rw [HX.out, HY.out]; exact HXY.out)
            have hall := swap_world HB.out hj1 HX.out HY.out hR2 hC2 hg2
            go_roundw
            case rel => exact ⟨j, swapN c j, by omega, by go_num, ⟨(swapN_perm hj1).trans HC.out.1, hst⟩, hall.1, hall.2.1, hall.2.2⟩
            case measure => simp [intOf]; try omega
          · have hdx : decide (ord x y < 0) = false := by simp [hxy]
            rw [hdx]
            have hs := InvI.stop (lt := fun a b => ord a b < 0) (fun a b d h1 h2 => Int.not_lt.2 (HN.out a b d (Int.not_lt.1 h1) (Int.not_lt.1 h2))) HC.out.2 (by omega) (.inr (by rw [Nat.add_sub_cancel, HX.out, HY.out]; exact hxy))
            have HS : Hid (c.Perm l ∧ SrtTo (fun a b => ord a b < 0) c (k + 1)) := ⟨HC.out.1, hs⟩
            clear hs hxy hdx
            go_wp2
            go_roundw
            case rel => exact ⟨k + 1, c, .inr (by omega), by omega, by go_num, HS, hR2, hC2, hg2⟩
            case measure => simp [intOf]; omega
        · obtain rfl : m = 0 := by omega
          have hs := InvI.stop (lt := fun a b => ord a b < 0) (fun a b d h1 h2 => Int.not_lt.2 (HN.out a b d (Int.not_lt.1 h1) (Int.not_lt.1 h2))) HC.out.2 (Nat.zero_le _) (.inl rfl)
          have HS : Hid (c.Perm l ∧ SrtTo (fun a b => ord a b < 0) c (k + 1)) := ⟨HC.out.1, hs⟩
          clear hs
          have hd0 : decide ((0 : Int) < (0 : Int)) = false := rfl
          go_wp2
          go_quiet (fail)
          go_wp2
          go_roundw
          case rel => exact ⟨k + 1, c, .inr (by omega), by omega, by go_num, HS, hRi.below ⟨rfl, rfl, rfl, Nat.le_refl _, fun _ _ => rfl⟩, HB.out.below _ _ hCi ⟨rfl, rfl, rfl, Nat.le_refl _, fun _ _ => rfl⟩, hgi.trans (gb_drew wr nq g)⟩
          case measure => simp [intOf]; omega
    · have HF : Hid (c.Perm l ∧ SrtTo (fun a b => ord a b < 0) c n) := ⟨HC.out.1, fun p q h1 h2 => HC.out.2 p q h1 (by omega)⟩
      go_wp2
      go_end0
      exact ⟨rfl, c, HF.out.1, HF.out.2, hRr, hCr, hgr⟩

end Go.Proofs.Ytmpmjkbjnklgfaa

/- The sort of hits by a function, laid at this program: numbers, and the bodies held against those of the library. -/



namespace Go.Proofs.Ytmpmjkbjnklgfaa
open Go.Shelf
def sortHit_ren : Go.Shelf.Ren := ⟨fun | 6 => 72 | 15 => 108 | 14 => 107 | 28 => 146 | 29 => 147 | 20 => 138 | 21 => 139 | 22 => 140 | 23 => 141 | 24 => 142 | 25 => 143 | 26 => 144 | 27 => 145 | 46 => 162 | 47 => 163 | 48 => 164 | 49 => 165 | 50 => 166 | 57 => 183 | n => n, fun | 22 => 41 | 24 => 43 | 25 => 97 | 3 => 3 | 39 => 144 | 0 => 0 | 53 => 176 | 55 => 178 | 4 => 4 | 46 => 170 | 45 => 169 | 50 => 68 | 5 => 5 | 9 => 9 | 66 => 186 | 70 => 190 | 76 => 213 | 77 => 214 | n => n, fun | n => n⟩
theorem sortHit : Go.Proofs.SlLaysF0.n6 Try.prog sortHit_ren := {
  mixed := by kernel_rfl
  f6 := ⟨Try.f72.name, by decide, Try.func72.trans (congrArg some (by kernel_rfl))⟩
  f14 := ⟨Try.f107.name, by decide, Try.func107.trans (congrArg some (by kernel_rfl))⟩
  f15 := Try.func108.trans (congrArg some (by kernel_rfl))
  f20 := ⟨Try.f138.name, by decide, Try.func138.trans (congrArg some (by kernel_rfl))⟩
  f21 := ⟨Try.f139.name, by decide, Try.func139.trans (congrArg some (by kernel_rfl))⟩
  f22 := ⟨Try.f140.name, by decide, Try.func140.trans (congrArg some (by kernel_rfl))⟩
  f23 := ⟨Try.f141.name, by decide, Try.func141.trans (congrArg some (by kernel_rfl))⟩
  f24 := ⟨Try.f142.name, by decide, Try.func142.trans (congrArg some (by kernel_rfl))⟩
  f25 := ⟨Try.f143.name, by decide, Try.func143.trans (congrArg some (by kernel_rfl))⟩
  f26 := ⟨Try.f144.name, by decide, Try.func144.trans (congrArg some (by kernel_rfl))⟩
  f27 := ⟨Try.f145.name, by decide, Try.func145.trans (congrArg some (by kernel_rfl))⟩
  f28 := Try.func146.trans (congrArg some (by kernel_rfl))
  f29 := Try.func147.trans (congrArg some (by kernel_rfl))
  f46 := ⟨Try.f162.name, by decide, Try.func162.trans (congrArg some (by kernel_rfl))⟩
  f47 := Try.func163.trans (congrArg some (by kernel_rfl))
  f48 := Try.func164.trans (congrArg some (by kernel_rfl))
  f49 := ⟨Try.f165.name, by decide, Try.func165.trans (congrArg some (by kernel_rfl))⟩
  f50 := ⟨Try.f166.name, by decide, Try.func166.trans (congrArg some (by kernel_rfl))⟩
  f57 := ⟨Try.f183.name, by decide, Try.func183.trans (congrArg some (by kernel_rfl))⟩
  t0 := Try.underlying0
  a0 := Try.isAgg0
  z0 := Try.sizeOf0
  v0 := Try.zeroValue0
  t3 := Try.underlying3
  a3 := Try.isAgg3
  z3 := Try.sizeOf3
  v3 := Try.zeroValue3
  t4 := Try.underlying4
  a4 := Try.isAgg4
  z4 := Try.sizeOf4
  v4 := Try.zeroValue4
  t5 := Try.underlying5
  a5 := Try.isAgg5
  z5 := Try.sizeOf5
  v5 := Try.zeroValue5
  t9 := Try.underlying9
  a9 := Try.isAgg9
  z9 := Try.sizeOf9
  v9 := Try.zeroValue9
  t22 := Try.underlying41
  a22 := Try.isAgg41
  z22 := Try.sizeOf41
  v22 := Try.zeroValue41
  t25 := Try.underlying97
  a25 := Try.isAgg97
  z25 := Try.sizeOf97
  v25 := Try.zeroValue97
  t39 := Try.underlying144
  a39 := Try.isAgg144
  z39 := Try.sizeOf144
  v39 := Try.zeroValue144
  t45 := Try.underlying169
  a45 := Try.isAgg169
  z45 := Try.sizeOf169
  v45 := Try.zeroValue169
  t46 := Try.underlying170
  a46 := Try.isAgg170
  z46 := Try.sizeOf170
  v46 := Try.zeroValue170
  t50 := Try.underlying68
  a50 := Try.isAgg68
  z50 := Try.sizeOf68
  v50 := Try.zeroValue68
  t53 := Try.underlying176
  a53 := Try.isAgg176
  z53 := Try.sizeOf176
  v53 := Try.zeroValue176
  t55 := Try.underlying178
  a55 := Try.isAgg178
  z55 := Try.sizeOf178
  v55 := Try.zeroValue178
  t66 := Try.underlying186
  a66 := Try.isAgg186
  z66 := Try.sizeOf186
  v66 := Try.zeroValue186
  t70 := Try.underlying190
  a70 := Try.isAgg190
  z70 := Try.sizeOf190
  v70 := Try.zeroValue190
  t76 := Try.underlying213
  a76 := Try.isAgg213
  z76 := Try.sizeOf213
  v76 := Try.zeroValue213
  t77 := Try.underlying214
  a77 := Try.isAgg214
  z77 := Try.sizeOf214
  v77 := Try.zeroValue214 }
end Go.Proofs.Ytmpmjkbjnklgfaa

/- The sort of at most 12 hits by a method that compares: walked. -/



namespace Go.Proofs.Ytmpmjkbjnklgfaa
open Go.RowKit Go.Sort Go.Shelf
set_option linter.unusedVariables false

theorem bitsLen_any (n : Nat) (W : World) (h : n ≤ 1000000000000) : Calls Try.prog 108 #[.int .u64 n] W fun e w' => e = .returned (.int .i64 (Lib.bitLen n)) ∧ W = w' := by
  have h := Any.bits_Len (SlLaysF0.n15.bits (P := Try.prog) (ρ := sortHit_ren) { sortHit with }) (n : Int) W (by omega) (by omega)
  rw [Int.toNat_natCast] at h
  exact h.mono fun e w' ⟨h1, h2⟩ => ⟨h1, h2.symm⟩

set_option maxHeartbeats 1000000 in
theorem insNone_any (f : Value) (cc : Nat) (a : Option Addr) (w : World) :
    Calls Try.prog 138 #[.slice a 0 cc, .int .i64 0, .int .i64 0, f] w fun e w' => e = .returned (.tuple #[]) ∧ w = w' := by
  go_enter Try.func138, Try.ntmps138
  go_wp2
  refine wp_loop_rounds 1 ?_
  rw [rounds_succ]
  go_wp2
  go_end0
  exact ⟨rfl, rfl⟩

set_option maxHeartbeats 1000000 in
theorem pdqSmall_any {R : World → Prop} (f : Value) (n cc : Nat) (a : Option Addr) (L : Int) (w : World) (hn : n ≤ 12)
    (h : Calls Try.prog 138 #[.slice a n cc, .int .i64 0, .int .i64 n, f] w fun e w' => e = .returned (.tuple #[]) ∧ R w') :
    Calls Try.prog 107 #[.slice a n cc, .int .i64 0, .int .i64 n, .int .i64 L, f] w fun e w' => e = .returned (.tuple #[]) ∧ R w' := by
  have H := Lib.hid h
  clear h
  go_enter Try.func107, Try.ntmps107
  go_wp2
  refine wp_loop_rounds 1 ?_
  rw [rounds_succ]
  go_wp2_with fail
  refine H.out.mono ?_
  rintro e w1 ⟨rfl, hr⟩
  have HR := Lib.hid hr
  clear hr
  go_wp2
  exact bodyPost_ret (results_none rfl _ _ _) rfl ⟨rfl, HR.out⟩

set_option maxHeartbeats 1000000 in
theorem sortSmall_any {R : World → Prop} (f : Value) (n cc : Nat) (a : Option Addr) (w : World) (hn : n ≤ 12)
    (h : Calls Try.prog 138 #[.slice a n cc, .int .i64 0, .int .i64 n, f] w fun e w' => e = .returned (.tuple #[]) ∧ R w') :
    Calls Try.prog 72 #[.slice a n cc, f] w fun e w' => e = .returned (.tuple #[]) ∧ R w' := by
  have H := Lib.hid h
  clear h
  have wr : IntKind.u64.wrap (n : Int) = n := by simp [IntKind.wrap, IntKind.bits, IntKind.signed]; omega
  go_enter Try.func72, Try.ntmps72
  go_wp2_with fail
  refine (bitsLen_any n w (by omega)).mono ?_
  rintro e w1 ⟨rfl, rfl⟩
  go_wp2_with fail
  refine (pdqSmall_any f n cc a _ w hn H.out).mono ?_
  rintro e w1 ⟨rfl, hr⟩
  have HR := Lib.hid hr
  clear hr
  go_wp2
  go_end0
  exact ⟨rfl, HR.out⟩

end Go.Proofs.Ytmpmjkbjnklgfaa

/- Plain words of sorting in place: exchanges within a segment, sorted segments, insertion, partition. -/

namespace Go.Proofs.Ytmpmjkbjnklgfaa
set_option linter.unusedVariables false

def swp (c : List HitP) (i j : Nat) : List HitP := (c.set i (nth c j)).set j (nth c i)
theorem swp_length (c : List HitP) (i j : Nat) : (swp c i j).length = c.length := by simp [swp]
theorem nth_swp {c : List HitP} {i j k : Nat} (hi : i < c.length) (hj : j < c.length) : nth (swp c i j) k = if k = j then nth c i else if k = i then nth c j else nth c k := by
  unfold swp
  rw [nth_set (by simpa using hj), nth_set hi]
theorem nth_get {c : List HitP} {i : Nat} (h : i < c.length) : nth c i = c[i] := by
  unfold nth; rw [List.getD_eq_getElem?_getD, List.getElem?_eq_getElem h, Option.getD_some]
theorem swp_perm {c : List HitP} {i j : Nat} (hi : i < c.length) (hj : j < c.length) : (swp c i j).Perm c := by
  unfold swp
  rw [nth_get hi, nth_get hj]
  exact List.set_set_perm hi hj

/-- Exchanges, all within [a, b). -/
def Seg (a b : Nat) (c c' : List HitP) : Prop := ∃ ss : List (Nat × Nat), (∀ s ∈ ss, (a ≤ s.1 ∧ s.1 < b) ∧ a ≤ s.2 ∧ s.2 < b) ∧ c' = ss.foldl (fun c s => swp c s.1 s.2) c
theorem Seg.refl (a b : Nat) (c : List HitP) : Seg a b c c := ⟨[], by simp, rfl⟩
theorem Seg.trans {a b : Nat} {c d e : List HitP} (h : Seg a b c d) (k : Seg a b d e) : Seg a b c e := by
  obtain ⟨s, h1, rfl⟩ := h
  obtain ⟨t, k1, rfl⟩ := k
  refine ⟨s ++ t, fun x hx => ?_, by rw [List.foldl_append]⟩
  rcases List.mem_append.1 hx with hx | hx
  · exact h1 x hx
  · exact k1 x hx
theorem Seg.swap {a b i j : Nat} (c : List HitP) (hi : a ≤ i ∧ i < b) (hj : a ≤ j ∧ j < b) : Seg a b c (swp c i j) := ⟨[(i, j)], by simpa using ⟨hi, hj⟩, rfl⟩
theorem Seg.mono {a b a' b' : Nat} {c d : List HitP} (h : Seg a b c d) (ha : a' ≤ a) (hb : b ≤ b') : Seg a' b' c d := by
  obtain ⟨s, h1, rfl⟩ := h
  exact ⟨s, fun x hx => by have := h1 x hx; omega, rfl⟩
theorem Seg.length {a b : Nat} {c d : List HitP} (h : Seg a b c d) : d.length = c.length := by
  obtain ⟨s, h1, rfl⟩ := h
  clear h1
  induction s generalizing c with
  | nil => rfl
  | cons x s ih => rw [List.foldl_cons, ih, swp_length]
theorem Seg.keep {a b : Nat} {c d : List HitP} (h : Seg a b c d) (hb : b ≤ c.length) :
    d.Perm c ∧ (∀ i, i < a ∨ b ≤ i → nth d i = nth c i) ∧ ∀ P : HitP → Prop, (∀ i, a ≤ i → i < b → P (nth c i)) → ∀ i, a ≤ i → i < b → P (nth d i) := by
  obtain ⟨s, h1, rfl⟩ := h
  induction s generalizing c with
  | nil => exact ⟨List.Perm.refl _, fun _ _ => rfl, fun _ h => h⟩
  | cons x s ih =>
    have hx := h1 x (by simp)
    obtain ⟨i1, i2, i3⟩ := ih (c := swp c x.1 x.2) (by rw [swp_length]; exact hb) (fun y hy => h1 y (by simp [hy]))
    rw [List.foldl_cons]
    refine ⟨i1.trans (swp_perm (by omega) (by omega)), fun i hi => ?_, fun P hP => i3 P fun i hi1 hi2 => ?_⟩
    · rw [i2 i hi, nth_swp (by omega) (by omega), if_neg (by omega), if_neg (by omega)]
    · rw [nth_swp (by omega) (by omega)]
      split
      · exact hP _ (by omega) (by omega)
      · split
        · exact hP _ (by omega) (by omega)
        · exact hP _ hi1 hi2
theorem Seg.perm {a b : Nat} {c d : List HitP} (h : Seg a b c d) (hb : b ≤ c.length) : d.Perm c := (h.keep hb).1
theorem Seg.out {a b : Nat} {c d : List HitP} (h : Seg a b c d) (hb : b ≤ c.length) {i : Nat} (hi : i < a ∨ b ≤ i) : nth d i = nth c i := (h.keep hb).2.1 i hi
theorem Seg.all {a b : Nat} {c d : List HitP} (h : Seg a b c d) (hb : b ≤ c.length) {P : HitP → Prop} (hP : ∀ i, a ≤ i → i < b → P (nth c i)) : ∀ i, a ≤ i → i < b → P (nth d i) := (h.keep hb).2.2 P hP

/-- Sorted from a to b. -/
def Srt (lt : HitP → HitP → Prop) (c : List HitP) (a b : Nat) : Prop := ∀ p q, a ≤ p → p < q → q < b → ¬ lt (nth c q) (nth c p)
structure Ord (lt : HitP → HitP → Prop) : Prop where
  asym : ∀ a b, lt a b → ¬ lt b a
  ntrans : ∀ a b d, ¬ lt a b → ¬ lt b d → ¬ lt a d
theorem Ord.irrefl {lt : HitP → HitP → Prop} (h : Ord lt) (a : HitP) : ¬ lt a a := fun e => h.asym a a e e
theorem Ord.trans {lt : HitP → HitP → Prop} (h : Ord lt) {a b d : HitP} (h1 : lt a b) (h2 : lt b d) : lt a d := Classical.byContradiction fun e => h.ntrans a d b e (h.asym _ _ h2) h1
theorem Ord.lt_of {lt : HitP → HitP → Prop} (h : Ord lt) {a b d : HitP} (h1 : lt a b) (h2 : ¬ lt d b) : lt a d := Classical.byContradiction fun e => h.ntrans a d b e h2 h1
theorem Ord.lt_of' {lt : HitP → HitP → Prop} (h : Ord lt) {a b d : HitP} (h1 : ¬ lt b a) (h2 : lt b d) : lt a d := Classical.byContradiction fun e => h.ntrans b a d h1 e h2
theorem Srt.small (lt : HitP → HitP → Prop) (c : List HitP) {a b : Nat} (h : b ≤ a + 1) : Srt lt c a b := fun p q h1 h2 h3 => by omega

/-! ### insertion -/
def Ins (lt : HitP → HitP → Prop) (c : List HitP) (a i j : Nat) : Prop := ∀ p q, a ≤ p → p < q → q ≤ i → q ≠ j → ¬ lt (nth c q) (nth c p)
theorem Ins.start {lt : HitP → HitP → Prop} {c : List HitP} {a i : Nat} (h : Srt lt c a i) : Ins lt c a i i := fun p q h0 h1 h2 h3 => h p q h0 h1 (by omega)
theorem Ins.stop {lt : HitP → HitP → Prop} (hO : Ord lt) {c : List HitP} {a i j : Nat} (h : Ins lt c a i j) (hj : j ≤ i) (h0 : j ≤ a ∨ ¬ lt (nth c j) (nth c (j - 1))) : Srt lt c a (i + 1) := by
  intro p q hp h1 h2
  by_cases hq : q = j
  · subst hq
    rcases h0 with h0 | h0
    · omega
    · by_cases hpq : p = q - 1
      · rw [hpq]; exact h0
      · exact hO.ntrans _ _ _ h0 (h p (q - 1) hp (by omega) (by omega) (by omega))
  · exact h p q hp h1 (by omega) hq
theorem Ins.step {lt : HitP → HitP → Prop} (hO : Ord lt) {c : List HitP} {a i j : Nat} (h : Ins lt c a i (j + 1)) (ha : a ≤ j) (hj : j + 1 ≤ i) (hi : i < c.length) (hlt : lt (nth c (j + 1)) (nth c j)) : Ins lt (swp c (j + 1) j) a i j := by
  intro p q hp h1 h2 h3
  rw [nth_swp (by omega) (by omega), nth_swp (by omega) (by omega), if_neg h3]
  by_cases hq : q = j + 1
  · subst hq
    rw [if_pos rfl]
    by_cases hpj : p = j
    · rw [if_pos hpj]; exact hO.asym _ _ hlt
    · rw [if_neg hpj, if_neg (by omega)]
      exact h p j hp (by omega) (by omega) (by omega)
  · rw [if_neg hq]
    by_cases hpj : p = j
    · rw [if_pos hpj]
      exact h (j + 1) q (by omega) (by omega) h2 hq
    · rw [if_neg hpj]
      by_cases hp1 : p = j + 1
      · rw [if_pos hp1]
        exact h j q ha (by omega) h2 hq
      · rw [if_neg hp1]
        exact h p q hp h1 h2 hq

/-! ### heaps -/
/-- Node k of the heap that lies from f on, up to hi, is not less than its kids, all nodes from lo on but one. -/
def Heap (lt : HitP → HitP → Prop) (c : List HitP) (f hi lo ex : Nat) : Prop := ∀ k j, lo ≤ k → k ≠ ex → (j = 2 * k + 1 ∨ j = 2 * k + 2) → j < hi → ¬ lt (nth c (f + k)) (nth c (f + j))
/-- .. and what stands above the hole is not less than what stands below it. -/
def Above (lt : HitP → HitP → Prop) (c : List HitP) (f hi lo ex : Nat) : Prop := ∀ k j, lo ≤ k → (ex = 2 * k + 1 ∨ ex = 2 * k + 2) → (j = 2 * ex + 1 ∨ j = 2 * ex + 2) → j < hi → ¬ lt (nth c (f + k)) (nth c (f + j))

end Go.Proofs.Ytmpmjkbjnklgfaa

/- The insertion sort of a segment of hits, walked. -/


namespace Go.Proofs.Ytmpmjkbjnklgfaa
open Go.RowKit Go.Sort
set_option linter.unusedVariables false

/-- A world within the sort. -/
structure SSt (C : World → Prop) (w : World) (g cap : Nat) (c : List HitP) (W : World) : Prop where
  row : RowAt W g cap c
  ctx : C W
  grown : w.grownBy W (some g)
theorem SSt.below {cf : FuncId} {rv : Value} {ord : HitP → HitP → Int} {S : HitP → Prop} {C : World → Prop} {g cap : Nat} {c : List HitP} {w W W' : World} (hB : CmpB cf rv ord S C g) (h : SSt C w g cap c W) (hb : Below W.heap.size W W') : SSt C w g cap c W' :=
  ⟨h.row.below hb, hB.below _ _ h.ctx hb, h.grown.trans (gb_of_below hb g)⟩
theorem SSt.start {C : World → Prop} {w : World} {g cap : Nat} {c : List HitP} (h : RowAt w g cap c) (hC : C w) : SSt C w g cap c w := ⟨h, hC, World.grownBy.refl _ _⟩
theorem SSt.trans {C : World → Prop} {w W V : World} {g cap : Nat} {c d : List HitP} (h : SSt C w g cap c W) (k : SSt C W g cap d V) : SSt C w g cap d V := ⟨k.row, k.ctx, h.grown.trans k.grown⟩
/-- Two elements exchanged: the world that the statement leaves. -/
theorem SSt.swap {cf : FuncId} {rv : Value} {ord : HitP → HitP → Int} {S : HitP → Prop} {C : World → Prop} {g cap i j : Nat} {c : List HitP} {x y : HitP} {w W : World} (hB : CmpB cf rv ord S C g) (hi : i < c.length) (hj : j < c.length) (hx : nth c i = x) (hy : nth c j = y) (h : SSt C w g cap c W) :
    SSt C w g cap (swp c i j) ((((W.setCell ⟨g, i * 2, none⟩ (.int .i64 y.1)).setCell ⟨g, i * 2 + 1, none⟩ (.int .i64 y.2)).setCell ⟨g, j * 2, none⟩ (.int .i64 x.1)).setCell ⟨g, j * 2 + 1, none⟩ (.int .i64 x.2)).drew := by
  subst hx hy
  have r1 := (h.row.set (k := i) hi (nth c j)).set (k := j) (by simpa using hj) (nth c i)
  have c1 := hB.store _ (j * 2 + 1) (.int .i64 (nth c i).2) (hB.store _ (j * 2) (.int .i64 (nth c i).1) (hB.store _ (i * 2 + 1) (.int .i64 (nth c j).2) (hB.store _ (i * 2) (.int .i64 (nth c j).1) h.ctx)))
  have g1 := (((h.grown.trans (grown_set2 W g (i * 2) (.int .i64 (nth c j).1))).trans (grown_set2 _ g (i * 2 + 1) (.int .i64 (nth c j).2))).trans (grown_set2 _ g (j * 2) (.int .i64 (nth c i).1))).trans (grown_set2 _ g (j * 2 + 1) (.int .i64 (nth c i).2))
  generalize (((W.setCell ⟨g, i * 2, none⟩ (.int .i64 (nth c j).1)).setCell ⟨g, i * 2 + 1, none⟩ (.int .i64 (nth c j).2)).setCell ⟨g, j * 2, none⟩ (.int .i64 (nth c i).1)).setCell ⟨g, j * 2 + 1, none⟩ (.int .i64 (nth c i).2) = V at *
  exact ⟨r1.below (below_drew V), hB.below _ _ c1 (below_drew V), g1.trans (gb_of_below (below_drew V) g)⟩
/-- An element's two cells, in the world at hand and in those grown out of it. -/
theorem SSt.cell {C : World → Prop} {w W : World} {g cap : Nat} {c : List HitP} {k : Nat} {x : HitP} (h : SSt C w g cap c W) (hk : k < c.length) (hx : nth c k = x) :
    (W.cell? ⟨g, k * 2, none⟩ = some (.int .i64 x.1) ∧ W.cell? ⟨g, k * 2 + 1, none⟩ = some (.int .i64 x.2)) ∧ (W.frozen? ⟨g, k * 2, none⟩ = false ∧ W.frozen? ⟨g, k * 2 + 1, none⟩ = false) ∧
    (∀ d os, (grow (redrawn W d) os).cell? ⟨g, k * 2, none⟩ = some (.int .i64 x.1)) ∧ (∀ d os, (grow (redrawn W d) os).cell? ⟨g, k * 2 + 1, none⟩ = some (.int .i64 x.2)) := by
  subst hx
  obtain ⟨c0, c1, f0, f1⟩ := h.row.cell hk
  have hl := h.row.lt
  exact ⟨⟨c0, c1⟩, ⟨f0, f1⟩, fun d os => ((below_regrown W d os).cell (p := ⟨g, k * 2, none⟩) hl).trans c0, fun d os => ((below_regrown W d os).cell (p := ⟨g, k * 2 + 1, none⟩) hl).trans c1⟩
theorem SSt.call {cf : FuncId} {rv : Value} {ord : HitP → HitP → Int} {S : HitP → Prop} {C : World → Prop} {g cap : Nat} {c : List HitP} {w W : World} {x y : HitP} (hB : CmpB cf rv ord S C g) (h : SSt C w g cap c W) (hx : S x) (hy : S y) :
    ∀ d os, Calls Try.prog cf #[rv, .agg #[.int .i64 x.1, .int .i64 x.2], .agg #[.int .i64 y.1, .int .i64 y.2]] (grow (redrawn W d) os) fun e w' => e = .returned (.int .i64 (ord x y)) ∧ Below (grow (redrawn W d) os).heap.size (grow (redrawn W d) os) w' :=
  fun d os => hB.calls x y _ hx hy (hB.below _ _ h.ctx (below_regrown W d os))
theorem seg_S {S : HitP → Prop} {a b : Nat} {c d : List HitP} (h : Seg a b c d) (hb : b ≤ c.length) (hl : ∀ x ∈ c, S x) : ∀ x ∈ d, S x := fun x hx => hl x ((h.perm hb).mem_iff.1 hx)

abbrev ltO (ord : HitP → HitP → Int) : HitP → HitP → Prop := fun x y => ord x y < 0

set_option maxRecDepth 100000 in
set_option maxHeartbeats 1500000 in
theorem insSortG_any (cf : FuncId) (rv : Value) (ord : HitP → HitP → Int) (S : HitP → Prop) (C : World → Prop) (g n cap cc a b : Nat) (l : List HitP) (w : World) (hB : CmpB cf rv ord S C g)
    (hO : Ord (ltO ord)) (hl : ∀ h ∈ l, S h) (hln : l.length = n) (hn1 : n ≤ 1000000000000) (hab : a ≤ b) (hbn : b ≤ n) (hC : C w) (hR : RowAt w g cap l) :
    Calls Try.prog 138 #[.slice (some ⟨g, 0, none⟩) n cc, .int .i64 a, .int .i64 b, .func (.func cf) #[rv] #[]] w fun e w' => e = .returned (.tuple #[]) ∧
      ∃ c' : List HitP, Seg a b l c' ∧ Srt (ltO ord) c' a b ∧ SSt C w g cap c' w' := by
  have he := hB.enters
  have HLN := Lib.hid hln
  have HO := Lib.hid hO
  have HB := Lib.hid hB
  have HL := Lib.hid hl
  clear hln hO hB hl
  go_enter Try.func138, Try.ntmps138
  go_wp2
  go_loopw [8, 9] (fun i _ wr => ∃ (k : Nat) (c : List HitP), (k = a + 1 ∨ k ≤ b) ∧ a + 1 ≤ k ∧ i = .int .i64 k ∧ Hid (Seg a b l c ∧ Srt (ltO ord) c a k) ∧ SSt C w g cap c wr) (fun i _ _ => b + 1 - (intOf i).toNat)
  case atStart => exact ⟨a + 1, l, .inl rfl, Nat.le_refl _, by go_num, ⟨Seg.refl _ _ _, Srt.small _ _ (Nat.le_refl _)⟩, SSt.start hR hC⟩
  case round =>
    obtain ⟨k, c, hk, hk1, rfl, HC, hSt⟩ := hrel
    by_cases hlt : k < b
    · have hd : decide ((k : Int) < b) = true := by simp; omega
      go_wp2
      go_loopw [9] (fun j wi => ∃ (m : Nat) (c : List HitP), m ≤ k ∧ a ≤ m ∧ j = .int .i64 m ∧ Hid (Seg a b l c ∧ Ins (ltO ord) c a k m) ∧ SSt C w g cap c wi) (fun j _ => (intOf j).toNat)
      case atStart => exact ⟨k, c, Nat.le_refl _, by omega, rfl, ⟨HC.out.1, Ins.start HC.out.2⟩, hSt⟩
      case round =>
        clear HC hSt
        obtain ⟨m, c, hm, ham, rfl, HC, hSt⟩ := hrel
        have HCL : Hid (c.length = n) := by rw [Hid, HC.out.1.length, HLN.out]
        by_cases h0 : a < m
        · obtain ⟨j, rfl⟩ : ∃ j, m = j + 1 := ⟨m - 1, by omega⟩
          have hcS := seg_S HC.out.1 (by rw [HLN.out]; exact hbn) HL.out
          obtain ⟨x, hx⟩ : ∃ x, nth c (j + 1) = x := ⟨_, rfl⟩
          obtain ⟨y, hy⟩ : ∃ y, nth c j = y := ⟨_, rfl⟩
          have hSx : S x := hx ▸ hcS _ (nth_mem (by rw [HCL.out]; omega))
          have hSy : S y := hy ▸ hcS _ (nth_mem (by rw [HCL.out]; omega))
          obtain ⟨_, _, gx0, gx1⟩ := hSt.cell (k := j + 1) (by rw [HCL.out]; omega) hx
          obtain ⟨_, _, gy0, gy1⟩ := hSt.cell (k := j) (by rw [HCL.out]; omega) hy
          have hcall := hSt.call HB.out hSx hSy
          have HX := Lib.hid hx
          have HY := Lib.hid hy
          clear hx hy hcS
          have hd0 : decide ((a : Int) < (j : Int) + 1) = true := by simp; omega
          go_wp2
          refine wp_region_quiet_below mixed (by kernel_rfl) ?_
          repeat (go_big_quiet_step (exact grown_below (hcall _ _)))
          refine wpQuiet_nil ?_
          rintro _ ⟨⟨dq, osq⟩, rfl⟩
          have hSt2 := hSt.below HB.out (below_regrown wr dq osq)
          clear gx0 gx1 gy0 gy1 hcall hSt
          dsimp only
          obtain ⟨W2, hW2⟩ : ∃ W2, W2 = grow (redrawn wr dq) osq := ⟨_, rfl⟩
          rw [← hW2] at hSt2 ⊢
          clear hW2
          by_cases hxy : ord x y < 0
          · have HXY := Lib.hid hxy
            have hdx : decide (ord x y < 0) = true := by simp [hxy]
            rw [hdx]
            obtain ⟨⟨x0, x1⟩, ⟨fx0, fx1⟩, _, _⟩ := hSt2.cell (k := j + 1) (by rw [HCL.out]; omega) HX.out
            obtain ⟨⟨y0, y1⟩, ⟨fy0, fy1⟩, _, _⟩ := hSt2.cell (k := j) (by rw [HCL.out]; omega) HY.out
            clear hxy hdx
            go_wp2
            go_region
            go_wp2
            have hall := hSt2.swap HB.out (i := j + 1) (j := j) (by rw [HCL.out]; omega) (by rw [HCL.out]; omega) HX.out HY.out
            have hst := Ins.step HO.out HC.out.2 (by omega) (by omega) (by rw [HCL.out]; omega) (by rw [HX.out, HY.out]; exact HXY.out)
            go_roundw
            case rel => exact ⟨j, swp c (j + 1) j, by omega, by omega, by go_num, ⟨HC.out.1.trans (Seg.swap c (by omega) (by omega)), hst⟩, hall⟩
            case measure => simp [intOf]; try omega
          · have hdx : decide (ord x y < 0) = false := by simp [hxy]
            rw [hdx]
            have hs := Ins.stop HO.out HC.out.2 (by omega) (.inr (by rw [Nat.add_sub_cancel, HX.out, HY.out]; exact hxy))
            have HS : Hid (Seg a b l c ∧ Srt (ltO ord) c a (k + 1)) := ⟨HC.out.1, hs⟩
            clear hs hxy hdx
            go_wp2
            go_roundw
            case rel => exact ⟨k + 1, c, .inr (by omega), by omega, by go_num, HS, hSt2⟩
            case measure => simp [intOf]; omega
        · obtain rfl : m = a := by omega
          have HS : Hid (Seg m b l c ∧ Srt (ltO ord) c m (k + 1)) := ⟨HC.out.1, Ins.stop HO.out HC.out.2 (by omega) (.inl (Nat.le_refl _))⟩
          have hd0 : decide ((m : Int) < (m : Int)) = false := by simp
          go_wp2
          go_quiet (fail)
          go_wp2
          go_roundw
          case rel => exact ⟨k + 1, c, .inr (by omega), by omega, by go_num, HS, hSt.below HB.out ⟨rfl, rfl, rfl, Nat.le_refl _, fun _ _ => rfl⟩⟩
          case measure => simp [intOf]; omega
    · have HF : Hid (Seg a b l c ∧ Srt (ltO ord) c a b) := ⟨HC.out.1, fun p q h0 h1 h2 => HC.out.2 p q h0 h1 (by omega)⟩
      go_wp2
      go_end0
      exact ⟨rfl, c, HF.out.1, HF.out.2, hSt⟩

end Go.Proofs.Ytmpmjkbjnklgfaa

/- The sort's partitions: plain laws and the state of a round. -/

namespace Go.Proofs.Ytmpmjkbjnklgfaa
open Go.RowKit Go.Sort
set_option linter.unusedVariables false

/-- What stands left of a pivot; what an element that is the pivot's like does. -/
def ltQ (ord : HitP → HitP → Int) (p e : HitP) : Prop := ord e p < 0
def eqQ (ord : HitP → HitP → Int) (p e : HitP) : Prop := ¬ ord p e < 0
def PLq (Q : HitP → HitP → Prop) (c : List HitP) (a x : Nat) : Prop := ∀ k, a + 1 ≤ k → k < x → Q (nth c a) (nth c k)
def PRq (Q : HitP → HitP → Prop) (c : List HitP) (a y b : Nat) : Prop := ∀ k, y < k → k < b → ¬ Q (nth c a) (nth c k)
theorem PLq.step {Q : HitP → HitP → Prop} {c : List HitP} {a x : Nat} (h : PLq Q c a x) (hq : Q (nth c a) (nth c x)) : PLq Q c a (x + 1) := fun k h1 h2 => by
  by_cases e : k = x
  · rw [e]; exact hq
  · exact h k h1 (by omega)
theorem PRq.step {Q : HitP → HitP → Prop} {c : List HitP} {a z b : Nat} (h : PRq Q c a (z + 1) b) (hq : ¬ Q (nth c a) (nth c (z + 1))) : PRq Q c a z b := fun k h1 h2 => by
  by_cases e : k = z + 1
  · rw [e]; exact hq
  · exact h k (by omega) h2
/-- The exchange of what stands wrong on both sides. -/
theorem part_swap {Q : HitP → HitP → Prop} {c : List HitP} {a x y b : Nat} (hL : PLq Q c a x) (hR : PRq Q c a y b) (hx : ¬ Q (nth c a) (nth c x)) (hy : Q (nth c a) (nth c y)) (h1 : a + 1 ≤ x) (h2 : x < y) (h3 : y < b) (hb : b ≤ c.length) :
    PLq Q (swp c x y) a (x + 1) ∧ PRq Q (swp c x y) a (y - 1) b := by
  have ea : nth (swp c x y) a = nth c a := by rw [nth_swp (by omega) (by omega), if_neg (by omega), if_neg (by omega)]
  refine ⟨fun k g1 g2 => ?_, fun k g1 g2 => ?_⟩
  · rw [ea, nth_swp (by omega) (by omega), if_neg (by omega)]
    split
    · exact hy
    · exact hL k g1 (by omega)
  · rw [ea, nth_swp (by omega) (by omega)]
    split
    · exact hx
    · rw [if_neg (by omega)]
      exact hR k (by omega) g2
/-- The pivot put in its place. -/
theorem part_done {ord : HitP → HitP → Int} {c : List HitP} {a y b : Nat} (hL : PLq (ltQ ord) c a (y + 1)) (hR : PRq (ltQ ord) c a y b) (h1 : a ≤ y) (h3 : y < b) (hb : b ≤ c.length) :
    (∀ i, a ≤ i → i < y → ltO ord (nth (swp c y a) i) (nth (swp c y a) y)) ∧ (∀ i, y < i → i < b → ¬ ltO ord (nth (swp c y a) i) (nth (swp c y a) y)) := by
  have ey : nth (swp c y a) y = nth c a := by
    rw [nth_swp (by omega) (by omega)]
    split
    · rename_i e; rw [e]
    · rw [if_pos rfl]
  refine ⟨fun i g1 g2 => ?_, fun i g1 g2 => ?_⟩
  · rw [ey, nth_swp (by omega) (by omega)]
    split
    · exact hL y (by omega) (by omega)
    · rw [if_neg (by omega)]
      exact hL i (by omega) (by omega)
  · rw [ey, nth_swp (by omega) (by omega), if_neg (by omega), if_neg (by omega)]
    exact hR i g1 g2

/-- The state of a round. -/
structure PI (Q : HitP → HitP → Prop) (S : HitP → Prop) (C : World → Prop) (w : World) (g cap n a b : Nat) (l c : List HitP) (x y : Nat) (W : World) : Prop where
  seg : Seg a b l c
  len : c.length = n
  mem : ∀ h ∈ c, S h
  pl : PLq Q c a x
  pr : PRq Q c a y b
  st : SSt C w g cap c W
  piv : nth c a = nth l a
section
variable {Q : HitP → HitP → Prop} {S : HitP → Prop} {C : World → Prop} {w W W' : World} {g cap n a b x y z i j k : Nat} {l c : List HitP} {cf : FuncId} {rv : Value} {ord : HitP → HitP → Int}
theorem PI.start (hn : l.length = n) (hl : ∀ h ∈ l, S h) (h : SSt C w g cap l W) : PI Q S C w g cap n a b l l (a + 1) (b - 1) W :=
  ⟨Seg.refl _ _ _, hn, hl, fun k h1 h2 => by omega, fun k h1 h2 => by omega, h, rfl⟩
theorem PI.below (hB : CmpB cf rv ord S C g) (h : PI Q S C w g cap n a b l c x y W) (hb : Below W.heap.size W W') : PI Q S C w g cap n a b l c x y W' :=
  ⟨h.seg, h.len, h.mem, h.pl, h.pr, h.st.below hB hb, h.piv⟩
theorem PI.up (h : PI Q S C w g cap n a b l c x y W) (hq : Q (nth c a) (nth c x)) : PI Q S C w g cap n a b l c (x + 1) y W :=
  ⟨h.seg, h.len, h.mem, h.pl.step hq, h.pr, h.st, h.piv⟩
theorem PI.down (h : PI Q S C w g cap n a b l c x (z + 1) W) (hq : ¬ Q (nth c a) (nth c (z + 1))) : PI Q S C w g cap n a b l c x z W :=
  ⟨h.seg, h.len, h.mem, h.pl, h.pr.step hq, h.st, h.piv⟩
/-- Two elements, as a test reads them. -/
theorem PI.look (hB : CmpB cf rv ord S C g) (h : PI Q S C w g cap n a b l c x y W) (hk : k < n) (hj : j < n) :
    ∃ u v : HitP, Hid (nth c k = u) ∧ Hid (nth c j = v) ∧
      (∀ d os, (grow (redrawn W d) os).cell? ⟨g, k * 2, none⟩ = some (.int .i64 u.1)) ∧ (∀ d os, (grow (redrawn W d) os).cell? ⟨g, k * 2 + 1, none⟩ = some (.int .i64 u.2)) ∧
      (∀ d os, (grow (redrawn W d) os).cell? ⟨g, j * 2, none⟩ = some (.int .i64 v.1)) ∧ (∀ d os, (grow (redrawn W d) os).cell? ⟨g, j * 2 + 1, none⟩ = some (.int .i64 v.2)) ∧
      ∀ d os, Calls Try.prog cf #[rv, .agg #[.int .i64 u.1, .int .i64 u.2], .agg #[.int .i64 v.1, .int .i64 v.2]] (grow (redrawn W d) os) fun e w' => e = .returned (.int .i64 (ord u v)) ∧ Below (grow (redrawn W d) os).heap.size (grow (redrawn W d) os) w' := by
  have hk' : k < c.length := by rw [h.len]; exact hk
  have hj' : j < c.length := by rw [h.len]; exact hj
  obtain ⟨_, _, g0, g1⟩ := h.st.cell hk' rfl
  obtain ⟨_, _, g2, g3⟩ := h.st.cell hj' rfl
  exact ⟨nth c k, nth c j, rfl, rfl, g0, g1, g2, g3, h.st.call hB (h.mem _ (nth_mem hk')) (h.mem _ (nth_mem hj'))⟩
/-- Two elements, as an exchange reads and writes them. -/
theorem SSt.xch (hB : CmpB cf rv ord S C g) (h : SSt C w g cap c W) (hi : i < c.length) (hj : j < c.length) :
    ∃ u v : HitP, (i = j → u = v) ∧ (W.cell? ⟨g, i * 2, none⟩ = some (.int .i64 u.1) ∧ W.cell? ⟨g, i * 2 + 1, none⟩ = some (.int .i64 u.2)) ∧ (W.frozen? ⟨g, i * 2, none⟩ = false ∧ W.frozen? ⟨g, i * 2 + 1, none⟩ = false) ∧
      (W.cell? ⟨g, j * 2, none⟩ = some (.int .i64 v.1) ∧ W.cell? ⟨g, j * 2 + 1, none⟩ = some (.int .i64 v.2)) ∧ (W.frozen? ⟨g, j * 2, none⟩ = false ∧ W.frozen? ⟨g, j * 2 + 1, none⟩ = false) ∧
      SSt C w g cap (swp c i j) ((((W.setCell ⟨g, i * 2, none⟩ (.int .i64 v.1)).setCell ⟨g, i * 2 + 1, none⟩ (.int .i64 v.2)).setCell ⟨g, j * 2, none⟩ (.int .i64 u.1)).setCell ⟨g, j * 2 + 1, none⟩ (.int .i64 u.2)).drew := by
  obtain ⟨p, q, _, _⟩ := h.cell hi rfl
  obtain ⟨r, s, _, _⟩ := h.cell hj rfl
  exact ⟨nth c i, nth c j, fun e => by rw [e], p, q, r, s, h.swap hB hi hj rfl rfl⟩
theorem PI.swapped (h : PI Q S C w g cap n a b l c x y W) (h' : SSt C w g cap (swp c x y) W') (hx : ¬ Q (nth c a) (nth c x)) (hy : Q (nth c a) (nth c y)) (h1 : a + 1 ≤ x) (h2 : x < y) (h3 : y < b) (hb : b ≤ n) :
    PI Q S C w g cap n a b l (swp c x y) (x + 1) (y - 1) W' := by
  have hs : Seg a b c (swp c x y) := Seg.swap c (by omega) (by omega)
  have hp := part_swap h.pl h.pr hx hy h1 h2 h3 (by rw [h.len]; exact hb)
  exact ⟨h.seg.trans hs, by rw [swp_length, h.len], seg_S hs (by rw [h.len]; exact hb) h.mem, hp.1, hp.2, h', by rw [← h.piv, nth_swp (by have := h.len; omega) (by have := h.len; omega), if_neg (by omega), if_neg (by omega)]⟩
/-- What partition promises. -/
structure Parted (ord : HitP → HitP → Int) (a b : Nat) (l c : List HitP) (m : Nat) : Prop where
  seg : Seg a b l c
  left : ∀ i, a ≤ i → i < m → ltO ord (nth c i) (nth c m)
  right : ∀ i, m < i → i < b → ¬ ltO ord (nth c i) (nth c m)
theorem PI.parted (h : PI (ltQ ord) S C w g cap n a b l c (y + 1) y W) (h1 : a ≤ y) (h2 : y < b) (hb : b ≤ n) : Parted ord a b l (swp c y a) y := by
  have hp := part_done h.pl h.pr h1 h2 (by rw [h.len]; exact hb)
  exact ⟨h.seg.trans (Seg.swap c (by omega) (by omega)), hp.1, hp.2⟩
/-- What partitionEqual promises: those that are like the pivot, then those above it. -/
structure PartEq (ord : HitP → HitP → Int) (a b pv : Nat) (l c : List HitP) (m : Nat) : Prop where
  seg : Seg a b l c
  left : ∀ i, a ≤ i → i < m → ¬ ltO ord (nth l pv) (nth c i)
  right : ∀ i, m ≤ i → i < b → ltO ord (nth l pv) (nth c i)
theorem PI.partEq {k : List HitP} (hO : Ord (ltO ord)) (h : PI (eqQ ord) S C w g cap n a b k c (y + 1) y W) (e : k = swp l a z) (hs : Seg a b l k) (hz : a ≤ z ∧ z < b) (hy : a ≤ y) (hb : b ≤ n) : PartEq ord a b z l c (y + 1) := by
  have hl : l.length = n := by rw [← h.len, h.seg.length, hs.length]
  have hp : nth c a = nth l z := by
    rw [h.piv, e, nth_swp (by omega) (by omega)]
    split
    · rename_i q; rw [q]
    · rw [if_pos rfl]
  refine ⟨hs.trans h.seg, fun i h1 h2 => ?_, fun i h1 h2 => ?_⟩
  · rw [← hp]
    by_cases q : i = a
    · rw [q]; exact hO.irrefl _
    · exact h.pl i (by omega) h2
  · rw [← hp]
    exact Classical.byContradiction fun q => h.pr i (by omega) h2 q
end

end Go.Proofs.Ytmpmjkbjnklgfaa

/- The two small functions that breakPatterns calls. -/

namespace Go.Proofs.Ytmpmjkbjnklgfaa
open Go.RowKit Go.Sort Go.Shelf
set_option linter.unusedVariables false

theorem xorNext_any (rb X : Nat) (hX : X < 18446744073709551616) (W : World) (hc : W.cell? ⟨rb, 0, none⟩ = some (.int .u64 X)) (hf : W.frozen? ⟨rb, 0, none⟩ = false) :
    Calls Try.prog 164 #[.pointer (some ⟨rb, 0, none⟩)] W fun e w' => ∃ Y : Nat, Y < 18446744073709551616 ∧ e = .returned (.int .u64 Y) ∧ w' = (W.setCell ⟨rb, 0, none⟩ (.int .u64 Y)).drewN 3 :=
  (AnyF.xorshift_Next (P := Try.prog) (ρ := sortHit_ren) { sortHit with } rb 0 X hX W hc hf).mono fun e w' ⟨h1, h2⟩ => ⟨xorNextN X, xorNextN_lt X hX, h1, h2⟩
theorem nextPow_any (n : Nat) (W : World) (h : n ≤ 1000000000000) : Calls Try.prog 163 #[.int .i64 n] W fun e w' => e = .returned (.int .u64 ((1 <<< bitsLen n : Nat) : Int)) ∧ w' = W :=
  AnyF.nextPowerOfTwo (P := Try.prog) (ρ := sortHit_ren) { sortHit with } n (by omega) W

end Go.Proofs.Ytmpmjkbjnklgfaa

/- The sort's helpers that choose a pivot; a segment reversed: walked. -/

namespace Go.Proofs.Ytmpmjkbjnklgfaa
open Go.RowKit Go.Sort
set_option linter.unusedVariables false

/-- A world in which the swaps are counted in a box of their own. -/
structure Pst (C : World → Prop) (w : World) (g cap : Nat) (c : List HitP) (W0 : World) (sb s : Nat) (W : World) : Prop where
  base : SSt C w g cap c W0
  bel : Below W0.heap.size W0 W
  fresh : W0.heap.size ≤ sb
  box : Boxed W sb 3 (.int .i64 s)
section
variable {cf : FuncId} {rv : Value} {ord : HitP → HitP → Int} {S : HitP → Prop} {C : World → Prop} {g cap sb s : Nat} {c : List HitP} {w W0 W W' : World}
theorem Pst.st (hB : CmpB cf rv ord S C g) (h : Pst C w g cap c W0 sb s W) : SSt C w g cap c W := h.base.below hB h.bel
theorem Pst.below (h : Pst C w g cap c W0 sb s W) (hb : Below W.heap.size W W') : Pst C w g cap c W0 sb s W' :=
  ⟨h.base, h.bel.trans (hb.mono h.bel.size), h.fresh, (hb.block _ h.box.lt).trans h.box⟩
theorem Pst.set (h : Pst C w g cap c W0 sb s W) (n : Nat) : Pst C w g cap c W0 sb n (W.setCell ⟨sb, 0, none⟩ (.int .i64 n)) :=
  ⟨h.base, h.bel.setCell (by exact h.fresh) _, h.fresh, h.box.set _⟩
end

def Pk (a b x y : Nat) : Prop := x = a ∧ y = b ∨ x = b ∧ y = a
def In3 (a b d m : Nat) : Prop := m = a ∨ m = b ∨ m = d

set_option maxRecDepth 100000 in
set_option maxHeartbeats 1000000 in
theorem order2_any (cf : FuncId) (rv : Value) (ord : HitP → HitP → Int) (S : HitP → Prop) (C : World → Prop) (g n cap cc a b sb s : Nat) (c : List HitP) (w W0 W : World) (hB : CmpB cf rv ord S C g) (hl : ∀ h ∈ c, S h) (hn : c.length = n) (hn1 : n ≤ 1000000000000) (ha : a < n) (hb : b < n) (hs : s ≤ 1000) (hP : Pst C w g cap c W0 sb s W) :
    Calls Try.prog 183 #[.slice (some ⟨g, 0, none⟩) n cc, .int .i64 a, .int .i64 b, .pointer (some ⟨sb, 0, none⟩), .func (.func cf) #[rv] #[]] W fun e w' =>
      ∃ x y s' : Nat, e = .returned (.tuple #[.int .i64 x, .int .i64 y]) ∧ Pk a b x y ∧ s' ≤ s + 1 ∧ Pst C w g cap c W0 sb s' w' := by
  have he := hB.enters
  have hSt := hP.st hB
  obtain ⟨x, hx⟩ : ∃ x, nth c b = x := ⟨_, rfl⟩
  obtain ⟨y, hy⟩ : ∃ y, nth c a = y := ⟨_, rfl⟩
  have hSx : S x := hx ▸ hl _ (nth_mem (by omega))
  have hSy : S y := hy ▸ hl _ (nth_mem (by omega))
  obtain ⟨_, _, gx0, gx1⟩ := hSt.cell (k := b) (by omega) hx
  obtain ⟨_, _, gy0, gy1⟩ := hSt.cell (k := a) (by omega) hy
  have hcall := hSt.call hB hSx hSy
  have HB := Lib.hid hB
  clear hx hy hn hB hl
  go_enter Try.func183, Try.ntmps183
  go_wp2
  refine wp_region_quiet_below mixed (by kernel_rfl) ?_
  repeat (go_big_quiet_step (exact grown_below (hcall _ _)))
  refine wpQuiet_nil ?_
  rintro _ ⟨⟨dq, osq⟩, rfl⟩
  have hP2 := hP.below (below_regrown W dq osq)
  clear gx0 gx1 gy0 gy1 hcall hSt hP
  dsimp only
  obtain ⟨W2, hW2⟩ : ∃ W2, W2 = grow (redrawn W dq) osq := ⟨_, rfl⟩
  rw [← hW2] at hP2 ⊢
  clear hW2
  by_cases hxy : ord x y < 0
  · have hdx : decide (ord x y < 0) = true := by simp [hxy]
    rw [hdx]
    clear hxy hdx
    have k0 := hP2.box.cell
    have k1 := hP2.box.frozen
    go_wp2
    go_ret2
    exact ⟨b, a, s + 1, rfl, .inr ⟨rfl, rfl⟩, Nat.le_refl _, hP2.set (s + 1)⟩
  · have hdx : decide (ord x y < 0) = false := by simp [hxy]
    rw [hdx]
    clear hxy hdx
    go_wp2
    go_ret2
    exact ⟨a, b, s, rfl, .inl ⟨rfl, rfl⟩, Nat.le_succ _, hP2⟩

set_option maxRecDepth 100000 in
set_option maxHeartbeats 1000000 in
theorem median_any (cf : FuncId) (rv : Value) (ord : HitP → HitP → Int) (S : HitP → Prop) (C : World → Prop) (g n cap cc a b d sb s : Nat) (c : List HitP) (w W0 W : World) (hB : CmpB cf rv ord S C g) (hl : ∀ h ∈ c, S h) (hn : c.length = n) (hn1 : n ≤ 1000000000000) (ha : a < n) (hb : b < n) (hd : d < n) (hs : s ≤ 900) (hP : Pst C w g cap c W0 sb s W) :
    Calls Try.prog 166 #[.slice (some ⟨g, 0, none⟩) n cc, .int .i64 a, .int .i64 b, .int .i64 d, .pointer (some ⟨sb, 0, none⟩), .func (.func cf) #[rv] #[]] W fun e w' =>
      ∃ m s' : Nat, e = .returned (.int .i64 m) ∧ In3 a b d m ∧ s' ≤ s + 3 ∧ Pst C w g cap c W0 sb s' w' := by
  have HB := Lib.hid hB
  have HL := Lib.hid hl
  have HN := Lib.hid hn
  clear hB hl hn
  go_enter Try.func166, Try.ntmps166
  go_wp2_with fail
  refine (order2_any cf rv ord S C g n cap cc a b sb s c w W0 _ HB.out HL.out HN.out hn1 ha hb (by omega) hP).mono ?_
  rintro e W1 ⟨x1, y1, s1, rfl, hp1, hs1, hP1⟩
  have hx1 : x1 < n := by rcases hp1 with ⟨rfl, rfl⟩ | ⟨rfl, rfl⟩ <;> omega
  have hy1 : y1 < n := by rcases hp1 with ⟨rfl, rfl⟩ | ⟨rfl, rfl⟩ <;> omega
  go_wp2_with fail
  refine (order2_any cf rv ord S C g n cap cc y1 d sb s1 c w W0 _ HB.out HL.out HN.out hn1 hy1 hd (by omega) hP1).mono ?_
  rintro e W2 ⟨x2, y2, s2, rfl, hp2, hs2, hP2⟩
  have hx2 : x2 < n := by rcases hp2 with ⟨rfl, rfl⟩ | ⟨rfl, rfl⟩ <;> omega
  go_wp2_with fail
  refine (order2_any cf rv ord S C g n cap cc x1 x2 sb s2 c w W0 _ HB.out HL.out HN.out hn1 hx1 hx2 (by omega) hP2).mono ?_
  rintro e W3 ⟨x3, y3, s3, rfl, hp3, hs3, hP3⟩
  have hin : In3 a b d y3 := by
    unfold In3
    rcases hp1 with ⟨rfl, rfl⟩ | ⟨rfl, rfl⟩ <;> rcases hp2 with ⟨rfl, rfl⟩ | ⟨rfl, rfl⟩ <;> rcases hp3 with ⟨rfl, rfl⟩ | ⟨rfl, rfl⟩ <;> simp
  have HIN := Lib.hid hin
  clear hin hp1 hp2 hp3
  go_wp2
  go_ret
  exact ⟨y3, s3, rfl, HIN.out, by omega, hP3⟩

set_option maxRecDepth 100000 in
set_option maxHeartbeats 1000000 in
theorem medAdj_any (cf : FuncId) (rv : Value) (ord : HitP → HitP → Int) (S : HitP → Prop) (C : World → Prop) (g n cap cc a sb s : Nat) (c : List HitP) (w W0 W : World) (hB : CmpB cf rv ord S C g) (hl : ∀ h ∈ c, S h) (hn : c.length = n) (hn1 : n ≤ 1000000000000) (ha : 1 ≤ a) (hb : a + 1 < n) (hs : s ≤ 900) (hP : Pst C w g cap c W0 sb s W) :
    Calls Try.prog 165 #[.slice (some ⟨g, 0, none⟩) n cc, .int .i64 a, .pointer (some ⟨sb, 0, none⟩), .func (.func cf) #[rv] #[]] W fun e w' =>
      ∃ m s' : Nat, e = .returned (.int .i64 m) ∧ In3 (a - 1) a (a + 1) m ∧ s' ≤ s + 3 ∧ Pst C w g cap c W0 sb s' w' := by
  have HB := Lib.hid hB
  have HL := Lib.hid hl
  have HN := Lib.hid hn
  clear hB hl hn
  obtain ⟨k, rfl⟩ : ∃ k, a = k + 1 := ⟨a - 1, by omega⟩
  have hcall := median_any cf rv ord S C g n cap cc k (k + 1) (k + 1 + 1) sb s c w W0 W HB.out HL.out HN.out hn1 (by omega) (by omega) (by omega) hs hP
  simp only [Int.natCast_add, Int.natCast_one] at hcall
  have HC := Lib.hid hcall
  clear hcall
  go_enter Try.func165, Try.ntmps165
  go_wp2_with fail
  refine HC.out.mono ?_
  rintro e W1 ⟨m, s1, rfl, hin, hs1, hP1⟩
  have HIN := Lib.hid hin
  clear hin
  go_wp2
  go_ret
  exact ⟨m, s1, rfl, HIN.out, hs1, hP1⟩

end Go.Proofs.Ytmpmjkbjnklgfaa

/- A cell written in a world and in what has grown out of it: for breakPatterns' own box. -/


namespace Go.Proofs.Ytmpmjkbjnklgfaa
open Go.RowKit Go.Sort
set_option linter.unusedVariables false

theorem below_setBoth {B : Nat} {V W : World} (h : Below B V W) (p : Addr) (hp : p.block < B) (u : Value) : Below B (V.setCell p u) (W.setCell p u) :=
  ⟨h.os, h.tape, h.output, by simpa [World.setCell] using h.size, fun k hk => by
    by_cases e : k = p.block
    · subst e
      have := h.block _ hk
      simp only [World.setCell, Array.getElem?_modify, if_true]
      rw [this]
    · rw [Below.heap_setCell _ _ _ _ e, Below.heap_setCell _ _ _ _ e]
      exact h.block k hk⟩

/-- A world of the sort beside whose row a random number has a box of its own. -/
structure Bst (C : World → Prop) (w : World) (g cap : Nat) (c : List HitP) (sb X : Nat) (V W : World) : Prop where
  base : SSt C w g cap c V
  bel : Below V.heap.size V W
  fresh : V.heap.size ≤ sb
  box : Boxed W sb 186 (.int .u64 X)
section
variable {cf : FuncId} {rv : Value} {ord : HitP → HitP → Int} {S : HitP → Prop} {C : World → Prop} {g cap sb X i j : Nat} {c : List HitP} {w V W : World}
theorem Bst.st (hB : CmpB cf rv ord S C g) (h : Bst C w g cap c sb X V W) : SSt C w g cap c W := h.base.below hB h.bel
theorem Bst.next (h : Bst C w g cap c sb X V W) (Y : Nat) : Bst C w g cap c sb Y V ((W.setCell ⟨sb, 0, none⟩ (.int .u64 Y)).drewN 3) :=
  ⟨h.base, h.bel.trans (Below.trans ((Below.refl _ _).setCell (by exact h.fresh) _) ⟨rfl, rfl, rfl, Nat.le_refl _, fun _ _ => rfl⟩), h.fresh, h.box.set _⟩
/-- An exchange in the row leaves the box as it is. -/
theorem Bst.swap (hB : CmpB cf rv ord S C g) (h : Bst C w g cap c sb X V W) (hg : g < V.heap.size) (hi : i < c.length) (hj : j < c.length) {u v : HitP} (hu : nth c i = u) (hv : nth c j = v) :
    ∃ V', Bst C w g cap (swp c i j) sb X V' ((((W.setCell ⟨g, i * 2, none⟩ (.int .i64 v.1)).setCell ⟨g, i * 2 + 1, none⟩ (.int .i64 v.2)).setCell ⟨g, j * 2, none⟩ (.int .i64 u.1)).setCell ⟨g, j * 2 + 1, none⟩ (.int .i64 u.2)).drew := by
  have hs := h.base.swap hB hi hj hu hv
  have hsz : ∀ (U : World) (p : Addr) (x : Value), (U.setCell p x).heap.size = U.heap.size := fun U p x => by simp [World.setCell]
  have b1 := below_setBoth (below_setBoth (below_setBoth (below_setBoth h.bel ⟨g, i * 2, none⟩ hg (.int .i64 v.1)) ⟨g, i * 2 + 1, none⟩ hg (.int .i64 v.2)) ⟨g, j * 2, none⟩ hg (.int .i64 u.1)) ⟨g, j * 2 + 1, none⟩ hg (.int .i64 u.2)
  have hne : sb ≠ g := by have := h.fresh; omega
  have hk : (((((W.setCell ⟨g, i * 2, none⟩ (.int .i64 v.1)).setCell ⟨g, i * 2 + 1, none⟩ (.int .i64 v.2)).setCell ⟨g, j * 2, none⟩ (.int .i64 u.1)).setCell ⟨g, j * 2 + 1, none⟩ (.int .i64 u.2))).heap[sb]? = W.heap[sb]? := by
    rw [Below.heap_setCell _ _ _ _ hne, Below.heap_setCell _ _ _ _ hne, Below.heap_setCell _ _ _ _ hne, Below.heap_setCell _ _ _ _ hne]
  refine ⟨_, hs, ?_, ?_, ?_⟩
  · show Below (World.heap _).size _ _
    have e : ((((V.setCell ⟨g, i * 2, none⟩ (.int .i64 v.1)).setCell ⟨g, i * 2 + 1, none⟩ (.int .i64 v.2)).setCell ⟨g, j * 2, none⟩ (.int .i64 u.1)).setCell ⟨g, j * 2 + 1, none⟩ (.int .i64 u.2)).drew.heap.size = V.heap.size := by
      show (World.setCell _ _ _).heap.size = _
      rw [hsz, hsz, hsz, hsz]
    rw [e]
    exact ⟨b1.os, b1.tape, b1.output, b1.size, b1.block⟩
  · show (World.setCell _ _ _).heap.size ≤ sb
    rw [hsz, hsz, hsz, hsz]; exact h.fresh
  · exact hk.trans h.box
end

end Go.Proofs.Ytmpmjkbjnklgfaa

/- The sort's breakPatterns, walked. -/




namespace Go.Proofs.Ytmpmjkbjnklgfaa
open Go.RowKit Go.Sort
set_option linter.unusedVariables false
set_option linter.unusedSimpArgs false

set_option maxRecDepth 100000 in
set_option maxHeartbeats 4000000 in
theorem break_any (cf : FuncId) (rv : Value) (ord : HitP → HitP → Int) (S : HitP → Prop) (C : World → Prop) (g n cap cc a b : Nat) (l : List HitP) (w W : World) (hB : CmpB cf rv ord S C g) (hn : l.length = n) (hn1 : n ≤ 1000000000000) (hab : a + 12 < b) (hbn : b ≤ n) (hP : SSt C w g cap l W) :
    Calls Try.prog 140 #[.slice (some ⟨g, 0, none⟩) n cc, .int .i64 a, .int .i64 b, .func (.func cf) #[rv] #[]] W fun e w' =>
      e = .returned (.tuple #[]) ∧ ∃ c', Seg a b l c' ∧ SSt C w g cap c' w' := by
  have he := hB.enters
  have HB := Lib.hid hB
  have HN := Lib.hid hn
  obtain ⟨L, hL⟩ : ∃ L, b = a + L := ⟨b - a, by omega⟩
  have HBE := Lib.hid hL
  have E1 := Lib.hid (show (b : Int) - (a : Int) = ((L : Nat) : Int) from by omega)
  have hL8 : (8 : Int) ≤ L := by omega
  have hLn : L ≤ n := by omega
  have hbn2 : a + L ≤ n := by omega
  have hLp : (0 : Int) ≤ L := by omega
  obtain ⟨M, hM⟩ : ∃ M : Nat, M = 1 <<< bitsLen L := ⟨_, rfl⟩
  have hM1 : 1 ≤ M := by rw [hM, Nat.one_shiftLeft]; exact Nat.two_pow_pos _
  have hM2 : M ≤ 2 * L := by rw [hM, Nat.one_shiftLeft]; exact two_pow_bitsLen_le (by omega)
  have hNP := nextPow_any L
  rw [← hM] at hNP
  clear hn hB hL hM
  go_enter Try.func140, Try.ntmps140
  go_upto_region 1 with fail
  rw [E1.out]
  go_wp2_with fail
  refine (hNP _ (by omega)).mono ?_
  rintro e w1 ⟨rfl, rfl⟩
  go_wp2
  go_loopw [11] (fun vi wr => ∃ (t X : Nat) (c : List HitP) (V : World), vi = .int .i64 ((a : Int) + (L : Int) / 4 * 2 - 1 + (t : Int)) ∧ t ≤ 3 ∧ X < 18446744073709551616 ∧ Hid (Seg a (a + L) l c) ∧ g < V.heap.size ∧ Bst C w g cap c W.heap.size X V wr) (fun vi _ => (a + L / 4 * 2 + 3) - (intOf vi).toNat)
  case atStart => exact ⟨0, L, l, W, by simp, by omega, by omega, Seg.refl _ _ _, hP.row.lt, hP, (Below.refl _ _).alloc (Nat.le_refl _) _, Nat.le_refl _, Boxed.new _ _ _⟩
  case round =>
    clear hP
    obtain ⟨t, X, c, V, rfl, ht, hX, HS, hgV, hI⟩ := hrel
    by_cases ht3 : t < 3
    · have hle : (a : Int) + (L : Int) / 4 * 2 - 1 + (t : Int) ≤ (a : Int) + (L : Int) / 4 * 2 + 1 := by omega
      have hcl : c.length = n := by rw [HS.out.length, HN.out]
      go_wp2_with fail
      refine (xorNext_any W.heap.size X hX wr hI.box.cell hI.box.frozen).mono ?_
      rintro e w2 ⟨Y, hY, rfl, rfl⟩
      have hI2 := hI.next Y
      obtain ⟨W2, hW2⟩ : ∃ W2, W2 = (wr.setCell ⟨W.heap.size, 0, none⟩ (.int .u64 Y)).drewN 3 := ⟨_, rfl⟩
      rw [← hW2] at hI2 ⊢
      clear hW2 hI
      obtain ⟨O, hO⟩ : ∃ O : Nat, O = Y &&& (M - 1) := ⟨_, rfl⟩
      have lO : O ≤ M - 1 := by rw [hO]; exact Nat.and_le_right
      have eAnd : bits .and .u64 (Y : Int) ((M : Int) - 1) = (O : Int) := by
        rw [show ((M : Int) - 1) = ((M - 1 : Nat) : Int) by omega, bits_and_u64_nat _ _ hY (by omega), hO]
      clear hO
      go_upto_region 8 with fail
      obtain ⟨K, hK⟩ : ∃ K : Nat, K = a + L / 4 * 2 - 1 + t := ⟨_, rfl⟩
      have EK := Lib.hid (show (a : Int) + (L : Int) / 4 * 2 - 1 + (t : Int) = ((K : Nat) : Int) from by omega)
      have hKb : a ≤ K ∧ K < a + L := by omega
      have hKn : K < n := by omega
      clear hK
      rw [EK.out]
      go_upto_if 45 with fail
      go_cut [12] (fun s12 wx => W2 = wx ∧ ∃ O : Nat, s12 = .int .i64 O ∧ O < L)
      case first =>
        by_cases hLO : L ≤ O
        · have d0 : decide ((L : Int) ≤ O) = true := by simp; omega
          go_wp2_with fail
          go_meet
          exact ⟨rfl, O - L, by congr 1; omega, by omega⟩
        · have d0 : decide ((L : Int) ≤ O) = false := by simp; omega
          go_wp2_with fail
          go_meet
          exact ⟨rfl, O, rfl, by omega⟩
      case rest =>
        obtain ⟨rfl, Q, rfl, hQ⟩ := hcut
        have haQ : a + Q < n := by omega
        obtain ⟨u, hu⟩ : ∃ u, nth c K = u := ⟨_, rfl⟩
        obtain ⟨v, hv⟩ : ∃ v, nth c (a + Q) = v := ⟨_, rfl⟩
        obtain ⟨⟨x0, x1⟩, ⟨fx0, fx1⟩, _, _⟩ := (hI2.st HB.out).cell (k := K) (by omega) hu
        obtain ⟨⟨y0, y1⟩, ⟨fy0, fy1⟩, _, _⟩ := (hI2.st HB.out).cell (k := a + Q) (by omega) hv
        obtain ⟨V', hX'⟩ := hI2.swap HB.out hgV (i := K) (j := a + Q) (by omega) (by omega) hu hv
        have HS2 : Hid (Seg a (a + L) l (swp c K (a + Q))) := HS.out.trans (Seg.swap c (by omega) (by omega))
        clear hI2 HS hcl
        by_cases hKQ : K = a + Q
        · have huv : u = v := by rw [← hu, ← hv, hKQ]
          subst hKQ
          subst huv
          have HX := Lib.hid hX'
          clear hX' hu hv
          go_wp2
          go_region
          go_wp2
          go_roundw
          case rel => exact ⟨t + 1, Y, _, V', by congr 1; have := EK.out; omega, by omega, hY, HS2, HX.out.base.row.lt, HX.out⟩
          case measure => have := EK.out; simp [intOf]; omega
        · have HX := Lib.hid hX'
          clear hX' hu hv
          go_wp2
          go_region
          go_wp2
          go_roundw
          case rel => exact ⟨t + 1, Y, _, V', by congr 1; have := EK.out; omega, by omega, hY, HS2, HX.out.base.row.lt, HX.out⟩
          case measure => have := EK.out; simp [intOf]; omega
    · have HF : Hid (Seg a b l c) := by rw [HBE.out]; exact HS.out
      have HX := Lib.hid (hI.st HB.out)
      clear hI HS
      go_wp2
      go_end0
      exact ⟨rfl, c, HF.out, HX.out⟩

end Go.Proofs.Ytmpmjkbjnklgfaa
