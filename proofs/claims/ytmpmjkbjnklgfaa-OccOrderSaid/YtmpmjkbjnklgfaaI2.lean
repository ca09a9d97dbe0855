/- The insertion sort of hits, walked. -/
import Derived.Test.YtmpmjkbjnklgfaaI1
namespace Go.Proofs.Ytmpmjkbjnklgfaa
open Go.RowKit Go.Sort
set_option linter.unusedVariables false

theorem gb_of_below {W W' : World} (h : Below W.heap.size W W') (g : Nat) : W.grownBy W' (some g) := ⟨h.os, h.tape, h.output, h.size, fun k hk _ => h.block k hk⟩
theorem gb_drew (W : World) (n g : Nat) : W.grownBy (W.drewN n) (some g) := ⟨rfl, rfl, rfl, Nat.le_refl _, fun _ _ _ => rfl⟩
theorem nth_mem {l : List HitP} {i : Nat} (h : i < l.length) : nth l i ∈ l := by
  unfold nth
  rw [List.getD_eq_getElem?_getD, List.getElem?_eq_getElem h, Option.getD_some]
  exact List.getElem_mem h

theorem below_drew (W : World) : Below W.heap.size W W.drew := ⟨rfl, rfl, rfl, Nat.le_refl _, fun _ _ => rfl⟩
theorem swap_world {cf : FuncId} {rv : Value} {ord : HitP → HitP → Int} {S : HitP → Prop} {C : World → Prop} {g cap j : Nat} {c : List HitP} {x y : HitP} {w W : World} (hB : CmpB cf rv ord S C g) (hj : j + 1 < c.length) (hx : nth c (j + 1) = x) (hy : nth c j = y) (hR : RowAt W g cap c) (hC : C W) (hg : w.grownBy W (some g)) :
    RowAt ((((W.setCell ⟨g, (j + 1) * 2, none⟩ (.int .i64 y.1)).setCell ⟨g, (j + 1) * 2 + 1, none⟩ (.int .i64 y.2)).setCell ⟨g, j * 2, none⟩ (.int .i64 x.1)).setCell ⟨g, j * 2 + 1, none⟩ (.int .i64 x.2)).drew g cap (swapN c j) ∧
    C ((((W.setCell ⟨g, (j + 1) * 2, none⟩ (.int .i64 y.1)).setCell ⟨g, (j + 1) * 2 + 1, none⟩ (.int .i64 y.2)).setCell ⟨g, j * 2, none⟩ (.int .i64 x.1)).setCell ⟨g, j * 2 + 1, none⟩ (.int .i64 x.2)).drew ∧
    w.grownBy ((((W.setCell ⟨g, (j + 1) * 2, none⟩ (.int .i64 y.1)).setCell ⟨g, (j + 1) * 2 + 1, none⟩ (.int .i64 y.2)).setCell ⟨g, j * 2, none⟩ (.int .i64 x.1)).setCell ⟨g, j * 2 + 1, none⟩ (.int .i64 x.2)).drew (some g) := by
  subst hx hy
  have r1 := (hR.set (k := j + 1) hj (nth c j)).set (k := j) (by simp; omega) (nth c (j + 1))
  have c1 := hB.store _ (j * 2 + 1) (.int .i64 (nth c (j + 1)).2) (hB.store _ (j * 2) (.int .i64 (nth c (j + 1)).1) (hB.store _ ((j + 1) * 2 + 1) (.int .i64 (nth c j).2) (hB.store _ ((j + 1) * 2) (.int .i64 (nth c j).1) hC)))
  have g1 := (((hg.trans (grown_set2 W g ((j + 1) * 2) (.int .i64 (nth c j).1))).trans (grown_set2 _ g ((j + 1) * 2 + 1) (.int .i64 (nth c j).2))).trans (grown_set2 _ g (j * 2) (.int .i64 (nth c (j + 1)).1))).trans (grown_set2 _ g (j * 2 + 1) (.int .i64 (nth c (j + 1)).2))
  generalize (((W.setCell ⟨g, (j + 1) * 2, none⟩ (.int .i64 (nth c j).1)).setCell ⟨g, (j + 1) * 2 + 1, none⟩ (.int .i64 (nth c j).2)).setCell ⟨g, j * 2, none⟩ (.int .i64 (nth c (j + 1)).1)).setCell ⟨g, j * 2 + 1, none⟩ (.int .i64 (nth c (j + 1)).2) = V at *
  exact ⟨r1.below (below_drew V), hB.below _ _ c1 (below_drew V), g1.trans (gb_of_below (below_drew V) g)⟩

set_option maxRecDepth 100000 in
set_option maxHeartbeats 1500000 in
theorem insSort_any (cf : FuncId) (rv : Value) (ord : HitP → HitP → Int) (S : HitP → Prop) (C : World → Prop) (g n cap cc : Nat) (l : List HitP) (w : World) (hB : CmpB cf rv ord S C g)
    (ha : ∀ a b, ord a b < 0 → 0 ≤ ord b a) (hn : ∀ a b d, 0 ≤ ord a b → 0 ≤ ord b d → 0 ≤ ord a d) (hl : ∀ h ∈ l, S h) (hln : l.length = n) (hn1 : n ≤ 1000000000000) (hC : C w) (hR : RowAt w g cap l) :
    Calls Try.prog 138 #[.slice (some ⟨g, 0, none⟩) n cc, .int .i64 0, .int .i64 n, .func (.func cf) #[rv] #[]] w fun e w' => e = .returned (.tuple #[]) ∧
      ∃ l' : List HitP, l'.Perm l ∧ SrtTo (fun a b => ord a b < 0) l' n ∧ RowAt w' g cap l' ∧ C w' ∧ w.grownBy w' (some g) := by
  have he := hB.enters
  have HLN := Lib.hid hln
  have HA := Lib.hid ha
  have HN := Lib.hid hn
  have HB := Lib.hid hB
  have HL := Lib.hid hl
  clear hln ha hn hB hl
  go_enter Try.func138, Try.ntmps138
  go_wp2
  go_loopw [8, 9] (fun i _ wr => ∃ (k : Nat) (c : List HitP), (k = 1 ∨ k ≤ n) ∧ 1 ≤ k ∧ i = .int .i64 k ∧ Hid (c.Perm l ∧ SrtTo (fun a b => ord a b < 0) c k) ∧ RowAt wr g cap c ∧ C wr ∧ w.grownBy wr (some g)) (fun i _ _ => n + 1 - (intOf i).toNat)
  case atStart => exact ⟨1, l, .inl rfl, Nat.le_refl _, rfl, ⟨List.Perm.refl _, fun p q h1 h2 => by omega⟩, hR, hC, World.grownBy.refl _ _⟩
  case round =>
    obtain ⟨k, c, hk, hk1, rfl, HC, hRr, hCr, hgr⟩ := hrel
    by_cases hlt : k < n
    · have hd : decide ((k : Int) < n) = true := by simp; omega
      go_wp2
      go_loopw [9] (fun j wi => ∃ (m : Nat) (c : List HitP), m ≤ k ∧ j = .int .i64 m ∧ Hid (c.Perm l ∧ InvI (fun a b => ord a b < 0) c k m) ∧ RowAt wi g cap c ∧ C wi ∧ w.grownBy wi (some g)) (fun j _ => (intOf j).toNat)
      case atStart => exact ⟨k, c, Nat.le_refl _, rfl, ⟨HC.out.1, InvI.start HC.out.2⟩, hRr, hCr, hgr⟩
      case round =>
        clear HC hRr hCr hgr
        obtain ⟨m, c, hm, rfl, HC, hRi, hCi, hgi⟩ := hrel
        have hcl : c.length = n := by rw [HC.out.1.length_eq, HLN.out]
        have HCL := Lib.hid hcl
        clear hcl
        by_cases h0 : 0 < m
        · obtain ⟨j, rfl⟩ : ∃ j, m = j + 1 := ⟨m - 1, by omega⟩
          have hgl := hRi.lt
          obtain ⟨x0, x1, fx0, fx1⟩ := hRi.cell (k := j + 1) (by rw [HCL.out]; omega)
          obtain ⟨y0, y1, fy0, fy1⟩ := hRi.cell (k := j) (by rw [HCL.out]; omega)
          have hSx : S (nth c (j + 1)) := HL.out _ (HC.out.1.mem_iff.1 (nth_mem (by rw [HCL.out]; omega)))
          have hSy : S (nth c j) := HL.out _ (HC.out.1.mem_iff.1 (nth_mem (by rw [HCL.out]; omega)))
          obtain ⟨x, hx⟩ : ∃ x, nth c (j + 1) = x := ⟨_, rfl⟩
          obtain ⟨y, hy⟩ : ∃ y, nth c j = y := ⟨_, rfl⟩
          rw [hx] at x0 x1 hSx
          rw [hy] at y0 y1 hSy
          have HX := Lib.hid hx
          have HY := Lib.hid hy
          clear hx hy
          have gx0 : ∀ d os, (grow (redrawn wr d) os).cell? ⟨g, (j + 1) * 2, none⟩ = some (.int .i64 x.1) := fun d os => ((below_regrown wr d os).cell (p := ⟨g, (j + 1) * 2, none⟩) hgl).trans x0
          have gx1 : ∀ d os, (grow (redrawn wr d) os).cell? ⟨g, (j + 1) * 2 + 1, none⟩ = some (.int .i64 x.2) := fun d os => ((below_regrown wr d os).cell (p := ⟨g, (j + 1) * 2 + 1, none⟩) hgl).trans x1
          have gy0 : ∀ d os, (grow (redrawn wr d) os).cell? ⟨g, j * 2, none⟩ = some (.int .i64 y.1) := fun d os => ((below_regrown wr d os).cell (p := ⟨g, j * 2, none⟩) hgl).trans y0
          have gy1 : ∀ d os, (grow (redrawn wr d) os).cell? ⟨g, j * 2 + 1, none⟩ = some (.int .i64 y.2) := fun d os => ((below_regrown wr d os).cell (p := ⟨g, j * 2 + 1, none⟩) hgl).trans y1
          have hd0 : decide (0 < (j : Int) + 1) = true := by simp
          have hcall : ∀ d os, Calls Try.prog cf #[rv, .agg #[.int .i64 x.1, .int .i64 x.2], .agg #[.int .i64 y.1, .int .i64 y.2]] (grow (redrawn wr d) os) fun e w' => e = .returned (.int .i64 (ord x y)) ∧ Below (grow (redrawn wr d) os).heap.size (grow (redrawn wr d) os) w' :=
            fun d os => HB.out.calls x y _ hSx hSy (HB.out.below _ _ hCi (below_regrown wr d os))
          clear x0 x1 fx0 fx1 y0 y1 fy0 fy1
          go_wp2
          refine wp_region_quiet_below mixed (by kernel_rfl) ?_
          repeat (go_big_quiet_step (exact grown_below (hcall _ _)))
          refine wpQuiet_nil ?_
          rintro _ ⟨⟨dq, osq⟩, rfl⟩
          have hBq := below_regrown wr dq osq
          have hR2 := hRi.below hBq
          have hC2 := HB.out.below _ _ hCi hBq
          have hg2 : w.grownBy (grow (redrawn wr dq) osq) (some g) := hgi.trans (gb_of_below hBq g)
          clear gx0 gx1 gy0 gy1 hcall hBq hRi hCi hgi
          dsimp only
          obtain ⟨W2, hW2⟩ : ∃ W2, W2 = grow (redrawn wr dq) osq := ⟨_, rfl⟩
          rw [← hW2] at hR2 hC2 hg2 ⊢
          clear hW2
          by_cases hxy : ord x y < 0
          · have HXY := Lib.hid hxy
            have hdx : decide (ord x y < 0) = true := by simp [hxy]
            rw [hdx]
            obtain ⟨x0, x1, fx0, fx1⟩ := hR2.cell (k := j + 1) (by rw [HCL.out]; omega)
            obtain ⟨y0, y1, fy0, fy1⟩ := hR2.cell (k := j) (by rw [HCL.out]; omega)
            rw [HX.out] at x0 x1
            rw [HY.out] at y0 y1
            clear hxy hdx
            go_wp2
            go_region
            go_wp2
            have hj1 : j + 1 < c.length := by rw [HCL.out]; omega
            have hst := InvI.step (lt := fun a b => ord a b < 0) (fun a b h => Int.not_lt.2 (HA.out a b h)) HC.out.2 (by omega) (by rw [HCL.out]; omega) (by rw [HX.out, HY.out]; exact HXY.out)
            have hall := swap_world HB.out hj1 HX.out HY.out hR2 hC2 hg2
            go_roundw
            case rel => exact ⟨j, swapN c j, by omega, by go_num, ⟨(swapN_perm hj1).trans HC.out.1, hst⟩, hall.1, hall.2.1, hall.2.2⟩
            case measure => simp [intOf]; try omega
          · have hdx : decide (ord x y < 0) = false := by simp [hxy]
            rw [hdx]
            have hs := InvI.stop (lt := fun a b => ord a b < 0) (fun a b d h1 h2 => Int.not_lt.2 (HN.out a b d (Int.not_lt.1 h1) (Int.not_lt.1 h2))) HC.out.2 (by omega) (.inr (by rw [Nat.add_sub_cancel, HX.out, HY.out]; exact hxy))
            have HS : Hid (c.Perm l ∧ SrtTo (fun a b => ord a b < 0) c (k + 1)) := ⟨HC.out.1, hs⟩
            clear hs hxy hdx
            go_wp2
            go_roundw
            case rel => exact ⟨k + 1, c, .inr (by omega), by omega, by go_num, HS, hR2, hC2, hg2⟩
            case measure => simp [intOf]; omega
        · obtain rfl : m = 0 := by omega
          have hs := InvI.stop (lt := fun a b => ord a b < 0) (fun a b d h1 h2 => Int.not_lt.2 (HN.out a b d (Int.not_lt.1 h1) (Int.not_lt.1 h2))) HC.out.2 (Nat.zero_le _) (.inl rfl)
          have HS : Hid (c.Perm l ∧ SrtTo (fun a b => ord a b < 0) c (k + 1)) := ⟨HC.out.1, hs⟩
          clear hs
          have hd0 : decide ((0 : Int) < (0 : Int)) = false := rfl
          go_wp2
          go_quiet (fail)
          go_wp2
          go_roundw
          case rel => exact ⟨k + 1, c, .inr (by omega), by omega, by go_num, HS, hRi.below ⟨rfl, rfl, rfl, Nat.le_refl _, fun _ _ => rfl⟩, HB.out.below _ _ hCi ⟨rfl, rfl, rfl, Nat.le_refl _, fun _ _ => rfl⟩, hgi.trans (gb_drew wr nq g)⟩
          case measure => simp [intOf]; omega
    · have HF : Hid (c.Perm l ∧ SrtTo (fun a b => ord a b < 0) c n) := ⟨HC.out.1, fun p q h1 h2 => HC.out.2 p q h1 (by omega)⟩
      go_wp2
      go_end0
      exact ⟨rfl, c, HF.out.1, HF.out.2, hRr, hCr, hgr⟩

end Go.Proofs.Ytmpmjkbjnklgfaa
