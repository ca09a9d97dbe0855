/- The iterator over blocks (layer 28), and its caller Slices. -/
import Derived.Test.YtmpmjkbjnklgfaaB1
import Derived.Test.YtmpmjkbjnklgfaaRf
namespace Go.Proofs.Ytmpmjkbjnklgfaa
open Go.RowKit Go.Sort
set_option linter.unusedVariables false
attribute [local go_sem] Oper.semAt_some

attribute [local simp] wide_fn wide_depth
attribute [local go_sem] wide_fn wide_depth

abbrev Blk := { p : Int × Int // 0 ≤ p.1 ∧ p.1 ≤ 1000 ∧ 0 ≤ p.2 ∧ p.2 ≤ 2147483647 }
def blkEnc (p : Blk) : Array Value := #[.int .i64 p.1.1, .int .i64 p.1.2]

def isBlocks (L B y : Int) (xs : List Blk) : Prop := ∃ k0 : Nat, k0 ≤ (y / B).toNat ∧ (k0 < (y / B).toNat → ¬ wI L B k0 < L - 1) ∧ xs.map (·.1) = headL L B k0 ++ tailL L B y k0

set_option maxRecDepth 100000 in
set_option maxHeartbeats 4000000 in
theorem blocks_in (wk bl rg qu ou sl fr L y : Int) (n : Nat) (l Br : Nat) (h1 : 1 ≤ L) (h2 : L ≤ 32) (h3 : 1 ≤ bl) (h4 : bl ≤ 256) (h5 : 0 ≤ y) (h6 : y ≤ 2147483647) (J Jx : List Blk → World → Prop) (W : World)
    (hJ : AbidesFrom W.heap.size J) (hJx : AbidesFrom W.heap.size Jx)
    (hY : ∀ pre x W1, J pre W1 → pre.length < 34 → YieldAt Fence.wide (n - 1) Try.prog l (blkEnc x) W1 fun e W' =>
      (e = .returned (.bool true) ∧ J (pre ++ [x]) W' ∧ keepAt Br W1 W') ∨ (e = .returned (.bool false) ∧ Jx (pre ++ [x]) W'))
    (hBr : W.heap[Br]? = some (.cells (reckV wk bl rg qu ou sl fr L y) 83 (0, 0))) (h0 : J [] W) :
    CallsIn Fence.wide n Try.prog 103 #[.func (.yield l) #[] #[], .pointer (some ⟨Br, 0, none⟩)] W fun e W' => (∃ v, e = .returned v) ∧
      ((∃ xs, isBlocks L bl y xs ∧ J xs W') ∨ (∃ pre, True ∧ Jx pre W')) := by
  obtain ⟨K, hK⟩ : ∃ K : Nat, y / bl = K := ⟨(y / bl).toNat, by have := Int.ediv_nonneg h5 (show 0 ≤ bl by omega); omega⟩
  obtain ⟨R, hR⟩ : ∃ R : Int, y % bl = R := ⟨_, rfl⟩
  have hR0 : 0 ≤ R := by rw [← hR]; exact Int.emod_nonneg _ (by omega)
  have hR1 : R < bl := by rw [← hR]; exact Int.emod_lt_of_pos _ (by omega)
  have hKy : (K : Int) ≤ 2147483647 := by have := (div_mul_le (B := bl) h3 h5).2; rw [hK] at this; simp at this; omega
  have hne : (bl == 0) = false := by simp; omega
  have HS : Hid (∀ k0 : Nat, k0 ≤ K → (k0 < K → ¬ wI L bl k0 < L - 1) → ∀ xs : List Blk, xs.map (·.1) = headL L bl k0 ++ tailL L bl y k0 → isBlocks L bl y xs) := by
    intro k0 a b xs e
    exact ⟨k0, by rw [hK]; simpa using a, by rw [hK]; simpa using b, e⟩
  have HT : Hid (∀ k0, tailL L bl y k0 = (if k0 < K then [(L - 1 + bl, ((K - k0 : Nat) : Int))] else []) ++ (if 0 < R then [(wI L bl K + R, 1)] else [])) := by
    intro k0
    unfold tailL
    rw [hK, hR, Int.toNat_natCast]
  have cells : ∀ w : World, w.heap[Br]? = some (.cells (reckV wk bl rg qu ou sl fr L y) 83 (0, 0)) →
      w.cell? ⟨Br, 0, none⟩ = some (.int .i64 wk) ∧ w.cell? ⟨Br, 1, none⟩ = some (.int .i64 bl) ∧ w.cell? ⟨Br, 2, none⟩ = some (.int .i64 rg) ∧ w.cell? ⟨Br, 3, none⟩ = some (.int .i64 qu) ∧ w.cell? ⟨Br, 4, none⟩ = some (.int .i64 ou) ∧ w.cell? ⟨Br, 5, none⟩ = some (.int .i64 sl) ∧ w.cell? ⟨Br, 6, none⟩ = some (.int .i64 fr) ∧ w.cell? ⟨Br, 7, none⟩ = some (.int .i64 L) ∧ w.cell? ⟨Br, 8, none⟩ = some (.int .i64 y) := by
    intro w h
    simp [World.cell?, h]
  obtain ⟨c0, c1, c2, c3, c4, c5, c6, c7, c8⟩ := cells W hBr
  refine callsIn_of_wp Try.func103 rfl trivial ?_ rfl
  simp only [Try.ntmps103, List.size_toArray, List.length_cons, List.length_nil, Nat.reduceAdd, Nat.reduceSub, Array.replicate_succ, Array.replicate_zero, List.push_toArray, List.append_toArray, List.nil_append, List.cons_append]
  gi_wp2
  refine regionR_drawn (wideF _ _) mixed (by kernel_rfl) (by kernel_rfl) ?_
  repeat (go_big_quiet_step (fail))
  refine wpQuiet_nil ?_
  rintro _ ⟨nq, rfl⟩
  gi_wp2
  have hb0 : Below W.heap.size W (W.drewN nq) := ⟨rfl, rfl, rfl, Nat.le_refl _, fun _ _ => rfl⟩
  rw [hK, hR]
  gi_loopw [5] (fun i wr => ∃ (k : Nat) (pre : List Blk), k ≤ K ∧ (k : Int) ≤ L - 1 ∧ i = .int .i64 k ∧ pre.map (·.1) = headL L bl k ∧ J pre wr ∧ wr.heap[Br]? = some (.cells (reckV wk bl rg qu ou sl fr L y) 83 (0, 0)))
    (fun i _ => K - (intOf i).toNat)
  case atStart => exact ⟨0, [], Nat.zero_le _, by omega, rfl, rfl, abides_below hJ h0 hb0, hBr⟩
  case round =>
    obtain ⟨k, pre, hk, hkL, rfl, hpre, hj, hBr1⟩ := hrel
    clear c0 c1 c2 c3 c4 c5 c6 c7 c8 hBr
    obtain ⟨c0, c1, c2, c3, c4, c5, c6, c7, c8⟩ := cells wr hBr1
    have hw := wI_bd (L := L) (B := bl) h1 h3 k
    have HL : Hid (wI L bl k < L - 1 → ((k + 1 : Nat) : Int) ≤ L - 1) := by
      intro h
      have : (k : Int) * 1 ≤ (k : Int) * bl := Int.mul_le_mul_of_nonneg_left h3 (by omega)
      unfold wI at h
      omega
    have hlen : pre.length = k := by have := congrArg List.length hpre; simpa [headL_length] using this
    by_cases hlt : k < K
    · by_cases hwl : wI L bl k < L - 1
      · have k0 := cell_regrown c0; have k1 := cell_regrown c1; have k2 := cell_regrown c2; have k3 := cell_regrown c3; have k4 := cell_regrown c4
        have k5 := cell_regrown c5; have k6 := cell_regrown c6; have k7 := cell_regrown c7; have k8 := cell_regrown c8
        have cW : ∀ d os, Calls Try.prog 104 #[.agg (reckV wk bl rg qu ou sl fr L y), .int .i64 k] (grow (redrawn wr d) os) fun e w'' => e = .returned (.int .i64 (wI L bl k)) ∧ ∃ p : Regrown, w'' = grow (redrawn wr p.d) p.os :=
          fun d os => Calls.regrown_of (warm_any wk bl rg qu ou sl fr L y k _ h1 h2 h3 h4 (by omega))
        gi_wp2
        refine regionR_below (wideF _ _) mixed (by kernel_rfl) (by kernel_rfl) ?_
        repeat (go_big_quiet_step (exact cW _ _))
        refine wpQuiet_nil ?_
        rintro _ ⟨⟨dq, osq⟩, rfl⟩
        obtain ⟨W2, hW2⟩ : ∃ W2, grow (redrawn wr dq) osq = W2 := ⟨_, rfl⟩
        rw [hW2]
        have hb2 : Below wr.heap.size wr W2 := hW2 ▸ below_regrown wr dq osq
        clear hW2 k0 k1 k2 k3 k4 k5 k6 k7 k8 cW c0 c1 c2 c3 c4 c5 c6 c7 c8
        have hBr2 : W2.heap[Br]? = _ := (hb2.block Br (Array.getElem?_eq_some_iff.1 hBr1).1).trans hBr1
        obtain ⟨c0, c1, c2, c3, c4, c5, c6, c7, c8⟩ := cells W2 hBr2
        have k0 := cell_regrown c0; have k1 := cell_regrown c1; have k2 := cell_regrown c2; have k3 := cell_regrown c3; have k4 := cell_regrown c4
        have k5 := cell_regrown c5; have k6 := cell_regrown c6; have k7 := cell_regrown c7; have k8 := cell_regrown c8
        have cW : ∀ d os, Calls Try.prog 104 #[.agg (reckV wk bl rg qu ou sl fr L y), .int .i64 k] (grow (redrawn W2 d) os) fun e w'' => e = .returned (.int .i64 (wI L bl k)) ∧ ∃ p : Regrown, w'' = grow (redrawn W2 p.d) p.os :=
          fun d os => Calls.regrown_of (warm_any wk bl rg qu ou sl fr L y k _ h1 h2 h3 h4 (by omega))
        gi_wp2
        refine regionR_below_tail (wideF _ _) 8 mixed (by kernel_rfl) (by kernel_rfl) ?_
        dsimp only [List.take_succ_cons, List.take_zero, List.drop_succ_cons, List.drop_zero]
        repeat (go_big_quiet_step (exact cW _ _))
        refine wpQuiet_nil ?_
        rintro _ ⟨⟨dq3, osq3⟩, rfl⟩
        obtain ⟨W3, hW3⟩ : ∃ W3, grow (redrawn W2 dq3) osq3 = W3 := ⟨_, rfl⟩
        rw [hW3]
        have hb3 : Below W2.heap.size W2 W3 := hW3 ▸ below_regrown W2 dq3 osq3
        clear hW3 k0 k1 k2 k3 k4 k5 k6 k7 k8 cW c0 c1 c2 c3 c4 c5 c6 c7 c8
        have hBr3 : W3.heap[Br]? = _ := (hb3.block Br (Array.getElem?_eq_some_iff.1 hBr2).1).trans hBr2
        obtain ⟨fn, tmps, assign, body, hy, hRo⟩ := hY pre ⟨(wI L bl k + bl, 1), by simp; omega, by simp; omega, by simp, by simp⟩ W3 (abides_below hJ (abides_below hJ hj hb2) hb3) (by omega)
        dsimp only [blkEnc] at hy
        gi_wp2
        refine hRo.mono ?_
        rintro e W4 (⟨rfl, hJ4, hk4⟩ | ⟨rfl, hJx4⟩)
        · gi_wp2
          go_roundw
          case rel => exact ⟨k + 1, _, by omega, HL.out hwl, by go_num, by rw [headL_succ]; simp [hpre], hJ4, hk4.trans hBr3⟩
          case measure => simp [intOf]; omega
        · gi_wp2
          refine bodyPost_ret (results_none rfl _ _ _) rfl ?_
          exact ⟨⟨_, rfl⟩, .inr ⟨_, trivial, hJx4⟩⟩
      · have k0 := cell_regrown c0; have k1 := cell_regrown c1; have k2 := cell_regrown c2; have k3 := cell_regrown c3; have k4 := cell_regrown c4
        have k5 := cell_regrown c5; have k6 := cell_regrown c6; have k7 := cell_regrown c7; have k8 := cell_regrown c8
        have cW : ∀ d os, Calls Try.prog 104 #[.agg (reckV wk bl rg qu ou sl fr L y), .int .i64 k] (grow (redrawn wr d) os) fun e w'' => e = .returned (.int .i64 (wI L bl k)) ∧ ∃ p : Regrown, w'' = grow (redrawn wr p.d) p.os :=
          fun d os => Calls.regrown_of (warm_any wk bl rg qu ou sl fr L y k _ h1 h2 h3 h4 (by omega))
        gi_wp2
        refine regionR_below (wideF _ _) mixed (by kernel_rfl) (by kernel_rfl) ?_
        repeat (go_big_quiet_step (exact cW _ _))
        refine wpQuiet_nil ?_
        rintro _ ⟨⟨dq, osq⟩, rfl⟩
        obtain ⟨W2, hW2⟩ : ∃ W2, grow (redrawn wr dq) osq = W2 := ⟨_, rfl⟩
        rw [hW2]
        have hb2 : Below wr.heap.size wr W2 := hW2 ▸ below_regrown wr dq osq
        clear hW2 k0 k1 k2 k3 k4 k5 k6 k7 k8 cW c0 c1 c2 c3 c4 c5 c6 c7 c8
        have hBr2 : W2.heap[Br]? = _ := (hb2.block Br (Array.getElem?_eq_some_iff.1 hBr1).1).trans hBr1
        obtain ⟨c0, c1, c2, c3, c4, c5, c6, c7, c8⟩ := cells W2 hBr2
        obtain ⟨fn, tmps, assign, body, hy, hRo⟩ := hY pre ⟨(L - 1 + bl, (K : Int) - (k : Int)), by simp; omega, by simp; omega, by simp; omega, by simp; omega⟩ W2 (abides_below hJ hj hb2) (by omega)
        dsimp only [blkEnc] at hy
        gi_wp2
        refine hRo.mono ?_
        clear c0 c1 c2 c3 c4 c5 c6 c7 c8
        rintro e W4 (⟨rfl, hJ4, hk4⟩ | ⟨rfl, hJx4⟩)
        · have hBr4 : W4.heap[Br]? = _ := hk4.trans hBr2
          obtain ⟨c0, c1, c2, c3, c4, c5, c6, c7, c8⟩ := cells _ hBr4
          by_cases hRp : 0 < R
          · gi_wp2_with fail
            refine (callsIn_wide.2 (warm_any wk bl rg qu ou sl fr L y K _ h1 h2 h3 h4 (by omega))).mono ?_
            rintro e W6 ⟨rfl, hb6⟩
            have hwK := wI_bd (L := L) (B := bl) h1 h3 K
            obtain ⟨fn2, tmps2, assign2, body2, hy2, hRo2⟩ := hY (pre ++ [⟨(L - 1 + bl, (K : Int) - (k : Int)), _⟩]) ⟨(wI L bl K + R, 1), by simp; omega, by simp; omega, by simp, by simp⟩ W6 (abides_below hJ hJ4 hb6) (by simp; omega)
            dsimp only [blkEnc] at hy2
            gi_wp2
            refine hRo2.mono ?_
            rintro e W7 (⟨rfl, hJ7, hk7⟩ | ⟨rfl, hJx7⟩)
            · gi_wp2
              go_end0
              exact ⟨⟨_, rfl⟩, .inl ⟨_, HS.out k hk (fun _ => by omega) _ (by rw [HT.out k]; simp [hpre, hRp, hlt, Int.ofNat_sub hk]), hJ7⟩⟩
            · gi_wp2
              go_end0
              exact ⟨⟨_, rfl⟩, .inr ⟨_, trivial, hJx7⟩⟩
          · gi_wp2
            go_end0
            exact ⟨⟨_, rfl⟩, .inl ⟨_, HS.out k hk (fun _ => by omega) _ (by rw [HT.out k, if_neg (by omega : ¬ 0 < R)]; simp [hpre, hlt, Int.ofNat_sub hk]), hJ4⟩⟩
        · gi_wp2
          refine bodyPost_ret (results_none rfl _ _ _) rfl ?_
          exact ⟨⟨_, rfl⟩, .inr ⟨_, trivial, hJx4⟩⟩
    · obtain rfl : k = K := by omega
      gi_wp2
      refine regionR_below (wideF _ _) mixed (by kernel_rfl) (by kernel_rfl) ?_
      repeat (go_big_quiet_step (fail))
      refine wpQuiet_nil ?_
      rintro _ ⟨⟨dq, osq⟩, rfl⟩
      obtain ⟨W2, hW2⟩ : ∃ W2, grow (redrawn wr dq) osq = W2 := ⟨_, rfl⟩
      rw [hW2]
      have hb2 : Below wr.heap.size wr W2 := hW2 ▸ below_regrown wr dq osq
      clear hW2 c0 c1 c2 c3 c4 c5 c6 c7 c8
      have hBr2 : W2.heap[Br]? = _ := (hb2.block Br (Array.getElem?_eq_some_iff.1 hBr1).1).trans hBr1
      have hj2 := abides_below hJ hj hb2
      obtain ⟨c0, c1, c2, c3, c4, c5, c6, c7, c8⟩ := cells _ hBr2
      by_cases hRp : 0 < R
      · gi_wp2_with fail
        refine (callsIn_wide.2 (warm_any wk bl rg qu ou sl fr L y k _ h1 h2 h3 h4 (by omega))).mono ?_
        rintro e W6 ⟨rfl, hb6⟩
        have hwK := wI_bd (L := L) (B := bl) h1 h3 k
        obtain ⟨fn2, tmps2, assign2, body2, hy2, hRo2⟩ := hY (pre) ⟨(wI L bl k + R, 1), by simp; omega, by simp; omega, by simp, by simp⟩ W6 (abides_below hJ hj2 hb6) (by omega)
        dsimp only [blkEnc] at hy2
        gi_wp2
        refine hRo2.mono ?_
        rintro e W7 (⟨rfl, hJ7, hk7⟩ | ⟨rfl, hJx7⟩)
        · gi_wp2
          go_end0
          exact ⟨⟨_, rfl⟩, .inl ⟨_, HS.out k hk (fun h => by omega) _ (by rw [HT.out k]; simp [hpre, hRp]), hJ7⟩⟩
        · gi_wp2
          go_end0
          exact ⟨⟨_, rfl⟩, .inr ⟨_, trivial, hJx7⟩⟩
      · gi_wp2
        go_end0
        exact ⟨⟨_, rfl⟩, .inl ⟨_, HS.out k hk (fun h => by omega) _ (by rw [HT.out k, if_neg (by omega : ¬ 0 < R)]; simp [hpre]), hj2⟩⟩

end Go.Proofs.Ytmpmjkbjnklgfaa
