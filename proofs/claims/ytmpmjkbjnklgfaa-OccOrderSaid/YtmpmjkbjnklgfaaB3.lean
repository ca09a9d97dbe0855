/- Slices of layer 28: for every configuration and every numbers. -/
import Derived.Test.YtmpmjkbjnklgfaaB2
namespace Go.Proofs.Ytmpmjkbjnklgfaa
open Go.RowKit Go.Sort
set_option linter.unusedVariables false
attribute [local go_sem] Oper.semAt_some
attribute [local simp] wide_fn wide_depth
attribute [local go_sem] wide_fn wide_depth

theorem blocks_stops (wk bl rg qu ou sl fr L y : Int) (n Br : Nat) (h1 : 1 ≤ L) (h2 : L ≤ 32) (h3 : 1 ≤ bl) (h4 : bl ≤ 256) (h5 : 0 ≤ y) (h6 : y ≤ 2147483647) (w : World)
    (hBr : w.heap[Br]? = some (.cells (reckV wk bl rg qu ou sl fr L y) 83 (0, 0))) :
    SeqStopsK Fence.wide n Try.prog 103 #[.pointer (some ⟨Br, 0, none⟩)] blkEnc (keepAt Br) (isBlocks L bl y) (fun _ => True) 34 w :=
  fun l J Jx W hW hJ hJx hY h0 => blocks_in wk bl rg qu ou sl fr L y n l Br h1 h2 h3 h4 h5 h6 J Jx W hJ hJx hY ((hW.block Br (Array.getElem?_eq_some_iff.1 hBr).1).trans hBr) h0

theorem blocks_any (wk bl rg qu ou sl fr L y : Int) (w : World) :
    Calls Try.prog 61 #[.agg (reckV wk bl rg qu ou sl fr L y)] w fun e w' => e = .returned (.func (.func 103) #[] #[.pointer (some ⟨w.heap.size, 0, none⟩)]) ∧ w' = w.alloc (.cells (reckV wk bl rg qu ou sl fr L y) 83) := by
  go_enter Try.func61, Try.ntmps61
  go_wp2
  go_ret
  exact ⟨rfl, rfl⟩

set_option maxHeartbeats 1000000 in
theorem slices_no (wk bl rg qu ou sl fr L y : Int) (w : World) (hr : rightB wk bl rg qu ou sl fr L y = false) :
    Calls Try.prog 15 #[.agg (confV wk bl rg qu ou sl fr), .int .i64 L, .int .i64 y] w fun e w' => e = .returned (.tuple #[.int .i64 0, .int .i64 2]) ∧ Below w.heap.size w w' := by
  go_enter Try.func15, Try.ntmps15
  go_wp2_with fail
  refine (rightR_any _ _ _ _ _ _ _ _ _ _).mono ?_
  rintro e w' ⟨rfl, hb⟩
  rw [hr]
  go_wp2
  go_ret2
  exact ⟨rfl, (((Below.refl _ _).alloc (Nat.le_refl _) _).alloc (by simp) _).trans (hb.mono (by simp; omega))⟩

theorem sumL_bd {S : Int} (hS : 1 ≤ S) (xs : List Blk) : 0 ≤ sumL S (xs.map (·.1)) ∧ sumL S (xs.map (·.1)) ≤ xs.length * 2147483647000 := by
  obtain ⟨n, hn⟩ : ∃ n, xs.length = n := ⟨_, rfl⟩
  induction n generalizing xs with
  | zero => obtain rfl := List.eq_nil_of_length_eq_zero hn; simp [sumL]
  | succ n ih' =>
    obtain ⟨l, x, rfl⟩ : ∃ l x, xs = l ++ [x] := ⟨xs.dropLast, xs.getLast (by intro h; simp [h] at hn), (List.dropLast_concat_getLast _).symm⟩
    have ih := ih' l (by simpa using hn)
    obtain ⟨⟨d, b⟩, hd0, hd1, hb0, hb1⟩ := x
    have hp := partsI_bd hS hd0
    dsimp only at *
    have m0 : 0 ≤ b * partsI S d := Int.mul_nonneg hb0 hp.1
    have m1 : b * partsI S d ≤ 2147483647 * 1000 := Int.mul_le_mul hb1 (by omega) hp.1 (by omega)
    rw [List.map_append, List.map_cons, List.map_nil, sumL_snoc]
    simp only [List.length_append, List.length_cons, List.length_nil]
    omega

set_option maxRecDepth 100000 in
set_option maxHeartbeats 4000000 in
theorem slices_yes (wk bl rg qu ou sl fr L y : Int) (w : World) (hr : rightB wk bl rg qu ou sl fr L y = true) :
    Calls Try.prog 15 #[.agg (confV wk bl rg qu ou sl fr), .int .i64 L, .int .i64 y] w fun e w' => e = .returned (.tuple #[.int .i64 (totalI L bl sl y), .int .i64 0]) ∧ Below w.heap.size w w' := by
  have hr0 := hr
  simp only [rightB, Bool.and_eq_true, confB_iff, btw, decide_eq_true_eq] at hr0
  obtain ⟨⟨⟨_, ⟨b1, b2⟩, _, _, _, ⟨s1, s2⟩, _⟩, l1, l2⟩, y1, y2⟩ := hr0
  refine calls_of_wp_M Try.func15 rfl ?_
  simp only [Try.ntmps15, List.size_toArray, List.length_cons, List.length_nil, Nat.reduceAdd, Nat.reduceSub, Array.replicate_succ, Array.replicate_zero, List.push_toArray, List.append_toArray, List.nil_append, List.cons_append]
  go_wp2_with fail
  refine (rightR_any _ _ _ _ _ _ _ _ _ _).mono ?_
  rintro e w1 ⟨rfl, hb⟩
  rw [hr]
  obtain ⟨hc, hf⟩ := bcell hb
  have hB1 : Below w.heap.size w w1 := (((Below.refl _ _).alloc (Nat.le_refl _) _).alloc (by simp) _).trans (hb.mono (by simp; omega))
  have hsz : w.heap.size + 1 < w1.heap.size := by have := hb.size; simp at this; omega
  have hR1 : w1.heap[w.heap.size + 1]? = some (.cells (reckV wk bl rg qu ou sl fr L y) 83 (0, 0)) := by
    refine (hb.block _ (by simp)).trans ?_
    have := World.alloc_heap_new (w.alloc (.cells (confV wk bl rg qu ou sl fr) 23)) (.cells (reckV wk bl rg qu ou sl fr L y) 83)
    rwa [World.size_alloc] at this
  go_wp2_with (go_at_call 61; refine (blocks_any _ _ _ _ _ _ _ _ _ _).mono ?_; rintro e w' ⟨rfl, rfl⟩)
  have hBr2 : ((w1.alloc (.cells #[.int .i64 0] 3)).alloc (.cells (reckV wk bl rg qu ou sl fr L y) 83)).heap[w1.heap.size + 1]? = some (.cells (reckV wk bl rg qu ou sl fr L y) 83 (0, 0)) := by
    have := World.alloc_heap_new (w1.alloc (.cells #[.int .i64 0] 3)) (.cells (reckV wk bl rg qu ou sl fr L y) 83)
    rwa [World.size_alloc] at this
  have bM := (Boxed.new w1 3 (.int .i64 0)).alloc (.cells (reckV wk bl rg qu ou sl fr L y) 83)
  have hB2 : Below w.heap.size w ((w1.alloc (.cells #[.int .i64 0] 3)).alloc (.cells (reckV wk bl rg qu ou sl fr L y) 83)) := (hB1.alloc (by omega) _).alloc (by simp; omega) _
  have hR2 : ((w1.alloc (.cells #[.int .i64 0] 3)).alloc (.cells (reckV wk bl rg qu ou sl fr L y) 83)).heap[w.heap.size + 1]? = some (.cells (reckV wk bl rg qu ou sl fr L y) 83 (0, 0)) := by
    rw [Below.heap_alloc _ _ _ (by simp; omega), Below.heap_alloc _ _ _ (by omega)]
    exact hR1
  apply rangeF rfl (enters_of Try.func103 (by kernel_rfl) rfl) (blocks_stops wk bl rg qu ou sl fr L y 8 (w1.heap.size + 1) l1 l2 b1 b2 y1 y2 _ hBr2) keepAt_t (keepAt_b (by simp)) (fun _ => rfl)
    (fun pre W => Boxed W w1.heap.size 3 (.int .i64 (sumL sl (pre.map (·.1)))) ∧ Below w.heap.size w W ∧ W.heap[w.heap.size + 1]? = some (.cells (reckV wk bl rg qu ou sl fr L y) 83 (0, 0)))
    (fun _ _ _ => False)
  case hI =>
    refine OwnFrom.and (Own.from (boxed_own _ _ _) _) (OwnFrom.and (ownFrom_below (Nat.le_refl _) (by simp; omega)) ?_)
    exact fun s A B row hs hg hrow => (hg.block _ (Array.getElem?_eq_some_iff.1 hs).1 (fun e => by have := (hrow _ e.symm).1; simp at this; omega)).trans hs
  case hIx => exact fun _ _ _ _ _ hs _ _ => hs
  case h0 => exact ⟨bM, hB2, hR2⟩
  case hassign =>
    intro l x W K hK
    unfold blkEnc
    gi_wp2
    exact hK
  case hbody =>
    rintro l pre ⟨⟨d, b⟩, hd0, hd1, hb0, hb1⟩ W ⟨hM, hB, hR⟩ hlen
    dsimp only at hd0 hd1 hb0 hb1 ⊢
    have hp := partsI_bd s1 hd0
    have hs := sumL_bd s1 pre
    have m0 : 0 ≤ b * partsI sl d := Int.mul_nonneg hb0 hp.1
    have m1 : b * partsI sl d ≤ 2147483647 * 1000 := Int.mul_le_mul hb1 (by omega) hp.1 (by omega)
    have hc := hM.cell
    have hf := hM.frozen
    have hcS : W.cell? ⟨w.heap.size + 1, 5, none⟩ = some (.int .i64 sl) := by simp [World.cell?, hR]
    gi_wp2
    refine regionR_drawn_tail (wideR _ _ _) 9 mixed (by kernel_rfl) (by kernel_rfl) ?_
    dsimp only [List.take_succ_cons, List.take_zero, List.drop_succ_cons, List.drop_zero]
    repeat (go_big_quiet_step (exact drawn_same (parts_any sl d _ s1 hd0 (by omega) (by omega))))
    refine wpQuiet_nil ?_
    rintro _ ⟨nq, rfl⟩
    gi_wp2
    have kO := (KeepsOthers.setCell W ⟨w1.heap.size, 0, none⟩ (.int .i64 (sumL sl (pre.map (·.1)) + b * partsI sl d))).from ((w1.alloc (.cells #[.int .i64 0] 3)).alloc (.cells (reckV wk bl rg qu ou sl fr L y) 83)).heap.size
    have kB := hB.setCell (p := ⟨w1.heap.size, 0, none⟩) (by show w.heap.size ≤ w1.heap.size; omega) (.int .i64 (sumL sl (pre.map (·.1)) + b * partsI sl d))
    refine ⟨⟨kO.size, kO.same⟩, ?_, ?_, ⟨kB.os, kB.tape, kB.output, kB.size, kB.block⟩, ?_⟩
    · exact Below.heap_setCell W ⟨w1.heap.size, 0, none⟩ _ _ (by simp)
    · rw [List.map_append, List.map_cons, List.map_nil, sumL_snoc]
      exact hM.set _
    · exact (Below.heap_setCell W ⟨w1.heap.size, 0, none⟩ _ _ (by simp; omega)).trans hR
  case hdone =>
    rintro D xs W hD hS ⟨hM, hB, hR⟩ hK
    have hc := hM.cell
    have hT : Hid (sumL sl (xs.map (·.1)) = totalI L bl sl y) := by
      obtain ⟨k0, hk, hcond, hx⟩ := hS
      rw [hx]
      exact sumL_all b1 hk hcond
    go_wp2
    refine endM rfl hK (results_tmp2 rfl _ _ _) ⟨?_, put_below hB (by simp at hD; omega) (Nat.le_refl _) _⟩
    rw [← hT.out]
    rfl
  case hstop => exact fun _ _ _ _ _ _ h _ => h.elim

end Go.Proofs.Ytmpmjkbjnklgfaa
