/- Steps of layer 28, and the document's functions. -/
import Derived.Test.YtmpmjkbjnklgfaaB4
import Derived.Deep.RegionHeld3
namespace Go.Proofs.Ytmpmjkbjnklgfaa
open Go.RowKit Go.Sort
set_option linter.unusedVariables false

theorem slices_any (wk bl rg qu ou sl fr L y : Int) (w : World) :
    Calls Try.prog 15 #[.agg (confV wk bl rg qu ou sl fr), .int .i64 L, .int .i64 y] w fun e w' => e = .returned (.tuple #[.int .i64 (sliN wk bl rg qu ou sl fr L y), .int .i64 (sliE wk bl rg qu ou sl fr L y)]) ∧ Below w.heap.size w w' := by
  by_cases h : rightB wk bl rg qu ou sl fr L y = true
  · rw [sliN, sliE, if_pos h, if_pos h]
    exact slices_yes _ _ _ _ _ _ _ _ _ _ h
  · rw [sliN, sliE, if_neg h, if_neg h]
    exact slices_no _ _ _ _ _ _ _ _ _ _ (by simpa using h)

theorem Sl1.one {W : World} {n : Int} {b : Nat} (hc : W.cell? ⟨b, 0, none⟩ = some (.int .i64 n)) (hb : b < W.heap.size) : Sl1 (Value.int .i64) W (some ⟨b, 0, none⟩) 1 [n] := by
  refine ⟨rfl, .inr ⟨b, 0, rfl, hb, fun i x hx => ?_⟩⟩
  cases i with
  | zero => simp at hx; subst hx; exact hc
  | succ i => simp at hx

set_option maxHeartbeats 4000000 in
theorem steps_any (wk bl rg qu ou sl fr L y r h : Int) (w : World) :
    Calls Try.prog 17 #[.agg (confV wk bl rg qu ou sl fr), .int .i64 L, .int .i64 y, .int .i64 r, .int .i64 h] w fun e w' => e = .returned (.tuple #[.int .i64 (steN wk bl rg qu ou sl fr L y r h), .int .i64 (steE wk bl rg qu ou sl fr L y r h)]) ∧ Below w.heap.size w w' := by
  go_enter Try.func17, Try.ntmps17
  go_wp2_with fail
  refine (slices_any _ _ _ _ _ _ _ _ _ _).mono ?_
  rintro e w1 ⟨rfl, hb⟩
  obtain ⟨hc, hf⟩ := bcell hb
  have hsz : w.heap.size < w1.heap.size := by have := hb.size; simp at this; omega
  have hB : Below w.heap.size w w1 := ((Below.refl _ _).alloc (Nat.le_refl _) _).trans (hb.mono (by simp))
  by_cases hr : rightB wk bl rg qu ou sl fr L y = true
  · have hE : sliE wk bl rg qu ou sl fr L y = 0 := by rw [sliE, if_pos hr]
    have hN : sliN wk bl rg qu ou sl fr L y = totalI L bl sl y := by rw [sliN, if_pos hr]
    rw [hE, hN]
    clear hE hN
    by_cases hrr : btw r 0 2147483647 = true
    · by_cases hh : btw h 0 2147483647 = true
      · have hr0 := hr
        simp only [rightB, Bool.and_eq_true, confB_iff, btw, decide_eq_true_eq] at hr0
        obtain ⟨⟨⟨⟨_, _⟩, ⟨b1, b2⟩, _, _, _, ⟨s1, s2⟩, _⟩, l1, l2⟩, y1, y2⟩ := hr0
        have hrb := hrr
        simp only [btw, Bool.and_eq_true, decide_eq_true_eq] at hrb
        obtain ⟨r1, r2⟩ := hrb
        have hhb := hh
        simp only [btw, Bool.and_eq_true, decide_eq_true_eq] at hhb
        obtain ⟨h1, h2⟩ := hhb
        have ht := totalI_bd (S := sl) l1 l2 b1 b2 s1 y1
        have ho := overI_bd (n := y) (size := bl)
        have HF : Hid (steN wk bl rg qu ou sl fr L y r h = 6 * overI y bl + r + wk + totalI L bl sl y + 2 * h + 5 ∧ steE wk bl rg qu ou sl fr L y r h = 0) := by
          simp [steN, steE, steB, hr, hrr, hh, Hid]
        have hb1 : blkS bl [y] = overI y bl := by simp [blkS]
        have cB : ∀ (W : World) (b : Nat), W.cell? ⟨b, 0, none⟩ = some (.int .i64 y) → b < W.heap.size → Calls Try.prog 23 #[.int .i64 bl, .slice (some ⟨b, 0, none⟩) 1 1] W fun e w' => e = .returned (.int .i64 (overI y bl)) ∧ W = w' := by
          intro W b hc hb
          rw [← hb1]
          exact blocksN_any _ _ _ _ _ _ (by omega) (by omega) (by simp; omega) (Sl1.one hc hb)
        clear hb1
        obtain ⟨O, hO⟩ : ∃ O, overI y bl = O := ⟨_, rfl⟩
        obtain ⟨T, hT⟩ : ∃ T, totalI L bl sl y = T := ⟨_, rfl⟩
        rw [hT] at ht HF ⊢
        rw [hO] at ho HF cB
        clear hT hO
        go_wp2_with (go_at_call 65; refine (counted_any _ _).mono ?_; rintro e w' ⟨rfl, rfl⟩; first | rw [hrr] | rw [hh])
        have e1 : IntKind.i64.wrap (6 * O) = 6 * O := IntWalk.i64_in _ (by omega)
        have e2 : IntKind.i64.wrap (6 * O + r) = 6 * O + r := IntWalk.i64_in _ (by omega)
        have e3 : IntKind.i64.wrap (6 * O + r + wk) = 6 * O + r + wk := IntWalk.i64_in _ (by omega)
        have e4 : IntKind.i64.wrap (6 * O + r + wk + T) = 6 * O + r + wk + T := IntWalk.i64_in _ (by omega)
        have e5 : IntKind.i64.wrap (2 * h) = 2 * h := IntWalk.i64_in _ (by omega)
        have e6 : IntKind.i64.wrap (6 * O + r + wk + T + 2 * h) = 6 * O + r + wk + T + 2 * h := IntWalk.i64_in _ (by omega)
        have e7 : IntKind.i64.wrap (6 * O + r + wk + T + 2 * h + 5) = 6 * O + r + wk + T + 2 * h + 5 := IntWalk.i64_in _ (by omega)
        go_region_held3 (fun w' => w'.cell? ⟨w.heap.size, 0, none⟩ = some (.int .i64 wk) ∧ w'.cell? ⟨w.heap.size, 1, none⟩ = some (.int .i64 bl)) (go_keep)
          (first | (go_at_call 23; refine (cB _ _ ?_ ?_).mono ?_; (simp); (simp); rintro e w' ⟨rfl, rfl⟩))
        clear e1 e2 e3 e4 e5 e6 e7
        go_wp2
        go_ret2
        exact ⟨by rw [HF.out.1, HF.out.2]; rfl, (hB.alloc (by omega) _).drew⟩
      · have hh2 : btw h 0 2147483647 = false := by simpa using hh
        go_wp2_with (go_at_call 65; refine (counted_any _ _).mono ?_; rintro e w' ⟨rfl, rfl⟩; first | rw [hrr] | rw [hh2])
        go_ret2
        exact ⟨by simp [steN, steE, steB, hr, hrr, hh2], hB⟩
    · have hrr2 : btw r 0 2147483647 = false := by simpa using hrr
      go_wp2_with (go_at_call 65; refine (counted_any _ _).mono ?_; rintro e w' ⟨rfl, rfl⟩; rw [hrr2])
      go_ret2
      exact ⟨by simp [steN, steE, steB, hr, hrr2], hB⟩
  · have hr2 : rightB wk bl rg qu ou sl fr L y = false := by simpa using hr
    have hE : sliE wk bl rg qu ou sl fr L y = 2 := by rw [sliE, if_neg hr]
    rw [hE]
    clear hE
    go_wp2
    go_ret2
    exact ⟨by simp [steN, steE, steB, hr2], hB⟩

end Go.Proofs.Ytmpmjkbjnklgfaa
