/- The document's functions of layer 28, the rest; and what the document says of six bytes in blocks of three. -/
import Derived.Test.YtmpmjkbjnklgfaaB7
namespace Go.Proofs.Ytmpmjkbjnklgfaa
open Go.RowKit Go.Sort
set_option linter.unusedVariables false

theorem rafter_any (wk bl rg qu ou sl fr : Int) (w : World) :
    Calls Try.prog 20 #[.agg (confV wk bl rg qu ou sl fr)] w fun e w' => e = .returned (.tuple #[.int .i64 (aftN wk bl rg qu ou sl fr), .int .i64 (aftE wk bl rg qu ou sl fr)]) ∧ Below w.heap.size w w' := by
  go_enter Try.func20, Try.ntmps20
  go_wp2_with fail
  refine (right27_any _ _ _ _ _ _ _ _).mono ?_
  rintro e w' ⟨rfl, hb⟩
  obtain ⟨hc, hf⟩ := bcell hb
  have hB : Below w.heap.size w w' := ((Below.refl _ _).alloc (Nat.le_refl _) _).trans (hb.mono (by simp))
  by_cases h : confB wk bl rg qu ou sl fr = true
  · have h' := confB_iff.1 h
    obtain ⟨⟨_, _⟩, _, _, ⟨_, _⟩, _⟩ := h'
    rw [h]
    go_wp2
    go_ret2
    exact ⟨by simp [aftN, aftE, h], hB⟩
  · have h2 : confB wk bl rg qu ou sl fr = false := by simpa using h
    rw [h2]
    go_wp2
    go_ret2
    exact ⟨by simp [aftN, aftE, h2], hB⟩

theorem rroom_any (wk bl rg qu ou sl fr L : Int) (w : World) :
    Calls Try.prog 22 #[.agg (confV wk bl rg qu ou sl fr), .int .i64 L] w fun e w' => e = .returned (.tuple #[.int .i64 (rooN wk bl rg qu ou sl fr L), .int .i64 (rooE wk bl rg qu ou sl fr L)]) ∧ Below w.heap.size w w' := by
  have hrB : rightB wk bl rg qu ou sl fr L 0 = rooB wk bl rg qu ou sl fr L := by simp [rightB, rooB, btw]
  go_enter Try.func22, Try.ntmps22
  go_wp2_with fail
  refine (may28_any _ _ _ _ _ _ _ _ _ _).mono ?_
  rintro e w' ⟨rfl, hb⟩
  obtain ⟨hc, hf⟩ := bcell hb
  have hB : Below w.heap.size w w' := ((Below.refl _ _).alloc (Nat.le_refl _) _).trans (hb.mono (by simp))
  by_cases h : rooB wk bl rg qu ou sl fr L = true
  · have hL := h
    simp only [rooB, btw, Bool.and_eq_true, decide_eq_true_eq, confB_iff] at hL
    obtain ⟨⟨⟨_, _⟩, ⟨_, _⟩, ⟨_, _⟩, ⟨_, _⟩, _⟩, _, _⟩ := hL
    have m0 : 0 ≤ rg * (bl + L - 1) := Int.mul_nonneg (by omega) (by omega)
    have m1 : rg * (bl + L - 1) ≤ 16 * 287 := Int.mul_le_mul (by omega) (by omega) (by omega) (by omega)
    rw [hrB, h]
    clear hrB
    go_wp2
    go_ret2
    exact ⟨by simp [rooN, rooE, h], hB⟩
  · have h2 : rooB wk bl rg qu ou sl fr L = false := by simpa using h
    rw [hrB, h2]
    clear hrB
    go_wp2
    go_ret2
    exact ⟨by simp [rooN, rooE, h2], hB⟩

set_option maxHeartbeats 4000000 in
theorem rsteps_any (wk bl rg qu ou sl fr L y r h : Int) (w : World) :
    Calls Try.prog 18 #[.agg (confV wk bl rg qu ou sl fr), .int .i64 L, .int .i64 y, .int .i64 r, .int .i64 h] w fun e w' => e = .returned (.tuple #[.int .i64 (steN wk bl rg qu ou sl fr L y r h), .int .i64 (steE wk bl rg qu ou sl fr L y r h)]) ∧ Below w.heap.size w w' := by
  go_enter Try.func18, Try.ntmps18
  go_wp2_with fail
  refine (rslices_any _ _ _ _ _ _ _ _ _ _).mono ?_
  rintro e w1 ⟨rfl, hb⟩
  obtain ⟨hc, hf⟩ := bcell hb
  have hsz : w.heap.size < w1.heap.size := by have := hb.size; simp at this; omega
  have hB : Below w.heap.size w w1 := ((Below.refl _ _).alloc (Nat.le_refl _) _).trans (hb.mono (by simp))
  by_cases hr : rightB wk bl rg qu ou sl fr L y = true
  · have hE : sliE wk bl rg qu ou sl fr L y = 0 := by rw [sliE, if_pos hr]
    have hN : sliN wk bl rg qu ou sl fr L y = totalI L bl sl y := by rw [sliN, if_pos hr]
    rw [hE, hN]
    clear hE hN
    by_cases hok : steB wk bl rg qu ou sl fr L y r h = true
    · have hr0 := hok
      simp only [steB, rightB, Bool.and_eq_true, confB_iff, btw, decide_eq_true_eq] at hr0
      obtain ⟨⟨⟨⟨⟨⟨_, _⟩, ⟨b1, b2⟩, _, _, _, ⟨s1, s2⟩, _⟩, l1, l2⟩, y1, y2⟩, r1, r2⟩, h1, h2⟩ := hr0
      have ht := totalI_bd (S := sl) l1 l2 b1 b2 s1 y1
      have ho := overI_bd (n := y) (size := bl)
      have HF : Hid (steN wk bl rg qu ou sl fr L y r h = 6 * overI y bl + r + wk + totalI L bl sl y + 2 * h + 5 ∧ steE wk bl rg qu ou sl fr L y r h = 0) := by
        simp [steN, steE, hok, Hid]
      have hc0 : w1.cell? ⟨w.heap.size, 0, none⟩ = some (.int .i64 wk) := by rw [hc _ _ (by simp)]; simp
      have hc1 : w1.cell? ⟨w.heap.size, 1, none⟩ = some (.int .i64 bl) := by rw [hc _ _ (by simp)]; simp
      clear hc hf
      go_wp2
      go_quiet ((go_at_call 64; exact drawn_same (over_any _ _ _ (by omega) (by omega))))
      go_wp2
      go_ret2
      exact ⟨by rw [HF.out.1, HF.out.2]; rfl, hB.trans ⟨rfl, rfl, rfl, Nat.le_refl _, fun _ _ => rfl⟩⟩
    · have hok2 : steB wk bl rg qu ou sl fr L y r h = false := by simpa using hok
      have HF : Hid (steN wk bl rg qu ou sl fr L y r h = 0 ∧ steE wk bl rg qu ou sl fr L y r h = 2) := by
        simp [steN, steE, hok2, Hid]
      have hor : ¬ (0 ≤ r ∧ r ≤ 2147483647 ∧ 0 ≤ h ∧ h ≤ 2147483647) := by
        intro hh
        apply hok
        simp [steB, btw, hr, hh]
      have hl : h ≤ 2147483647 ∨ ¬ h ≤ 2147483647 := Decidable.em _
      rcases hl with hl | hl
      all_goals
        go_wp2
        all_goals
          first
            | (go_ret2
               exact ⟨by rw [HF.out.1, HF.out.2]; rfl, hB⟩)
            | (exfalso; omega)
  · have hr2 : rightB wk bl rg qu ou sl fr L y = false := by simpa using hr
    have hE : sliE wk bl rg qu ou sl fr L y = 2 := by rw [sliE, if_neg hr]
    rw [hE]
    clear hE
    go_wp2
    go_ret2
    exact ⟨by simp [steN, steE, steB, hr2], hB⟩

set_option maxHeartbeats 1000000 in
theorem rblocks_any (size : Int) (a : Option Addr) (len cap : Nat) (zs : List Int) (w : World) (hs : -9223372036854775808 ≤ size ∧ size ≤ 9223372036854775807) (hl : len ≤ 60) (hz : ∀ n ∈ zs, n ≤ 1099511627776) (h : Sl1 (Value.int .i64) w a len zs) :
    Calls Try.prog 24 #[.int .i64 size, .slice a len cap] w fun e w' => e = .returned (.int .i64 (blkS size zs)) ∧ w = w' := by
  obtain ⟨hs1, hs2⟩ := hs
  obtain ⟨hlen, hm⟩ := h
  have HZ := Lib.hid hz
  have HL := Lib.hid hlen
  clear hz hlen
  go_enter Try.func24, Try.ntmps24
  go_wp2
  go_loop [5, 6] (fun s i => ∃ k : Nat, k ≤ len ∧ i = .int .i64 k ∧ s = .int .i64 (blkS size (zs.take k))) (fun _ i => len - (intOf i).toNat)
  case atStart => exact ⟨0, Nat.zero_le _, rfl, rfl⟩
  case round =>
    obtain ⟨k, hk, rfl, rfl⟩ := hrel
    by_cases hlt : k < len
    · obtain ⟨z, hz⟩ : ∃ z, zs[k]? = some z := ⟨zs[k]'(by rw [HL.out]; exact hlt), by simp⟩
      have hzm := HZ.out z (List.mem_of_getElem? hz)
      obtain ⟨b, off, rfl, _, hc⟩ := hm.resolve_left (by omega)
      have hcell := hc k z hz
      have htk := take_succ_of hz
      have hbd := blkS_bd size (M := 1099511627776) (by omega) (zs.take k) (fun n hn => HZ.out n (List.mem_of_mem_take hn))
      have hbl : ((zs.take k).length : Int) ≤ 60 := by have := List.length_take_le k zs; omega
      have hbd2 : ((zs.take k).length : Int) * 1099511627776 ≤ 60 * 1099511627776 := Int.mul_le_mul_of_nonneg_right hbl (by omega)
      have hov := overI_bd (n := z) (size := size)
      have HS : Hid (blkS size (zs.take (k + 1)) = blkS size (zs.take k) + overI z size) := by rw [htk, blkS_snoc]; rfl
      clear htk hz hc hm
      go_wp2_with (go_at_call 64; refine (over_any _ _ _ (by omega) (by omega)).mono ?_; rintro e w' ⟨rfl, rfl⟩)
      go_round
      case rel => exact ⟨k + 1, by omega, by go_num, by rw [HS.out]⟩
      case measure => simp [intOf]; omega
    · obtain rfl : k = len := by omega
      go_wp2
      go_ret
      exact ⟨ret_int (by rw [List.take_of_length_le (by rw [HL.out]; exact Nat.le_refl _)]), rfl⟩

theorem conf_cells {W : World} {b : Nat} {t : TypeId} {wk bl rg qu ou sl fr : Int} (h : W.heap[b]? = some (.cells (confV wk bl rg qu ou sl fr) t (0, 0))) :
    W.cell? ⟨b, 0, none⟩ = some (.int .i64 wk) ∧ W.cell? ⟨b, 1, none⟩ = some (.int .i64 bl) ∧ W.cell? ⟨b, 2, none⟩ = some (.int .i64 rg) ∧ W.cell? ⟨b, 3, none⟩ = some (.int .i64 qu) ∧ W.cell? ⟨b, 4, none⟩ = some (.int .i64 ou) ∧ W.cell? ⟨b, 5, none⟩ = some (.int .i64 sl) ∧ W.cell? ⟨b, 6, none⟩ = some (.int .i64 fr) := by
  simp [World.cell?, h]

theorem great_total : totalI 3 3 2 2147483647 = 2147483647 := by
  have h := sumN_full (L := 3) (B := 3) (S := 2) (by omega) (k0 := 1) (by decide) 715827881
  unfold totalI
  rw [show ((2147483647 : Int) / 3).toNat = 1 + 715827881 from by decide, h]
  rw [if_pos (by decide), show sumN 3 3 2 1 = 2 from by decide, show partsI 2 (3 - 1 + 3) = 3 from by decide]
  have hw := wI_mono (L := 3) (B := 3) (by omega) (i := 1) (j := 1 + 715827881) (by omega) (by decide)
  rw [hw]
  decide

theorem Sl1.lits (w : World) (zs : List Int) (t : TypeId) : Sl1 (Value.int .i64) (w.alloc (.cells (zs.map (Value.int .i64)).toArray t)) (some ⟨w.heap.size, 0, none⟩) zs.length zs := by
  refine ⟨rfl, .inr ⟨w.heap.size, 0, rfl, by simp, fun i x hx => ?_⟩⟩
  have := World.alloc_heap_new w (.cells (zs.map (Value.int .i64)).toArray t)
  unfold World.cell?
  dsimp only
  rw [this]
  simp [hx]

theorem blk4 (w : World) : Calls Try.prog 23 #[.int .i64 3, .slice (some ⟨w.heap.size, 0, none⟩) 4 4] (w.alloc (.cells #[.int .i64 6, .int .i64 7, .int .i64 0, .int .i64 (-1)] 3)) fun e w' => e = .returned (.int .i64 5) ∧ w.alloc (.cells #[.int .i64 6, .int .i64 7, .int .i64 0, .int .i64 (-1)] 3) = w' := by
  have h := blocksN_any 3 (some ⟨w.heap.size, 0, none⟩) 4 4 [6, 7, 0, -1] (w.alloc (.cells #[.int .i64 6, .int .i64 7, .int .i64 0, .int .i64 (-1)] 3)) (by omega) (by omega) (by simp) (Sl1.lits w [6, 7, 0, -1] 3)
  rwa [show blkS 3 [6, 7, 0, -1] = 5 from by decide] at h
theorem blk1 (W : World) (b : Nat) (hc : W.cell? ⟨b, 0, none⟩ = some (.int .i64 6)) (hb : b < W.heap.size) : Calls Try.prog 23 #[.int .i64 0, .slice (some ⟨b, 0, none⟩) 1 1] W fun e w' => e = .returned (.int .i64 0) ∧ W = w' := by
  have h := blocksN_any 0 (some ⟨b, 0, none⟩) 1 1 [6] W (by omega) (by omega) (by simp) (Sl1.one hc hb)
  rwa [show blkS 0 [6] = 0 from by decide] at h

set_option maxRecDepth 100000 in
set_option maxHeartbeats 4000000 in
theorem wakes28 (w : World) : Calls Try.prog 14 #[] w fun e w' => e = .returned (.bool true) ∧ Below w.heap.size w w' := by
  go_enter Try.func14, Try.ntmps14
  go_wp2_with fail
  have hB0 : Below w.heap.size w (w.alloc (.cells (confV 2 3 2 1 1 2 0) 23)) := (Below.refl _ _).alloc (Nat.le_refl _) _
  have hC0 : (w.alloc (.cells (confV 2 3 2 1 1 2 0) 23)).heap[w.heap.size]? = some (.cells (confV 2 3 2 1 1 2 0) 23 (0, 0)) := World.alloc_heap_new _ _
  refine (slices_any 2 3 2 1 1 2 0 3 6 _).mono ?_
  rintro e w1 ⟨rfl, hb⟩
  rw [(show sliN 2 3 2 1 1 2 0 3 6 = 5 from by decide), (show sliE 2 3 2 1 1 2 0 3 6 = 0 from by decide)]
  have hB1 : Below w.heap.size w w1 := hB0.trans (hb.mono hB0.size)
  have hC1 := (hb.block w.heap.size (Array.getElem?_eq_some_iff.1 hC0).1).trans hC0
  clear hb hB0 hC0
  obtain ⟨c0, c1, c2, c3, c4, c5, c6⟩ := conf_cells hC1
  go_wp2_with fail
  clear c0 c1 c2 c3 c4 c5 c6
  refine (steps_any 2 3 2 1 1 2 0 3 6 2 3 _).mono ?_
  rintro e w2 ⟨rfl, hb⟩
  rw [(show steN 2 3 2 1 1 2 0 3 6 2 3 = 32 from by decide), (show steE 2 3 2 1 1 2 0 3 6 2 3 = 0 from by decide)]
  have hB2 : Below w.heap.size w w2 := hB1.trans (hb.mono hB1.size)
  have hC2 := (hb.block w.heap.size (Array.getElem?_eq_some_iff.1 hC1).1).trans hC1
  clear hb hB1 hC1
  obtain ⟨c0, c1, c2, c3, c4, c5, c6⟩ := conf_cells hC2
  go_wp2_with fail
  clear c0 c1 c2 c3 c4 c5 c6
  refine (after_any 2 3 2 1 1 2 0 _).mono ?_
  rintro e w3 ⟨rfl, hb⟩
  rw [(show aftN 2 3 2 1 1 2 0 = 9 from by decide), (show aftE 2 3 2 1 1 2 0 = 0 from by decide)]
  have hB3 : Below w.heap.size w w3 := hB2.trans (hb.mono hB2.size)
  have hC3 := (hb.block w.heap.size (Array.getElem?_eq_some_iff.1 hC2).1).trans hC2
  clear hb hB2 hC2
  obtain ⟨c0, c1, c2, c3, c4, c5, c6⟩ := conf_cells hC3
  go_wp2_with fail
  clear c0 c1 c2 c3 c4 c5 c6
  refine (room_any 2 3 2 1 1 2 0 3 _).mono ?_
  rintro e w4 ⟨rfl, hb⟩
  rw [(show rooN 2 3 2 1 1 2 0 3 = 10 from by decide), (show rooE 2 3 2 1 1 2 0 3 = 0 from by decide)]
  have hB4 : Below w.heap.size w w4 := hB3.trans (hb.mono hB3.size)
  have hC4 := (hb.block w.heap.size (Array.getElem?_eq_some_iff.1 hC3).1).trans hC3
  clear hb hB3 hC3
  obtain ⟨c0, c1, c2, c3, c4, c5, c6⟩ := conf_cells hC4
  go_wp2_with fail
  clear c0 c1 c2 c3 c4 c5 c6
  refine (steps_any 2 3 2 1 1 2 0 0 6 2 3 _).mono ?_
  rintro e w5 ⟨rfl, hb⟩
  rw [(show steN 2 3 2 1 1 2 0 0 6 2 3 = 0 from by decide), (show steE 2 3 2 1 1 2 0 0 6 2 3 = 2 from by decide)]
  have hB5 : Below w.heap.size w w5 := hB4.trans (hb.mono hB4.size)
  have hC5 := (hb.block w.heap.size (Array.getElem?_eq_some_iff.1 hC4).1).trans hC4
  clear hb hB4 hC4
  obtain ⟨c0, c1, c2, c3, c4, c5, c6⟩ := conf_cells hC5
  go_wp2_with fail
  clear c0 c1 c2 c3 c4 c5 c6
  refine (after_any 0 0 0 0 0 0 0 _).mono ?_
  rintro e w6 ⟨rfl, hb⟩
  rw [(show aftN 0 0 0 0 0 0 0 = 0 from by decide), (show aftE 0 0 0 0 0 0 0 = 2 from by decide)]
  have hB6 : Below w.heap.size w w6 := hB5.trans (hb.mono hB5.size)
  have hC6 := (hb.block w.heap.size (Array.getElem?_eq_some_iff.1 hC5).1).trans hC5
  clear hb hB5 hC5
  obtain ⟨c0, c1, c2, c3, c4, c5, c6⟩ := conf_cells hC6
  go_wp2_with fail
  clear c0 c1 c2 c3 c4 c5 c6
  refine (slices_any 2 3 2 1 1 2 0 3 2147483647 _).mono ?_
  rintro e w7 ⟨rfl, hb⟩
  rw [(show sliN 2 3 2 1 1 2 0 3 2147483647 = 2147483647 from by rw [sliN, if_pos (by decide), great_total]), (show sliE 2 3 2 1 1 2 0 3 2147483647 = 0 from by decide)]
  have hB7 : Below w.heap.size w w7 := hB6.trans (hb.mono hB6.size)
  have hC7 := (hb.block w.heap.size (Array.getElem?_eq_some_iff.1 hC6).1).trans hC6
  clear hb hB6 hC6
  obtain ⟨c0, c1, c2, c3, c4, c5, c6⟩ := conf_cells hC7
  go_wp2_with fail
  clear c0 c1 c2 c3 c4 c5 c6
  refine (blk4 w7).mono ?_
  rintro e w8 ⟨rfl, rfl⟩
  go_wp2_with fail
  refine (blk1 _ _ ?_ ?_).mono ?_
  · simp
  · simp
  rintro e w8 ⟨rfl, rfl⟩
  go_wp2
  go_ret
  exact ⟨rfl, (hB7.alloc hB7.size _).alloc (by simp; have := hB7.size; omega) _⟩

end Go.Proofs.Ytmpmjkbjnklgfaa
