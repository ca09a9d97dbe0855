/- Law BoundTells of layer 28, walked. -/
import Derived.Test.YtmpmjkbjnklgfaaB8
namespace Go.Proofs.Ytmpmjkbjnklgfaa
open Go.RowKit Go.Sort
set_option linter.unusedVariables false

set_option maxRecDepth 100000 in
set_option maxHeartbeats 4000000 in
theorem boundTells_walk (wk bl rg qu ou sl fr L y r h size : Int) (a : Option Addr) (len cap : Nat) (zs : List Int) (w : World) (hs : -9223372036854775808 ≤ size ∧ size ≤ 9223372036854775807) (hS : Sl1 (Value.int .i64) w a len zs) :
    Calls Try.prog 3 #[.agg (confV wk bl rg qu ou sl fr), .int .i64 L, .int .i64 y, .int .i64 r, .int .i64 h, .int .i64 size, .slice a len cap] w fun e w' => e = .returned (.bool true) ∧ Below w.heap.size w w' := by
  have hB0 : Below w.heap.size w (w.alloc (.cells (confV wk bl rg qu ou sl fr) 23)) := (Below.refl _ _).alloc (Nat.le_refl _) _
  by_cases hA : 100000 < y ∧ y ≤ 2147483647
  · obtain ⟨hA1, hA2⟩ := hA
    go_enter Try.func3, Try.ntmps3
    go_wp2_with (go_at_call 14; refine (wakes28 _).mono ?_; rintro e w' ⟨rfl, hb⟩)
    go_ret
    exact ⟨rfl, hB0.trans (hb.mono hB0.size)⟩
  · by_cases hC : 60 < len
    · go_enter Try.func3, Try.ntmps3
      go_wp2_with (go_at_call 14; refine (wakes28 _).mono ?_; rintro e w' ⟨rfl, hb⟩)
      all_goals
        first
          | (exfalso; omega)
          | (go_ret
             exact ⟨rfl, hB0.trans (hb.mono hB0.size)⟩)
    · have hY : 100000 < y ∧ 2147483647 < y ∨ y ≤ 100000 := by omega
      have hlen60 : len ≤ 60 := by omega
      clear hA hC
      obtain ⟨hlen, hm⟩ := hS
      have HL := Lib.hid hlen
      clear hlen
      rcases hY with ⟨y1, y2⟩ | y1
      all_goals
        go_enter Try.func3, Try.ntmps3
        go_wp2
        go_loop [15] (fun i => ∃ k : Nat, k ≤ len ∧ i = .int .i64 k ∧ Hid (∀ n ∈ zs.take k, n ≤ 1099511627776)) (fun i => len - (intOf i).toNat)
        case atStart => exact ⟨0, Nat.zero_le _, rfl, by simp [Hid]⟩
        case round =>
          obtain ⟨k, hk, rfl, HK⟩ := hrel
          by_cases hlt : k < len
          · obtain ⟨z, hz⟩ : ∃ z, zs[k]? = some z := ⟨zs[k]'(by rw [HL.out]; exact hlt), by simp⟩
            obtain ⟨b, off, rfl, hblt, hc⟩ := hm.resolve_left (by omega)
            have hcell := hc k z hz
            have HT := Lib.hid (take_succ_of hz)
            clear hz hc hm
            by_cases hbig : 1099511627776 ≤ z
            · go_wp2_with (go_at_call 14; refine (wakes28 _).mono ?_; rintro e w' ⟨rfl, hb⟩)
              go_ret
              exact ⟨rfl, hB0.trans (hb.mono hB0.size)⟩
            · go_wp2
              go_round
              case rel =>
                refine ⟨k + 1, by omega, by go_num, ?_⟩
                intro n hn
                rw [HT.out] at hn
                rcases List.mem_append.1 hn with hn | hn
                · exact HK.out n hn
                · simp at hn; omega
              case measure => simp [intOf]; omega
          · obtain rfl : k = len := by omega
            have HK2 : Hid (∀ n ∈ zs, n ≤ 1099511627776) := by
              have := HK.out
              rwa [List.take_of_length_le (by rw [HL.out]; exact Nat.le_refl _)] at this
            clear HK
            have hC0 : (w.alloc (.cells (confV wk bl rg qu ou sl fr) 23)).heap[w.heap.size]? = some (.cells (confV wk bl rg qu ou sl fr) 23 (0, 0)) := World.alloc_heap_new _ _
            have HM := Lib.hid hm
            clear hm
            go_wp2_with fail
            refine (slices_any _ _ _ _ _ _ _ _ _ _).mono ?_
            rintro e w1 ⟨rfl, hb⟩
            have hB1 : Below w.heap.size w w1 := hB0.trans (hb.mono hB0.size)
            have hC1 := (hb.block w.heap.size (Array.getElem?_eq_some_iff.1 hC0).1).trans hC0
            clear hb hC0
            obtain ⟨c0, c1, c2, c3, c4, c5, c6⟩ := conf_cells hC1
            go_wp2_with fail
            clear c0 c1 c2 c3 c4 c5 c6
            refine (rslices_any _ _ _ _ _ _ _ _ _ _).mono ?_
            rintro e w2 ⟨rfl, hb⟩
            have hB2 : Below w.heap.size w w2 := hB1.trans (hb.mono hB1.size)
            have hC2 := (hb.block w.heap.size (Array.getElem?_eq_some_iff.1 hC1).1).trans hC1
            clear hb hB1 hC1
            obtain ⟨c0, c1, c2, c3, c4, c5, c6⟩ := conf_cells hC2
            go_wp2_with fail
            clear c0 c1 c2 c3 c4 c5 c6
            refine (steps_any _ _ _ _ _ _ _ _ _ _ _ _).mono ?_
            rintro e w3 ⟨rfl, hb⟩
            have hB3 : Below w.heap.size w w3 := hB2.trans (hb.mono hB2.size)
            have hC3 := (hb.block w.heap.size (Array.getElem?_eq_some_iff.1 hC2).1).trans hC2
            clear hb hB2 hC2
            obtain ⟨c0, c1, c2, c3, c4, c5, c6⟩ := conf_cells hC3
            go_wp2_with fail
            clear c0 c1 c2 c3 c4 c5 c6
            refine (rsteps_any _ _ _ _ _ _ _ _ _ _ _ _).mono ?_
            rintro e w4 ⟨rfl, hb⟩
            have hB4 : Below w.heap.size w w4 := hB3.trans (hb.mono hB3.size)
            have hC4 := (hb.block w.heap.size (Array.getElem?_eq_some_iff.1 hC3).1).trans hC3
            clear hb hB3 hC3
            obtain ⟨c0, c1, c2, c3, c4, c5, c6⟩ := conf_cells hC4
            go_wp2_with fail
            clear c0 c1 c2 c3 c4 c5 c6
            refine (after_any _ _ _ _ _ _ _ _).mono ?_
            rintro e w5 ⟨rfl, hb⟩
            have hB5 : Below w.heap.size w w5 := hB4.trans (hb.mono hB4.size)
            have hC5 := (hb.block w.heap.size (Array.getElem?_eq_some_iff.1 hC4).1).trans hC4
            clear hb hB4 hC4
            obtain ⟨c0, c1, c2, c3, c4, c5, c6⟩ := conf_cells hC5
            go_wp2_with fail
            clear c0 c1 c2 c3 c4 c5 c6
            refine (rafter_any _ _ _ _ _ _ _ _).mono ?_
            rintro e w6 ⟨rfl, hb⟩
            have hB6 : Below w.heap.size w w6 := hB5.trans (hb.mono hB5.size)
            have hC6 := (hb.block w.heap.size (Array.getElem?_eq_some_iff.1 hC5).1).trans hC5
            clear hb hB5 hC5
            obtain ⟨c0, c1, c2, c3, c4, c5, c6⟩ := conf_cells hC6
            go_wp2_with fail
            clear c0 c1 c2 c3 c4 c5 c6
            refine (room_any _ _ _ _ _ _ _ _ _).mono ?_
            rintro e w7 ⟨rfl, hb⟩
            have hB7 : Below w.heap.size w w7 := hB6.trans (hb.mono hB6.size)
            have hC7 := (hb.block w.heap.size (Array.getElem?_eq_some_iff.1 hC6).1).trans hC6
            clear hb hB6 hC6
            obtain ⟨c0, c1, c2, c3, c4, c5, c6⟩ := conf_cells hC7
            go_wp2_with fail
            clear c0 c1 c2 c3 c4 c5 c6
            refine (rroom_any _ _ _ _ _ _ _ _ _).mono ?_
            rintro e w8 ⟨rfl, hb⟩
            have hB8 : Below w.heap.size w w8 := hB7.trans (hb.mono hB7.size)
            have hC8 := (hb.block w.heap.size (Array.getElem?_eq_some_iff.1 hC7).1).trans hC7
            clear hb hB7 hC7
            obtain ⟨c0, c1, c2, c3, c4, c5, c6⟩ := conf_cells hC8
            go_wp2_with fail
            clear c0 c1 c2 c3 c4 c5 c6
            have hS8 : Sl1 (Value.int .i64) w8 a k zs := Sl1.below ⟨HL.out, HM.out⟩ hB8
            refine (blocksN_any _ _ _ _ zs _ hs (by omega) HK2.out hS8).mono ?_
            rintro e w9 ⟨rfl, rfl⟩
            go_wp2_with fail
            refine (rblocks_any _ _ _ _ zs _ hs (by omega) HK2.out hS8).mono ?_
            rintro e w9 ⟨rfl, rfl⟩
            go_wp2_with fail
            refine (wakes28 _).mono ?_
            rintro e w9 ⟨rfl, hb⟩
            go_wp2
            go_ret
            exact ⟨rfl, hB8.trans (hb.mono hB8.size)⟩

end Go.Proofs.Ytmpmjkbjnklgfaa
