/- Steps, After, Room, Blocks of layer 28. -/
import Derived.Test.YtmpmjkbjnklgfaaB3
import Derived.Test.YtmpmjkbjnklgfaaBn
import Derived.StillTailTactics
import Derived.Lib.Hide
namespace Go.Proofs.Ytmpmjkbjnklgfaa
open Go.RowKit Go.Sort
set_option linter.unusedVariables false

/-- A slice whose elements fill a cell each. -/
def Sl1 {α : Type} (enc : α → Value) (w : World) (a : Option Addr) (len : Nat) (xs : List α) : Prop :=
  xs.length = len ∧ (len = 0 ∨ ∃ b off, a = some ⟨b, off, none⟩ ∧ b < w.heap.size ∧ ∀ i x, xs[i]? = some x → w.cell? ⟨b, off + i, none⟩ = some (enc x))
theorem Sl1.below {α : Type} {enc : α → Value} {w w' : World} {a : Option Addr} {len : Nat} {xs : List α} (h : Sl1 enc w a len xs) (hb : Below w.heap.size w w') : Sl1 enc w' a len xs := by
  obtain ⟨h1, h2 | ⟨b, off, e, hlt, hc⟩⟩ := h
  · exact ⟨h1, .inl h2⟩
  · exact ⟨h1, .inr ⟨b, off, e, Nat.lt_of_lt_of_le hlt hb.size, fun i x hx => (hb.cell (p := ⟨b, off + i, none⟩) hlt).trans (hc i x hx)⟩⟩

theorem after_any (wk bl rg qu ou sl fr : Int) (w : World) :
    Calls Try.prog 19 #[.agg (confV wk bl rg qu ou sl fr)] w fun e w' => e = .returned (.tuple #[.int .i64 (aftN wk bl rg qu ou sl fr), .int .i64 (aftE wk bl rg qu ou sl fr)]) ∧ Below w.heap.size w w' := by
  go_enter Try.func19, Try.ntmps19
  go_wp2_with fail
  refine (right_any _ _ _ _ _ _ _ _).mono ?_
  rintro e w' ⟨rfl, hb⟩
  obtain ⟨hc, hf⟩ := bcell hb
  have hB : Below w.heap.size w w' := ((Below.refl _ _).alloc (Nat.le_refl _) _).trans (hb.mono (by simp))
  by_cases h : confB wk bl rg qu ou sl fr = true
  · have h' := confB_iff.1 h
    obtain ⟨⟨_, _⟩, _, _, ⟨_, _⟩, _⟩ := h'
    rw [h]
    go_wp2
    go_ret2
    exact ⟨by simp [aftN, aftE, h], hB⟩
  · have h2 : confB wk bl rg qu ou sl fr = false := by simpa using h
    rw [h2]
    go_wp2
    go_ret2
    exact ⟨by simp [aftN, aftE, h2], hB⟩

theorem room_any (wk bl rg qu ou sl fr L : Int) (w : World) :
    Calls Try.prog 21 #[.agg (confV wk bl rg qu ou sl fr), .int .i64 L] w fun e w' => e = .returned (.tuple #[.int .i64 (rooN wk bl rg qu ou sl fr L), .int .i64 (rooE wk bl rg qu ou sl fr L)]) ∧ Below w.heap.size w w' := by
  go_enter Try.func21, Try.ntmps21
  go_wp2_with fail
  refine (right_any _ _ _ _ _ _ _ _).mono ?_
  rintro e w' ⟨rfl, hb⟩
  obtain ⟨hc, hf⟩ := bcell hb
  have hB : Below w.heap.size w w' := ((Below.refl _ _).alloc (Nat.le_refl _) _).trans (hb.mono (by simp))
  by_cases h : confB wk bl rg qu ou sl fr = true
  · by_cases hL : btw L 1 32 = true
    · have h' := confB_iff.1 h
      obtain ⟨⟨_, _⟩, ⟨_, _⟩, ⟨_, _⟩, ⟨_, _⟩, _⟩ := h'
      have hL' := hL
      simp only [btw, Bool.and_eq_true, decide_eq_true_eq] at hL'
      obtain ⟨_, _⟩ := hL'
      have m0 : 0 ≤ rg * (bl + L - 1) := Int.mul_nonneg (by omega) (by omega)
      have m1 : rg * (bl + L - 1) ≤ 16 * 287 := Int.mul_le_mul (by omega) (by omega) (by omega) (by omega)
      rw [h]
      go_wp2_with (go_at_call 67; refine (long_any _ _).mono ?_; rintro e w' ⟨rfl, rfl⟩; rw [hL])
      go_ret2
      exact ⟨by simp [rooN, rooE, rooB, h, hL], hB⟩
    · have hL2 : btw L 1 32 = false := by simpa using hL
      rw [h]
      go_wp2_with (go_at_call 67; refine (long_any _ _).mono ?_; rintro e w' ⟨rfl, rfl⟩; rw [hL2])
      go_ret2
      exact ⟨by simp [rooN, rooE, rooB, h, hL2], hB⟩
  · have h2 : confB wk bl rg qu ou sl fr = false := by simpa using h
    rw [h2]
    go_wp2
    go_ret2
    exact ⟨by simp [rooN, rooE, rooB, h2], hB⟩

set_option maxHeartbeats 1000000 in
theorem blocksN_any (size : Int) (a : Option Addr) (len cap : Nat) (zs : List Int) (w : World) (hs : -9223372036854775808 ≤ size ∧ size ≤ 9223372036854775807) (hl : len ≤ 60) (hz : ∀ n ∈ zs, n ≤ 1099511627776) (h : Sl1 (Value.int .i64) w a len zs) :
    Calls Try.prog 23 #[.int .i64 size, .slice a len cap] w fun e w' => e = .returned (.int .i64 (blkS size zs)) ∧ w = w' := by
  obtain ⟨hs1, hs2⟩ := hs
  by_cases h1 : size < 1
  · rw [blkS_small h1]
    go_enter Try.func23, Try.ntmps23
    go_wp2
    go_ret
    exact ⟨rfl, rfl⟩
  · obtain ⟨hlen, hm⟩ := h
    have HZ := Lib.hid hz
    have HL := Lib.hid hlen
    clear hz hlen
    go_enter Try.func23, Try.ntmps23
    go_wp2
    go_loop [5, 12] (fun s i => ∃ k : Nat, k ≤ len ∧ i = .int .i64 k ∧ s = .int .i64 (blkS size (zs.take k))) (fun _ i => len - (intOf i).toNat)
    case atStart => exact ⟨0, Nat.zero_le _, rfl, rfl⟩
    case round =>
      obtain ⟨k, hk, rfl, rfl⟩ := hrel
      by_cases hlt : k < len
      · obtain ⟨z, hz⟩ : ∃ z, zs[k]? = some z := ⟨zs[k]'(by rw [HL.out]; exact hlt), by simp⟩
        have hzm := HZ.out z (List.mem_of_getElem? hz)
        obtain ⟨b, off, rfl, _, hc⟩ := hm.resolve_left (by omega)
        have hcell := hc k z hz
        have htk := take_succ_of hz
        have hbd := blkS_bd size (M := 1099511627776) (by omega) (zs.take k) (fun n hn => HZ.out n (List.mem_of_mem_take hn))
        have hbl : ((zs.take k).length : Int) ≤ 60 := by have := List.length_take_le k zs; omega
        have hbd2 : ((zs.take k).length : Int) * 1099511627776 ≤ 60 * 1099511627776 := Int.mul_le_mul_of_nonneg_right hbl (by omega)
        have hov := overI_bd (n := z) (size := size)
        have HS : Hid (blkS size (zs.take (k + 1)) = blkS size (zs.take k) + overI z size) := by rw [htk, blkS_snoc]; rfl
        have HO : Hid (1 ≤ z → overI z size = partsI size z) := fun h => by unfold overI; rw [if_neg (by omega)]
        have HN : Hid (z < 1 → overI z size = 0) := fun h => by unfold overI; rw [if_pos (by omega)]
        clear htk hz hc hm
        by_cases h1z : 1 ≤ z
        · rw [HO.out h1z] at HS hov
          go_wp2_with (go_at_call 62; refine (parts_any _ _ _ (by omega) (by omega) (by omega) (by omega)).mono ?_; rintro e w' ⟨rfl, rfl⟩)
          go_round
          case rel => exact ⟨k + 1, by omega, by go_num, by rw [HS.out]⟩
          case measure => simp [intOf]; omega
        · rw [HN.out (by omega)] at HS
          go_wp2
          go_round
          case rel => exact ⟨k + 1, by omega, by go_num, by rw [HS.out, Int.add_zero]⟩
          case measure => simp [intOf]; omega
      · obtain rfl : k = len := by omega
        go_wp2
        go_ret
        exact ⟨ret_int (by rw [List.take_of_length_le (by rw [HL.out]; exact Nat.le_refl _)]), rfl⟩

end Go.Proofs.Ytmpmjkbjnklgfaa
