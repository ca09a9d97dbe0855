/- The document's functions of sets (layer 5), the small ones: walked. -/
import Derived.Test.YtmpmjkbjnklgfaaS8
namespace Go.Proofs.Ytmpmjkbjnklgfaa
open Go.RowKit Go.Sort
set_option linter.unusedVariables false

def gsum (wss : List (List Int)) : Int := (wss.map fun w => min (w.length : Int) 4000).sum
def greatP (wss : List (List Int)) : Bool := decide (wss.length > 80 ∨ gsum wss > 3000)
theorem gsum_snoc (l : List (List Int)) (x : List Int) : gsum (l ++ [x]) = gsum l + min (x.length : Int) 4000 := by simp [gsum]
theorem gsum_nonneg : ∀ (l : List (List Int)), 0 ≤ gsum l
  | [] => by simp [gsum]
  | x :: l => by
    have := gsum_nonneg l
    simp only [gsum, List.map_cons, List.sum_cons] at this ⊢
    omega
theorem gsum_append (l m : List (List Int)) : gsum (l ++ m) = gsum l + gsum m := by simp [gsum]
theorem gsum_take (l : List (List Int)) (k : Nat) : gsum (l.take k) ≤ gsum l := by
  have h := gsum_append (l.take k) (l.drop k)
  rw [List.take_append_drop] at h
  have := gsum_nonneg (l.drop k)
  omega

set_option maxHeartbeats 2000000 in
theorem great3_any (a : Option Addr) (la ca : Nat) (wss : List (List Int)) (w : World) (hA : Wds w a la wss) :
    Calls Try.prog 68 #[.slice a la ca] w fun e w' => e = .returned (.bool (greatP wss)) ∧ w = w' := by
  have HL := Lib.hid hA.len
  obtain ⟨G, hG⟩ : ∃ G, greatP wss = G := ⟨_, rfl⟩
  have HG : Hid (greatP wss = G) := hG
  rw [hG]
  clear hG
  go_enter Try.func68, Try.ntmps68
  go_wp2
  go_loop [3, 4] (fun s i => ∃ (k : Nat) (n : Int), k ≤ la ∧ k ≤ 81 ∧ i = .int .i64 k ∧ s = .int .i64 n ∧ 0 ≤ n ∧ n ≤ 7000 ∧ Hid (n = gsum (wss.take k))) (fun _ i => la - (intOf i).toNat)
  case atStart => exact ⟨0, 0, Nat.zero_le _, by omega, rfl, rfl, by omega, by omega, by simp [Hid, gsum]⟩
  case round =>
    obtain ⟨k, n, hk, hk81, rfl, rfl, hn0, hn1, HN⟩ := hrel
    have fin : ¬ (k < la ∧ k ≤ 80 ∧ n ≤ 3000) → la ≤ 80 → Hid (G = decide (n > 3000)) := by
      intro h1 h2
      have hlen := HL.out
      have ht := gsum_take wss k
      rw [Hid, ← HG.out]
      unfold greatP
      by_cases hn : n > 3000
      · rw [decide_eq_true hn, decide_eq_true]
        right
        have := HN.out
        omega
      · have hkl : k = la := by omega
        rw [decide_eq_false hn, decide_eq_false]
        rintro (h | h)
        · omega
        · have h3 := HN.out
          rw [List.take_of_length_le (by omega)] at h3
          omega
    have fin2 : 80 < la → Hid (G = true) := by
      intro h
      rw [Hid, ← HG.out]
      exact decide_eq_true (.inl (by have := HL.out; omega))
    have HF := Lib.hid fin
    have HF2 := Lib.hid fin2
    clear fin fin2
    by_cases hlt : k < la
    · by_cases h80 : k ≤ 80
      · by_cases hn3 : n ≤ 3000
        · obtain ⟨bb, off, a', l, c, x, rfl, hbl, hcell, hx, hX, hlc⟩ := hA.at_ hlt
          have HS : Hid (n + min (l : Int) 4000 = gsum (wss.take (k + 1))) := by rw [Hid, take_step hx, gsum_snoc, hX.len, HN.out]
          clear hx hX
          have hm0 : 0 ≤ min (l : Int) 4000 := by omega
          have hm1 : min (l : Int) 4000 ≤ 4000 := by omega
          go_wp2
          go_round
          case rel => exact ⟨k + 1, _, by omega, by omega, by go_num, rfl, by omega, by omega, HS⟩
          case measure => simp [intOf]; omega
        · by_cases h8 : la ≤ 80
          · have hE := HF.out (by omega) h8
            go_wp2
            go_ret
            exact ⟨by rw [hE.out]; simp; try omega, rfl⟩
          · have hE := HF2.out (by omega)
            go_wp2
            go_ret
            exact ⟨by rw [hE.out]; simp; try omega, rfl⟩
      · have hE := HF2.out (by omega)
        go_wp2
        go_ret
        exact ⟨by rw [hE.out]; simp; try omega, rfl⟩
    · by_cases h8 : la ≤ 80
      · have hE := HF.out (by omega) h8
        go_wp2
        go_ret
        exact ⟨by rw [hE.out]; simp; try omega, rfl⟩
      · have hE := HF2.out (by omega)
        go_wp2
        go_ret
        exact ⟨by rw [hE.out]; simp; try omega, rfl⟩

theorem great5_any (fold : Bool) (a : Option Addr) (la ca : Nat) (wss : List (List Int)) (w : World) (hA : Wds w a la wss) :
    Calls Try.prog 26 #[.agg (setV fold a la ca)] w fun e w' => e = .returned (.bool (greatP wss)) ∧ Below w.heap.size w w' := by
  have hB0 : Below w.heap.size w (w.alloc (.cells (setV fold a la ca) 39)) := (Below.refl _ _).alloc (Nat.le_refl _) _
  have hA1 := hA.below hB0
  go_enter Try.func26, Try.ntmps26
  go_wp2_with fail
  refine (great3_any a la ca wss _ hA1).mono ?_
  rintro e w1 ⟨rfl, rfl⟩
  go_wp2
  go_ret
  exact ⟨rfl, hB0⟩


set_option maxHeartbeats 1000000 in
theorem longest_any (fold : Bool) (a : Option Addr) (la ca : Nat) (wss : List (List Int)) (w : World) (hA : Wds w a la wss) (hla : la ≤ 1000000) :
    Calls Try.prog 43 #[.agg (setV fold a la ca)] w fun e w' => e = .returned (.int .i64 (longL wss)) ∧ Below w.heap.size w w' := by
  have hB0 : Below w.heap.size w (w.alloc (.cells (setV fold a la ca) 39)) := (Below.refl _ _).alloc (Nat.le_refl _) _
  have hA1 := hA.below hB0
  have HL := Lib.hid hA.len
  clear hA
  go_enter Try.func43, Try.ntmps43
  go_wp2
  go_loop [3, 4] (fun s i => ∃ (k : Nat) (n : Int), k ≤ la ∧ i = .int .i64 k ∧ s = .int .i64 n ∧ Hid (n = longL (wss.take k))) (fun _ i => la - (intOf i).toNat)
  case atStart => exact ⟨0, 0, Nat.zero_le _, rfl, rfl, by simp [Hid, longL]⟩
  case round =>
    obtain ⟨k, n, hk, rfl, rfl, HN⟩ := hrel
    by_cases hlt : k < la
    · obtain ⟨bb, off, a', l, c, x, rfl, hbl, hcell, hx, hX, hlc⟩ := hA1.at_ hlt
      have HS : Hid (max n (l : Int) = longL (wss.take (k + 1))) := by rw [Hid, take_step hx, longL_snoc, hX.len, HN.out]
      clear hx hX
      go_wp2
      go_round
      case rel => exact ⟨k + 1, _, by omega, by go_num, rfl, HS⟩
      case measure => simp [intOf]; omega
    · obtain rfl : k = la := by omega
      have HF : Hid (n = longL wss) := by
        have h := HN.out
        rwa [List.take_of_length_le (by have := HL.out; omega)] at h
      go_wp2
      go_ret
      exact ⟨by rw [← HF.out]; rfl, hB0⟩

end Go.Proofs.Ytmpmjkbjnklgfaa
