/- Plain arithmetic of layer 28: how the answers rise. -/
import Derived.Test.YtmpmjkbjnklgfaaBn
namespace Go.Proofs.Ytmpmjkbjnklgfaa
set_option linter.unusedVariables false

theorem partsI_mono {s b : Int} (hs : 1 ≤ s) (hb : 0 ≤ b) : partsI s b ≤ partsI s (b + 1) := by
  have e1 := Int.mul_ediv_add_emod b s
  have e2 := Int.mul_ediv_add_emod (b + 1) s
  have m1 : 0 ≤ b % s := Int.emod_nonneg _ (by omega)
  have m2 : b % s < s := Int.emod_lt_of_pos _ (by omega)
  have n1 : 0 ≤ (b + 1) % s := Int.emod_nonneg _ (by omega)
  have n2 : (b + 1) % s < s := Int.emod_lt_of_pos _ (by omega)
  unfold partsI
  by_cases h : b % s + 1 < s
  · have hq : (b + 1) / s = b / s := by
      rw [show b + 1 = (b % s + 1) + s * (b / s) by omega, Int.add_mul_ediv_left _ _ (by omega), Int.ediv_eq_zero_of_lt (by omega) h]
      omega
    have hr : (b + 1) % s = b % s + 1 := by rw [hq] at e2; omega
    rw [hq, hr]
    split <;> split <;> omega
  · have hq : (b + 1) / s = b / s + 1 := by
      have : b + 1 = s * (b / s + 1) := by rw [Int.mul_add]; omega
      rw [this, Int.mul_ediv_cancel_left _ (by omega)]
    rw [hq]
    split <;> split <;> omega

theorem div_step {B y : Int} (hB : 1 ≤ B) (hy : 0 ≤ y) :
    (((y + 1) / B).toNat = (y / B).toNat ∧ (y + 1) % B = y % B + 1) ∨ (((y + 1) / B).toNat = (y / B).toNat + 1 ∧ (y + 1) % B = 0 ∧ y % B + 1 = B) := by
  have e1 := Int.mul_ediv_add_emod y B
  have e2 := Int.mul_ediv_add_emod (y + 1) B
  have m1 : 0 ≤ y % B := Int.emod_nonneg _ (by omega)
  have m2 : y % B < B := Int.emod_lt_of_pos _ (by omega)
  have q0 : 0 ≤ y / B := Int.ediv_nonneg hy (by omega)
  by_cases h : y % B + 1 < B
  · left
    have hq : (y + 1) / B = y / B := by
      rw [show y + 1 = (y % B + 1) + B * (y / B) by omega, Int.add_mul_ediv_left _ _ (by omega), Int.ediv_eq_zero_of_lt (by omega) h]
      omega
    refine ⟨by rw [hq], ?_⟩
    rw [hq] at e2
    omega
  · right
    have hq : (y + 1) / B = y / B + 1 := by
      have : y + 1 = B * (y / B + 1) := by rw [Int.mul_add]; omega
      rw [this, Int.mul_ediv_cancel_left _ (by omega)]
    rw [hq, Int.mul_add] at e2
    exact ⟨by rw [hq]; omega, by omega, by omega⟩

theorem totalI_mono {L B S y : Int} (hL : 1 ≤ L) (hB : 1 ≤ B) (hS : 1 ≤ S) (hy : 0 ≤ y) : totalI L B S y ≤ totalI L B S (y + 1) := by
  have m1 : 0 ≤ y % B := Int.emod_nonneg _ (by omega)
  have hw := wI_bd (L := L) (B := B) hL hB (y / B).toNat
  have hp := partsI_mono (s := S) (b := wI L B (y / B).toNat + y % B) hS (by omega)
  have hp0 := partsI_bd (s := S) (b := wI L B (y / B).toNat + (y % B + 1)) hS (by omega)
  rw [Int.add_assoc] at hp
  rcases div_step hB hy with ⟨h1, h2⟩ | ⟨h1, h2, h3⟩
  · unfold totalI
    rw [h1, h2]
    rw [if_pos (by omega : 0 < y % B + 1)]
    split <;> omega
  · unfold totalI
    rw [h1, h2, sumN]
    rw [h3] at hp hp0
    rw [if_neg (by omega : ¬ (0 : Int) < 0)]
    split <;> omega

theorem overI_mono {B y : Int} (hB : 1 ≤ B) (hy : 0 ≤ y) : overI y B ≤ overI (y + 1) B := by
  rw [overI_eq hy hB, overI_eq (by omega) hB]
  exact partsI_mono hB hy

def wsum (L B : Int) : Nat → Int
  | 0 => 0
  | k + 1 => wsum L B k + wI L B k
theorem wsum_bd {L B : Int} (hL : 1 ≤ L) (hL2 : L ≤ 32) (hB : 1 ≤ B) : ∀ k, 0 ≤ wsum L B k ∧ wsum L B k ≤ k * 31
  | 0 => by simp [wsum]
  | k + 1 => by
    have ih := wsum_bd hL hL2 hB k
    have hw := wI_bd (L := L) (B := B) hL hB k
    rw [wsum]
    have : ((k + 1 : Nat) : Int) * 31 = k * 31 + 31 := by omega
    omega
theorem sumN_one (L B : Int) : ∀ k : Nat, sumN L B 1 k = k * B + wsum L B k
  | 0 => by simp [sumN, wsum]
  | k + 1 => by
    rw [sumN, sumN_one L B k, partsI_one, wsum]
    have : ((k + 1 : Nat) : Int) * B = k * B + B := by rw [Int.natCast_add, Int.add_mul]; simp
    rw [this]; omega
theorem total_one {L B y : Int} (hB : 1 ≤ B) (hy : 0 ≤ y) : ∃ k : Nat, overI y B = k ∧ totalI L B 1 y = y + wsum L B k := by
  have e1 := Int.mul_ediv_add_emod y B
  have m1 : 0 ≤ y % B := Int.emod_nonneg _ (by omega)
  have q0 : 0 ≤ y / B := Int.ediv_nonneg hy (by omega)
  obtain ⟨q, hq⟩ : ∃ q : Nat, y / B = q := ⟨(y / B).toNat, by omega⟩
  rw [hq, Int.mul_comm] at e1
  by_cases h : 0 < y % B
  · refine ⟨q + 1, ?_, ?_⟩
    · rw [overI_eq hy hB, partsI, if_pos h, hq]; omega
    · rw [totalI, if_pos h, hq, Int.toNat_natCast, sumN_one, partsI_one, wsum]; omega
  · refine ⟨q, ?_, ?_⟩
    · rw [overI_eq hy hB, partsI, if_neg h, hq]; omega
    · rw [totalI, if_neg h, hq, Int.toNat_natCast, sumN_one]; omega

end Go.Proofs.Ytmpmjkbjnklgfaa
