/- Plain arithmetic of layer 28: the functions' answers, and sizes. -/
import Derived.Test.YtmpmjkbjnklgfaaBm
namespace Go.Proofs.Ytmpmjkbjnklgfaa

theorem take_succ_of {α : Type} {l : List α} {k : Nat} {x : α} (h : l[k]? = some x) : l.take (k + 1) = l.take k ++ [x] := by
  rw [List.take_add_one, h]; rfl

/-! ### the functions' answers -/
section answers
variable (wk bl rg qu ou sl fr : Int)
def sliN (L y : Int) : Int := if rightB wk bl rg qu ou sl fr L y then totalI L bl sl y else 0
def sliE (L y : Int) : Int := if rightB wk bl rg qu ou sl fr L y then 0 else 2
def steB (L y r h : Int) : Bool := rightB wk bl rg qu ou sl fr L y && btw r 0 2147483647 && btw h 0 2147483647
def steN (L y r h : Int) : Int := if steB wk bl rg qu ou sl fr L y r h then 6 * overI y bl + r + wk + totalI L bl sl y + 2 * h + 5 else 0
def steE (L y r h : Int) : Int := if steB wk bl rg qu ou sl fr L y r h then 0 else 2
def aftN : Int := if confB wk bl rg qu ou sl fr then 2 * wk + qu + 4 else 0
def aftE : Int := if confB wk bl rg qu ou sl fr then 0 else 2
def rooB (L : Int) : Bool := confB wk bl rg qu ou sl fr && btw L 1 32
def rooN (L : Int) : Int := if rooB wk bl rg qu ou sl fr L then rg * (bl + L - 1) else 0
def rooE (L : Int) : Int := if rooB wk bl rg qu ou sl fr L then 0 else 2
end answers
def blkS (size : Int) (l : List Int) : Int := l.foldl (fun s n => s + overI n size) 0
theorem blkS_snoc (size : Int) (l : List Int) (n : Int) : blkS size (l ++ [n]) = blkS size l + overI n size := by simp [blkS]
theorem blkS_small {size : Int} (h : size < 1) (l : List Int) : blkS size l = 0 := by
  have : ∀ (l : List Int) (a : Int), l.foldl (fun s n => s + overI n size) a = a := by
    intro l
    induction l with
    | nil => intro a; rfl
    | cons n l ih => intro a; rw [List.foldl_cons, ih]; simp [overI, h]
  exact this l 0
theorem overI_bd {n size : Int} : 0 ≤ overI n size ∧ (overI n size ≤ n ∨ overI n size = 0) := by
  unfold overI
  split
  · exact ⟨by omega, .inr rfl⟩
  · rename_i h
    have := partsI_bd (s := size) (b := n) (by omega) (by omega)
    omega
theorem blkS_bd (size : Int) {M : Int} (hM : 0 ≤ M) : ∀ (l : List Int), (∀ n ∈ l, n ≤ M) → 0 ≤ blkS size l ∧ blkS size l ≤ l.length * M := by
  intro l
  obtain ⟨n, hn⟩ : ∃ n, l.length = n := ⟨_, rfl⟩
  induction n generalizing l with
  | zero => obtain rfl := List.eq_nil_of_length_eq_zero hn; simp [blkS]
  | succ n ih' =>
    obtain ⟨l', x, rfl⟩ : ∃ l' x, l = l' ++ [x] := ⟨l.dropLast, l.getLast (by intro h; simp [h] at hn), (List.dropLast_concat_getLast _).symm⟩
    intro h
    have ih := ih' l' (by simpa using hn) (fun n hn => h n (by simp [hn]))
    have hx := h x (by simp)
    have ho := overI_bd (n := x) (size := size)
    rw [blkS_snoc]
    have e : ((l' ++ [x]).length : Int) * M = l'.length * M + M := by simp [Int.add_mul]
    rw [e]
    omega

/-! ### sizes -/
theorem sumN_bd {L B S : Int} (hL : 1 ≤ L) (hB : 1 ≤ B) (hS : 1 ≤ S) : ∀ k, 0 ≤ sumN L B S k ∧ sumN L B S k ≤ k * (L - 1 + B)
  | 0 => by simp [sumN]
  | k + 1 => by
    have ih := sumN_bd hL hB hS k
    have hw := wI_bd (L := L) (B := B) hL hB k
    have hp := partsI_bd (s := S) (b := wI L B k + B) hS (by omega)
    have e : ((k + 1 : Nat) : Int) * (L - 1 + B) = k * (L - 1 + B) + (L - 1 + B) := by rw [Int.natCast_add, Int.add_mul]; simp
    rw [sumN, e]
    omega
theorem totalI_bd {L B S y : Int} (hL : 1 ≤ L) (hL2 : L ≤ 32) (hB : 1 ≤ B) (hB2 : B ≤ 256) (hS : 1 ≤ S) (hy : 0 ≤ y) : 0 ≤ totalI L B S y ∧ totalI L B S y ≤ y * 287 + 287 := by
  have h1 := sumN_bd (S := S) hL hB hS (y / B).toNat
  have h2 := (div_mul_le hB hy).2
  have h3 : (((y / B).toNat : Nat) : Int) * (L - 1 + B) ≤ y * 287 := Int.mul_le_mul h2 (by omega) (by omega) hy
  have hw := wI_bd (L := L) (B := B) hL hB (y / B).toNat
  have m0 : 0 ≤ y % B := Int.emod_nonneg _ (by omega)
  have m1 : y % B < B := Int.emod_lt_of_pos _ (by omega)
  have hp := partsI_bd (s := S) (b := wI L B (y / B).toNat + y % B) hS (by omega)
  unfold totalI
  split <;> omega

/-! ### the document's loop -/
def refV (L B S y : Int) (k : Nat) : Int := if k ≤ (y / B).toNat then sumN L B S k else totalI L B S y
theorem refV_step {L B S y : Int} (hL : 1 ≤ L) (hB : 1 ≤ B) (hS : 1 ≤ S) (hy : 0 ≤ y) {k : Nat} (h : (k : Int) * B < y) :
    refV L B S y (k + 1) = refV L B S y k + overI (min (L - 1) (k * B) + min B (y - k * B)) S := by
  have hw := wI_bd (L := L) (B := B) hL hB k
  rcases total_step hB hy k h with ⟨h1, h2⟩ | ⟨h1, h2, h3⟩
  · unfold refV
    rw [if_pos (by omega), if_pos (by omega), h2, sumN]
    rw [overI_eq (by unfold wI at hw; omega) hS]
    rfl
  · subst h1
    unfold refV
    rw [if_neg (by omega), if_pos (by omega), h3, totalI, if_pos h2]
    rw [overI_eq (by unfold wI at hw; omega) hS]
    rfl
theorem refV_end {L B S y : Int} (hB : 1 ≤ B) (hy : 0 ≤ y) {k : Nat} (h : ¬ (k : Int) * B < y) : refV L B S y k = totalI L B S y := by
  unfold refV
  split
  · rename_i hk
    have e := Int.mul_ediv_add_emod y B
    have m0 : 0 ≤ y % B := Int.emod_nonneg _ (by omega)
    have q0 : 0 ≤ y / B := Int.ediv_nonneg hy (by omega)
    have hkq : (k : Int) ≤ y / B := by omega
    have : (k : Int) * B ≤ y / B * B := Int.mul_le_mul_of_nonneg_right hkq (by omega)
    rw [Int.mul_comm] at e
    have hz : ¬ 0 < y % B := by omega
    have hkK : k = (y / B).toNat := by
      by_cases hlt : k < (y / B).toNat
      · have : ((k : Int) + 1) * B ≤ y / B * B := Int.mul_le_mul_of_nonneg_right (by omega) (by omega)
        rw [Int.add_mul] at this
        omega
      · omega
    rw [totalI, if_neg hz, ← hkK]; omega
  · rfl
theorem refV_bd {L B S y : Int} (hL : 1 ≤ L) (hL2 : L ≤ 32) (hB : 1 ≤ B) (hB2 : B ≤ 256) (hS : 1 ≤ S) (hy : 0 ≤ y) (k : Nat) : 0 ≤ refV L B S y k ∧ refV L B S y k ≤ y * 287 + 287 := by
  unfold refV
  split
  · rename_i hk
    have h1 := sumN_bd (S := S) hL hB hS k
    have h2 := (div_mul_le hB hy).2
    have h3 : (k : Int) * (L - 1 + B) ≤ y * 287 := Int.mul_le_mul (by omega) (by omega) (by omega) hy
    omega
  · exact totalI_bd hL hL2 hB hB2 hS hy

end Go.Proofs.Ytmpmjkbjnklgfaa
