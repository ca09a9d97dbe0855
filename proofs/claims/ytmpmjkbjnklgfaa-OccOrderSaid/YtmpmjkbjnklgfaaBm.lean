/- Plain arithmetic of blocks and slices (layer 28). No program in sight. -/
namespace Go.Proofs.Ytmpmjkbjnklgfaa

def btw (n lo hi : Int) : Bool := decide (lo ≤ n) && decide (n ≤ hi)
def confB (wk bl rg qu ou sl fr : Int) : Bool := btw wk 1 8 && btw bl 1 256 && btw rg 1 16 && btw qu 1 16 && btw ou 1 16 && btw sl 1 256 && btw fr 0 4611686018427387904
theorem confB_iff {wk bl rg qu ou sl fr : Int} : confB wk bl rg qu ou sl fr = true ↔ (1 ≤ wk ∧ wk ≤ 8) ∧ (1 ≤ bl ∧ bl ≤ 256) ∧ (1 ≤ rg ∧ rg ≤ 16) ∧ (1 ≤ qu ∧ qu ≤ 16) ∧ (1 ≤ ou ∧ ou ≤ 16) ∧ (1 ≤ sl ∧ sl ≤ 256) ∧ (0 ≤ fr ∧ fr ≤ 4611686018427387904) := by
  simp [confB, btw]; omega
def rightB (wk bl rg qu ou sl fr L y : Int) : Bool := confB wk bl rg qu ou sl fr && btw L 1 32 && btw y 0 2147483647

def partsI (size bytes : Int) : Int := bytes / size + if 0 < bytes % size then 1 else 0
theorem partsI_bd {s b : Int} (hs : 1 ≤ s) (hb : 0 ≤ b) : 0 ≤ partsI s b ∧ partsI s b ≤ b := by
  unfold partsI
  have h1 := Int.mul_ediv_add_emod b s
  have h2 : 0 ≤ b / s := Int.ediv_nonneg hb (by omega)
  have h3 : 0 ≤ b % s := Int.emod_nonneg _ (by omega)
  have h4 : b / s * 1 ≤ s * (b / s) := by rw [Int.mul_comm s]; exact Int.mul_le_mul_of_nonneg_left hs h2
  split <;> omega
theorem partsI_one (b : Int) : partsI 1 b = b := by
  unfold partsI; simp

def wI (L B : Int) (k : Nat) : Int := min (L - 1) (k * B)
def sumN (L B S : Int) : Nat → Int
  | 0 => 0
  | k + 1 => sumN L B S k + partsI S (wI L B k + B)
def totalI (L B S y : Int) : Int := sumN L B S (y / B).toNat + if 0 < y % B then partsI S (wI L B (y / B).toNat + y % B) else 0

theorem wI_bd {L B : Int} (hL : 1 ≤ L) (hB : 1 ≤ B) (k : Nat) : 0 ≤ wI L B k ∧ wI L B k ≤ L - 1 := by
  have : 0 ≤ (k : Int) * B := Int.mul_nonneg (by omega) (by omega)
  unfold wI; omega
theorem wI_mono {L B : Int} (hB : 1 ≤ B) {i j : Nat} (h : i ≤ j) (hi : ¬ wI L B i < L - 1) : wI L B j = L - 1 := by
  have : (i : Int) * B ≤ (j : Int) * B := Int.mul_le_mul_of_nonneg_right (by omega) (by omega)
  unfold wI at *; omega

/-- What is yielded, in all: k0 blocks that are told one by one, the others at once, and the rest. -/
def tailL (L B y : Int) (k0 : Nat) : List (Int × Int) :=
  (if k0 < (y / B).toNat then [(L - 1 + B, (((y / B).toNat - k0 : Nat) : Int))] else []) ++ (if 0 < y % B then [(wI L B (y / B).toNat + y % B, 1)] else [])
def headL (L B : Int) (k0 : Nat) : List (Int × Int) := (List.range k0).map fun i => (wI L B i + B, 1)
def sumL (S : Int) (l : List (Int × Int)) : Int := l.foldl (fun s p => s + p.2 * partsI S p.1) 0
theorem sumL_snoc (S : Int) (l : List (Int × Int)) (p : Int × Int) : sumL S (l ++ [p]) = sumL S l + p.2 * partsI S p.1 := by simp [sumL]
theorem headL_succ (L B : Int) (k : Nat) : headL L B (k + 1) = headL L B k ++ [(wI L B k + B, 1)] := by simp [headL, List.range_succ]
theorem headL_length (L B : Int) (k : Nat) : (headL L B k).length = k := by simp [headL]
theorem sumL_head (L B S : Int) (k : Nat) : sumL S (headL L B k) = sumN L B S k := by
  induction k with
  | zero => rfl
  | succ k ih => rw [headL_succ, sumL_snoc, ih, sumN]; simp
theorem sumN_full {L B S : Int} (hB : 1 ≤ B) {k0 : Nat} (h : ¬ wI L B k0 < L - 1) : ∀ d, sumN L B S (k0 + d) = sumN L B S k0 + d * partsI S (L - 1 + B)
  | 0 => by simp
  | d + 1 => by
    have h1 := wI_mono (B := B) hB (show k0 ≤ k0 + d by omega) h
    rw [show k0 + (d + 1) = (k0 + d) + 1 from rfl, sumN, sumN_full hB h d, h1]
    have : ((d + 1 : Nat) : Int) = (d : Int) + 1 := by omega
    rw [this, Int.add_mul]; omega
theorem sumL_all {L B S y : Int} (hB : 1 ≤ B) {k0 : Nat} (hk : k0 ≤ (y / B).toNat) (h : k0 < (y / B).toNat → ¬ wI L B k0 < L - 1) : sumL S (headL L B k0 ++ tailL L B y k0) = totalI L B S y := by
  have key : sumL S (headL L B k0 ++ (if k0 < (y / B).toNat then [(L - 1 + B, (((y / B).toNat - k0 : Nat) : Int))] else [])) = sumN L B S (y / B).toNat := by
    split
    · rename_i hlt
      rw [sumL_snoc, sumL_head]
      have := sumN_full (S := S) hB (h hlt) ((y / B).toNat - k0)
      rw [show k0 + ((y / B).toNat - k0) = (y / B).toNat by omega] at this
      exact this.symm
    · rename_i hge
      rw [List.append_nil, sumL_head, show k0 = (y / B).toNat by omega]
  unfold tailL totalI
  rw [← List.append_assoc]
  by_cases hr : 0 < y % B
  · rw [if_pos hr, if_pos hr, sumL_snoc, key]; simp
  · rw [if_neg hr, if_neg hr, List.append_nil, key]; simp

/-- The document's sum: over the blocks' first places. -/
def overI (l s : Int) : Int := if l < 1 ∨ s < 1 then 0 else partsI s l
theorem overI_eq {l s : Int} (_hl : 0 ≤ l) (hs : 1 ≤ s) : overI l s = partsI s l := by
  unfold overI
  split
  · rename_i h
    have : l = 0 := by omega
    subst this; simp [partsI]
  · rfl
theorem over_code {l s : Int} (_hl : 1 ≤ l) (hs : 1 ≤ s) : (if l / s * s < l then l / s + 1 else l / s) = partsI s l := by
  have h := Int.mul_ediv_add_emod l s
  have h3 : 0 ≤ l % s := Int.emod_nonneg _ (by omega)
  rw [Int.mul_comm] at h
  unfold partsI
  split <;> split <;> omega

/-- What the document's loop has summed when it stands at place k * B: k whole blocks, or all. -/
theorem total_step {B y : Int} (hB : 1 ≤ B) (hy : 0 ≤ y) (k : Nat) (h : (k : Int) * B < y) :
    (k < (y / B).toNat ∧ min B (y - k * B) = B) ∨ (k = (y / B).toNat ∧ 0 < y % B ∧ min B (y - k * B) = y % B) := by
  have e := Int.mul_ediv_add_emod y B
  have m0 : 0 ≤ y % B := Int.emod_nonneg _ (by omega)
  have m1 : y % B < B := Int.emod_lt_of_pos _ (by omega)
  have q0 : 0 ≤ y / B := Int.ediv_nonneg hy (by omega)
  obtain ⟨q, hq⟩ : ∃ q : Nat, y / B = q := ⟨(y / B).toNat, by omega⟩
  rw [hq] at e ⊢
  simp only [Int.toNat_natCast]
  rcases Nat.lt_trichotomy k q with hk | hk | hk
  · left
    refine ⟨hk, ?_⟩
    have : ((k + 1 : Nat) : Int) * B ≤ (q : Int) * B := Int.mul_le_mul_of_nonneg_right (by omega) (by omega)
    have e2 : ((k + 1 : Nat) : Int) * B = (k : Int) * B + B := by rw [Int.natCast_add, Int.add_mul]; simp
    rw [Int.mul_comm] at e
    omega
  · right
    subst hk
    rw [Int.mul_comm] at e
    omega
  · exfalso
    have : ((q + 1 : Nat) : Int) * B ≤ (k : Int) * B := Int.mul_le_mul_of_nonneg_right (by omega) (by omega)
    have e2 : ((q + 1 : Nat) : Int) * B = (q : Int) * B + B := by rw [Int.natCast_add, Int.add_mul]; simp
    rw [Int.mul_comm] at e
    omega

theorem div_mul_le {B y : Int} (hB : 1 ≤ B) (hy : 0 ≤ y) : (((y / B).toNat : Nat) : Int) * B ≤ y ∧ ((y / B).toNat : Int) ≤ y := by
  have e := Int.mul_ediv_add_emod y B
  have m0 : 0 ≤ y % B := Int.emod_nonneg _ (by omega)
  have q0 : 0 ≤ y / B := Int.ediv_nonneg hy (by omega)
  obtain ⟨q, hq⟩ : ∃ q : Nat, y / B = q := ⟨(y / B).toNat, by omega⟩
  rw [hq] at e ⊢
  simp only [Int.toNat_natCast]
  have : (q : Int) * 1 ≤ (q : Int) * B := Int.mul_le_mul_of_nonneg_left hB (by omega)
  rw [Int.mul_comm] at e
  omega

end Go.Proofs.Ytmpmjkbjnklgfaa
