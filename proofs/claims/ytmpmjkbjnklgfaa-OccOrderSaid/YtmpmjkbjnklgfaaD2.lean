/- The document's functions of sets (layer 5): what two texts have in common. -/
import Derived.Test.YtmpmjkbjnklgfaaD1
namespace Go.Proofs.Ytmpmjkbjnklgfaa
open Go.RowKit Go.Sort
set_option linter.unusedVariables false

def commonL : List Int → List Int → Nat
  | x :: xs, y :: ys => if x = y then commonL xs ys + 1 else 0
  | _, _ => 0
theorem commonL_stop : ∀ {k : Nat} {xs ys : List Int}, k ≤ xs.length → k ≤ ys.length → xs.take k = ys.take k → (k = xs.length ∨ k = ys.length ∨ ∃ x y, xs[k]? = some x ∧ ys[k]? = some y ∧ x ≠ y) → commonL xs ys = k
  | 0, [], ys, _, _, _, _ => by simp [commonL]
  | 0, x :: xs, [], _, _, _, _ => by simp [commonL]
  | 0, x :: xs, y :: ys, _, _, _, h => by
    rcases h with h | h | ⟨a, b, ha, hb, hab⟩
    · simp at h
    · simp at h
    · simp at ha hb
      subst ha hb
      simp [commonL, hab]
  | k + 1, [], ys, h, _, _, _ => by simp at h
  | k + 1, x :: xs, [], _, h, _, _ => by simp at h
  | k + 1, x :: xs, y :: ys, h1, h2, h3, h4 => by
    simp only [List.take_succ_cons, List.cons.injEq] at h3
    have ih := commonL_stop (k := k) (xs := xs) (ys := ys) (by simpa using h1) (by simpa using h2) h3.2 (by simpa using h4)
    simp [commonL, h3.1, ih]

set_option maxHeartbeats 2000000 in
theorem common_any (a b : Option Addr) (la ca lb cb : Nat) (xs ys : List Int) (w : World) (hA : Bys w a la xs) (hB : Bys w b lb ys) (hla : la ≤ 1000000) (hlb : lb ≤ 1000000) :
    Calls Try.prog 88 #[.slice a la ca, .slice b lb cb] w fun e w' => e = .returned (.int .i64 (commonL xs ys)) ∧ Below w.heap.size w w' := by
  have HX := Lib.hid hA.len
  have HY := Lib.hid hB.len
  go_enter Try.func88, Try.ntmps88
  go_wp2
  go_loopw [5] (fun i wr => ∃ k : Nat, k ≤ la ∧ k ≤ lb ∧ i = .int .i64 k ∧ Hid (xs.take k = ys.take k) ∧ Below w.heap.size w wr) (fun i _ => la - (intOf i).toNat)
  case atStart => exact ⟨0, Nat.zero_le _, Nat.zero_le _, rfl, by simp [Hid], Below.refl _ _⟩
  case round =>
    obtain ⟨k, hka, hkb, rfl, HK, hBn⟩ := hrel
    have hBd : ∀ n, Below w.heap.size w (wr.drewN n) := fun n => hBn.trans ⟨rfl, rfl, rfl, Nat.le_refl _, fun _ _ => rfl⟩
    have stop : (k = la ∨ k = lb ∨ ∃ x y, xs[k]? = some x ∧ ys[k]? = some y ∧ x ≠ y) → Hid (commonL xs ys = k) := fun h => commonL_stop (by have := HX.out; omega) (by have := HY.out; omega) HK (by rw [HX.out, HY.out]; exact h)
    have HS := Lib.hid stop
    clear stop
    by_cases h1 : k < la
    · by_cases h2 : k < lb
      · obtain ⟨x, hx⟩ : ∃ x, xs[k]? = some x := ⟨xs[k]'(by rw [HX.out]; exact h1), by simp⟩
        obtain ⟨y, hy⟩ : ∃ y, ys[k]? = some y := ⟨ys[k]'(by rw [HY.out]; exact h2), by simp⟩
        obtain ⟨ba, oa, rfl, hba, hca⟩ := (hA.below hBn).1.2.resolve_left (by omega)
        obtain ⟨bb, ob, rfl, hbb, hcb⟩ := (hB.below hBn).1.2.resolve_left (by omega)
        have cx := hca k x hx
        have cy := hcb k y hy
        have HX2 := Lib.hid hx
        have HY2 := Lib.hid hy
        clear hx hy hca hcb
        by_cases hxy : x = y
        · subst hxy
          have HK2 : Hid (xs.take (k + 1) = ys.take (k + 1)) := by rw [take_step HX2.out, take_step HY2.out, HK.out]; rfl
          go_wp2
          go_quiet (fail)
          go_wp2
          go_roundw
          case rel => exact ⟨k + 1, by omega, by omega, by go_num, HK2, hBd _⟩
          case measure => simp [intOf]; omega
        · have HE := HS.out (.inr (.inr ⟨x, y, HX2.out, HY2.out, hxy⟩))
          go_wp2
          go_quiet (fail)
          go_wp2
          go_ret
          exact ⟨by rw [HE.out]; rfl, hBd _⟩
      · obtain rfl : k = lb := by omega
        have HE := HS.out (.inr (.inl rfl))
        go_wp2
        go_quiet (fail)
        go_wp2
        go_ret
        exact ⟨by rw [HE.out]; rfl, hBd _⟩
    · obtain rfl : k = la := by omega
      have HE := HS.out (.inl rfl)
      go_wp2
      go_quiet (fail)
      go_wp2
      go_ret
      exact ⟨by rw [HE.out]; rfl, hBd _⟩

end Go.Proofs.Ytmpmjkbjnklgfaa
