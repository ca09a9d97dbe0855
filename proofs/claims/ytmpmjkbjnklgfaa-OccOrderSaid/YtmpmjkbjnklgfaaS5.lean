/- A word's number, two sets that are the same (layer 5), walked. -/
import Derived.Test.YtmpmjkbjnklgfaaS4
namespace Go.Proofs.Ytmpmjkbjnklgfaa
open Go.RowKit Go.Sort
set_option linter.unusedVariables false

abbrev setV (fold : Bool) (a : Option Addr) (la ca : Nat) : Array Value := #[.bool fold, .slice a la ca]

set_option maxHeartbeats 1000000 in
theorem number_any (fold : Bool) (a b : Option Addr) (la ca lb cb : Nat) (xs : List Int) (wss : List (List Int)) (w : World) (hA : Bys w a la xs) (hB : Wds w b lb wss) (hlb : lb ≤ 1000000) (hM : ∀ x ∈ wss, x.length ≤ 1000000) :
    Calls Try.prog 152 #[.agg (setV fold b lb cb), .slice a la ca] w fun e w' => e = .returned (.tuple #[.int .i64 (if whichL fold xs wss < 0 then 0 else whichL fold xs wss), .bool (decide (0 ≤ whichL fold xs wss))]) ∧ Below w.heap.size w w' := by
  have hbd := whichL_bd fold xs wss
  have hA1 := hA.below ((Below.refl _ _).alloc (Nat.le_refl _) (.cells (setV fold b lb cb) 39))
  have hB1 := hB.below ((Below.refl _ _).alloc (Nat.le_refl _) (.cells (setV fold b lb cb) 39))
  obtain ⟨n, hn⟩ : ∃ n, whichL fold xs wss = n := ⟨_, rfl⟩
  have HN : Hid (whichL fold xs wss = n) := hn
  rw [hn] at hbd ⊢
  clear hn
  have hBz : ∀ w1, Below (w.alloc (.cells (setV fold b lb cb) 39)).heap.size (w.alloc (.cells (setV fold b lb cb) 39)) w1 → Below w.heap.size w w1 := fun w1 hb => ((Below.refl _ _).alloc (Nat.le_refl _) _).trans (hb.mono (by simp))
  by_cases h : n < 0
  · rw [if_pos h, decide_eq_false (by omega)]
    go_enter Try.func152, Try.ntmps152
    go_wp2_with fail
    refine (which_any fold a b la ca lb cb xs wss _ hA1 hB1 hlb hM).mono ?_
    rintro e w1 ⟨rfl, hb⟩
    rw [HN.out]
    go_wp2
    go_ret2
    exact ⟨rfl, hBz _ hb⟩
  · rw [if_neg h, decide_eq_true (by omega)]
    go_enter Try.func152, Try.ntmps152
    go_wp2_with fail
    refine (which_any fold a b la ca lb cb xs wss _ hA1 hB1 hlb hM).mono ?_
    rintro e w1 ⟨rfl, hb⟩
    rw [HN.out]
    go_wp2
    go_ret2
    exact ⟨rfl, hBz _ hb⟩

theorem equal_any (a b : Option Addr) (la ca lb cb : Nat) (xs ys : List Int) (w : World) (hA : Bys w a la xs) (hB : Bys w b lb ys) :
    Calls Try.prog 90 #[.slice a la ca, .slice b lb cb] w fun e w' => e = .returned (.bool (decide (xs = ys))) ∧ w = w' := by
  have c1 := conv_bys hA
  have c2 := conv_bys hB
  go_enter Try.func90, Try.ntmps90
  go_wp2
  go_ret
  refine ⟨?_, rfl⟩
  show Ending.returned (.bool ((strOfNums xs).toList == (strOfNums ys).toList)) = _
  rw [str_beq hA.2 hB.2]

/-- Two sets that are the same: lists of the same words. -/
def sameS (f g : Bool) (wss vss : List (List Int)) : Bool := f == g && decide (wss = vss)
theorem sameS_no {f g : Bool} {wss vss : List (List Int)} (h : f ≠ g ∨ wss.length ≠ vss.length) : sameS f g wss vss = false := by
  rcases h with h | h
  · cases f <;> cases g <;> simp_all [sameS]
  · have : wss ≠ vss := fun e => h (by rw [e])
    simp [sameS, this]

set_option maxHeartbeats 1000000 in
theorem sames_any (f g : Bool) (a b : Option Addr) (la ca lb cb : Nat) (wss vss : List (List Int)) (w : World) (hA : Wds w a la wss) (hB : Wds w b lb vss) (hla : la ≤ 1000000) :
    Calls Try.prog 120 #[.agg (setV f a la ca), .agg (setV g b lb cb)] w fun e w' => e = .returned (.bool (sameS f g wss vss)) ∧ Below w.heap.size w w' := by
  have hBx : Below w.heap.size w ((w.alloc (.cells (setV f a la ca) 39)).alloc (.cells (setV g b lb cb) 39)) := ((Below.refl _ _).alloc (Nat.le_refl _) _).alloc (by simp) _
  have HA := Lib.hid hA.len
  have HB := Lib.hid hB.len
  by_cases hfg : f = g
  · subst hfg
    by_cases hl : la = lb
    · subst hl
      have hA1 := hA.below hBx
      have hB1 := hB.below hBx
      clear hA hB
      go_enter Try.func120, Try.ntmps120
      go_wp2
      go_loop [24] (fun i => ∃ k : Nat, k ≤ la ∧ i = .int .i64 k ∧ Hid (wss.take k = vss.take k)) (fun i => la - (intOf i).toNat)
      case atStart => exact ⟨0, Nat.zero_le _, rfl, by simp [Hid]⟩
      case round =>
        obtain ⟨k, hk, rfl, HK⟩ := hrel
        by_cases hlt : k < la
        · obtain ⟨bb, off, a', l, c, x, rfl, hbl, hcell, hx, hX, hlc⟩ := hA1.at_ hlt
          obtain ⟨bb2, off2, a2, l2, c2, y, rfl, hbl2, hcell2, hy, hY, hlc2⟩ := hB1.at_ hlt
          go_wp2_with fail
          refine (equal_any a' a2 l c l2 c2 x y _ hX hY).mono ?_
          rintro e w1 ⟨rfl, rfl⟩
          have HX := Lib.hid hx
          have HY := Lib.hid hy
          clear hx hy
          by_cases h : x = y
          · rw [decide_eq_true h]
            have HS : Hid (wss.take (k + 1) = vss.take (k + 1)) := by rw [take_step HX.out, take_step HY.out, HK.out, h]; rfl
            clear h
            go_wp2
            go_round
            case rel => exact ⟨k + 1, by omega, by go_num, HS⟩
            case measure => simp [intOf]; omega
          · rw [decide_eq_false h]
            have HS : Hid (sameS f f wss vss = false) := by
              have : wss ≠ vss := fun e => by
                have h1 := HX.out
                rw [e, HY.out] at h1
                exact h (Option.some.inj h1).symm
              simp [Hid, sameS, this]
            clear h
            go_wp2
            go_ret
            exact ⟨by rw [HS.out]; rfl, hBx⟩
        · obtain rfl : k = la := by omega
          have HS : Hid (sameS f f wss vss = true) := by
            have h := HK.out
            rw [List.take_of_length_le (by rw [HA.out]; exact Nat.le_refl _), List.take_of_length_le (by rw [HB.out]; exact Nat.le_refl _)] at h
            simp [Hid, sameS, h]
          go_wp2
          go_ret
          exact ⟨by rw [HS.out]; rfl, hBx⟩
    · have HS : Hid (sameS f f wss vss = false) := sameS_no (.inr (by rw [HA.out, HB.out]; exact hl))
      have hne : ((la : Int) != (lb : Int)) = true := by simp; omega
      go_enter Try.func120, Try.ntmps120
      go_wp2
      all_goals
        go_ret
        exact ⟨by rw [HS.out]; rfl, hBx⟩
  · have HS : Hid (sameS f g wss vss = false) := sameS_no (.inl hfg)
    have hne : (f != g) = true := by simp [hfg]
    go_enter Try.func120, Try.ntmps120
    go_wp2
    all_goals
      go_ret
      exact ⟨by rw [HS.out]; rfl, hBx⟩

end Go.Proofs.Ytmpmjkbjnklgfaa
