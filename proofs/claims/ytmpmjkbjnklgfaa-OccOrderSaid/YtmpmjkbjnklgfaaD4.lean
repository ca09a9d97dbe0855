/- Which error a list of words has, by the document (layer 5): walked. -/
import Derived.Test.YtmpmjkbjnklgfaaD3
namespace Go.Proofs.Ytmpmjkbjnklgfaa
open Go.RowKit Go.Sort
set_option linter.unusedVariables false

def bsum (wss : List (List Int)) : Int := (wss.map fun w => (w.length : Int)).sum
theorem bsum_snoc (l : List (List Int)) (x : List Int) : bsum (l ++ [x]) = bsum l + x.length := by simp [bsum]
theorem bsum_bd : ∀ (l : List (List Int)), (∀ x ∈ l, x.length ≤ 1000000) → 0 ≤ bsum l ∧ bsum l ≤ l.length * 1000000
  | [], _ => by simp [bsum]
  | x :: l, h => by
    have h1 := bsum_bd l (fun y hy => h y (by simp [hy]))
    have h2 := h x (by simp)
    simp only [bsum, List.map_cons, List.sum_cons, List.length_cons] at h1 ⊢
    omega
def checkR (fold : Bool) (wss : List (List Int)) : Int :=
  if wss.length = 0 then 50 else if wss.length > 64 then 51 else if (∃ x ∈ wss, x.length = 0) then 52 else if (∃ x ∈ wss, x.length > 32) then 53 else if bsum wss > 600 then 54 else if nodesR fold wss > 400 then 55 else 0

set_option maxHeartbeats 4000000 in
theorem rcheck_any (fold : Bool) (a : Option Addr) (la ca : Nat) (wss : List (List Int)) (w : World) (hA : Wds w a la wss) (hla : la ≤ 1000000) (hM : ∀ x ∈ wss, x.length ≤ 1000000) :
    Calls Try.prog 113 #[.bool fold, .slice a la ca] w fun e w' => e = .returned (.int .i64 (checkR fold wss)) ∧ Below w.heap.size w w' := by
  have HL := Lib.hid hA.len
  have HM := Lib.hid hM
  obtain ⟨G, hG⟩ : ∃ G, checkR fold wss = G := ⟨_, rfl⟩
  have HG : Hid (checkR fold wss = G) := hG
  rw [hG]
  clear hG hM
  by_cases h0 : la = 0
  · have HE : Hid (G = 50) := by rw [Hid, ← HG.out, checkR, if_pos (by rw [HL.out, h0])]
    go_enter Try.func113, Try.ntmps113
    go_wp2
    go_ret
    exact ⟨by rw [HE.out]; rfl, Below.refl _ _⟩
  · by_cases h64 : 64 < la
    · have HE : Hid (G = 51) := by rw [Hid, ← HG.out, checkR, if_neg (by rw [HL.out]; exact h0), if_pos (by rw [HL.out]; exact h64)]
      go_enter Try.func113, Try.ntmps113
      go_wp2
      go_ret
      exact ⟨by rw [HE.out]; rfl, Below.refl _ _⟩
    · have HG2 : Hid (G = if (∃ x ∈ wss, x.length = 0) then 52 else if (∃ x ∈ wss, x.length > 32) then 53 else if bsum wss > 600 then 54 else if nodesR fold wss > 400 then 55 else 0) := by
        rw [Hid, ← HG.out, checkR, if_neg (by rw [HL.out]; exact h0), if_neg (by rw [HL.out]; exact h64)]
      go_enter Try.func113, Try.ntmps113
      go_wp2
      go_loop [6] (fun i => ∃ k : Nat, k ≤ la ∧ i = .int .i64 k ∧ Hid (∀ x ∈ wss.take k, x.length ≠ 0)) (fun i => la - (intOf i).toNat)
      case atStart => exact ⟨0, Nat.zero_le _, rfl, fun x hx => by simp at hx⟩
      case round =>
        obtain ⟨k, hk, rfl, HK⟩ := hrel
        by_cases hlt : k < la
        · obtain ⟨bb, off, a', l, c, x, rfl, hbl, hcell, hx, hX, hlc⟩ := hA.at_ hlt
          have HX := Lib.hid hx
          have HXL := Lib.hid hX.len
          clear hx hX
          by_cases hl0 : l = 0
          · have HE : Hid (G = 52) := by rw [Hid, HG2.out, if_pos ⟨x, List.mem_of_getElem? HX.out, by rw [HXL.out, hl0]⟩]
            go_wp2
            go_ret
            exact ⟨by rw [HE.out]; rfl, Below.refl _ _⟩
          · have HK2 : Hid (∀ x ∈ wss.take (k + 1), x.length ≠ 0) := by
              rw [take_step HX.out]
              intro y hy
              rcases List.mem_append.1 hy with hy | hy
              · exact HK.out y hy
              · simp at hy; rw [hy, HXL.out]; exact hl0
            go_wp2
            go_round
            case rel => exact ⟨k + 1, by omega, by go_num, HK2⟩
            case measure => simp [intOf]; omega
        · obtain rfl : k = la := by omega
          have HK0 : Hid (∀ x ∈ wss, x.length ≠ 0) := by
            have h := HK.out
            rwa [List.take_of_length_le (by rw [HL.out]; exact Nat.le_refl _)] at h
          have HG3 : Hid (G = if (∃ x ∈ wss, x.length > 32) then 53 else if bsum wss > 600 then 54 else if nodesR fold wss > 400 then 55 else 0) := by
            rw [Hid, HG2.out, if_neg (by rintro ⟨x, hx, h⟩; exact HK0.out x hx h)]
          clear HG2 HK
          go_wp2
          go_loop [5, 7] (fun s i => ∃ (j : Nat) (n : Int), j ≤ k ∧ i = .int .i64 j ∧ s = .int .i64 n ∧ Hid (n = bsum (wss.take j)) ∧ Hid (∀ x ∈ wss.take j, ¬ x.length > 32)) (fun _ i => k - (intOf i).toNat)
          case atStart => exact ⟨0, 0, Nat.zero_le _, rfl, rfl, by simp [Hid, bsum], fun x hx => by simp at hx⟩
          case round =>
            obtain ⟨j, n, hj, rfl, rfl, HN, HJ⟩ := hrel
            have hnb := bsum_bd (wss.take j) (fun y hy => HM.out y (List.mem_of_mem_take hy))
            rw [← HN.out] at hnb
            have hnl : ((wss.take j).length : Int) ≤ 64 := by have := List.length_take_le j wss; omega
            have hn0 := hnb.1
            have hn1 : n ≤ 64000000 := by omega
            clear hnb hnl
            by_cases hjl : j < k
            · obtain ⟨bb, off, a', l, c, x, rfl, hbl, hcell, hx, hX, hlc⟩ := hA.at_ hjl
              have hxl : l ≤ 1000000 := by have := mem_bd HM.out hx; rw [hX.len] at this; exact this
              have HX := Lib.hid hx
              have HXL := Lib.hid hX.len
              clear hx hX
              by_cases hl32 : 32 < l
              · have HE : Hid (G = 53) := by rw [Hid, HG3.out, if_pos ⟨x, List.mem_of_getElem? HX.out, by rw [HXL.out]; exact hl32⟩]
                go_wp2
                go_ret
                exact ⟨by rw [HE.out]; rfl, Below.refl _ _⟩
              · have HJ2 : Hid (∀ x ∈ wss.take (j + 1), ¬ x.length > 32) := by
                  rw [take_step HX.out]
                  intro y hy
                  rcases List.mem_append.1 hy with hy | hy
                  · exact HJ.out y hy
                  · simp at hy; rw [hy, HXL.out]; exact hl32
                have HS : Hid (n + (l : Int) = bsum (wss.take (j + 1))) := by rw [Hid, take_step HX.out, bsum_snoc, HXL.out, HN.out]
                go_wp2
                go_round
                case rel => exact ⟨j + 1, _, by omega, by go_num, rfl, HS, HJ2⟩
                case measure => simp [intOf]; omega
            · obtain rfl : j = k := by omega
              have hfull : wss.take j = wss := List.take_of_length_le (by rw [HL.out]; exact Nat.le_refl _)
              have HG4 : Hid (G = if n > 600 then 54 else if nodesR fold wss > 400 then 55 else 0) := by
                have h2 := HN.out
                rw [hfull] at h2
                rw [Hid, HG3.out, if_neg (by rintro ⟨x, hx, h⟩; exact HJ.out x (by rw [hfull]; exact hx) h), h2]
              clear hfull HG3 HN HJ
              by_cases h6 : 600 < n
              · have HE : Hid (G = 54) := by rw [Hid, HG4.out, if_pos h6]
                go_wp2
                go_ret
                exact ⟨by rw [HE.out]; rfl, Below.refl _ _⟩
              · go_wp2_with fail
                refine (rnodes_any fold a j ca wss w hA hla HM.out).mono ?_
                rintro e w1 ⟨rfl, hb⟩
                obtain ⟨N, hN⟩ : ∃ N, nodesR fold wss = N := ⟨_, rfl⟩
                rw [hN]
                have HN : Hid (nodesR fold wss = N) := hN
                clear hN
                by_cases h4 : 400 < N
                · have HE : Hid (G = 55) := by rw [Hid, HG4.out, if_neg (by omega), HN.out, if_pos h4]
                  go_wp2
                  go_ret
                  exact ⟨by rw [HE.out]; rfl, hb⟩
                · have HE : Hid (G = 0) := by rw [Hid, HG4.out, if_neg (by omega), HN.out, if_neg (by omega)]
                  go_wp2
                  go_ret
                  exact ⟨by rw [HE.out]; rfl, hb⟩

end Go.Proofs.Ytmpmjkbjnklgfaa
