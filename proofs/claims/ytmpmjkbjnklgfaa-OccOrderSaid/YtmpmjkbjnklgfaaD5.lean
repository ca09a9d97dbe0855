/- Two sets that are the same, by the document (layer 5): walked. -/
import Derived.Test.YtmpmjkbjnklgfaaD4
namespace Go.Proofs.Ytmpmjkbjnklgfaa
open Go.RowKit Go.Sort
set_option linter.unusedVariables false

set_option maxHeartbeats 2000000 in
theorem rsames_any (f g : Bool) (a b : Option Addr) (la ca lb cb : Nat) (wss vss : List (List Int)) (w : World) (hA : Wds w a la wss) (hB : Wds w b lb vss) (hla : la ≤ 1000000) :
    Calls Try.prog 50 #[.agg (setV f a la ca), .agg (setV g b lb cb)] w fun e w' => e = .returned (.bool (sameS f g wss vss)) ∧ Below w.heap.size w w' := by
  obtain ⟨W, hW⟩ : ∃ W, W = (w.alloc (.cells (setV f a la ca) 39)).alloc (.cells (setV g b lb cb) 39) := ⟨_, rfl⟩
  have hBx : Below w.heap.size w ((w.alloc (.cells (setV f a la ca) 39)).alloc (.cells (setV g b lb cb) 39)) := ((Below.refl _ _).alloc (Nat.le_refl _) _).alloc (by simp) _
  have HA := Lib.hid hA.len
  have HB := Lib.hid hB.len
  by_cases hfg : f = g
  · subst hfg
    by_cases hl : la = lb
    · subst hl
      have hb1 : W.heap[w.heap.size]? = some (.cells (setV f a la ca) 39 (0, 0)) := by
        rw [hW]
        exact (Below.heap_alloc _ _ _ (by simp)).trans (World.alloc_heap_new _ _)
      have hb2 : W.heap[w.heap.size + 1]? = some (.cells (setV f b la cb) 39 (0, 0)) := by
        rw [hW]
        have := World.alloc_heap_new (w.alloc (.cells (setV f a la ca) 39)) (.cells (setV f b la cb) 39)
        rwa [World.size_alloc] at this
      have hA1 : Wds W a la wss := by rw [hW]; exact hA.below hBx
      have hB1 : Wds W b la vss := by rw [hW]; exact hB.below hBx
      have hBW : Below w.heap.size w W := by rw [hW]; exact hBx
      have hz : W.heap.size = w.heap.size + 2 := by rw [hW]; simp
      have HWD := Lib.hid hW
      clear hA hB hW
      go_enter Try.func50, Try.ntmps50
      go_wp2
      rw [← HWD.out]
      go_loopw [5] (fun i wr => ∃ k : Nat, k ≤ la ∧ i = .int .i64 k ∧ Hid (wss.take k = vss.take k) ∧ Below W.heap.size W wr) (fun i _ => la - (intOf i).toNat)
      case atStart => exact ⟨0, Nat.zero_le _, rfl, by simp [Hid], Below.refl _ _⟩
      case round =>
        obtain ⟨k, hk, rfl, HK, hBe⟩ := hrel
        have hw : Below w.heap.size w wr := hBW.trans (hBe.mono hBW.size)
        have h1 : wr.heap[w.heap.size]? = _ := (hBe.block _ (by omega)).trans hb1
        have h2 : wr.heap[w.heap.size + 1]? = _ := (hBe.block _ (by omega)).trans hb2
        have c1 : wr.cell? ⟨w.heap.size, 1, none⟩ = some (.slice a la ca) := by simp [World.cell?, h1]
        have c2 : wr.cell? ⟨w.heap.size + 1, 1, none⟩ = some (.slice b la cb) := by simp [World.cell?, h2]
        have hBd : ∀ n, Below W.heap.size W (wr.drewN n) := fun n => hBe.trans ⟨rfl, rfl, rfl, Nat.le_refl _, fun _ _ => rfl⟩
        have hwd : ∀ n, Below w.heap.size w (wr.drewN n) := fun n => hw.trans ⟨rfl, rfl, rfl, Nat.le_refl _, fun _ _ => rfl⟩
        by_cases hlt : k < la
        · obtain ⟨bb, off, a', l, c, x, rfl, hbl, hcell, hx, hX, hlc⟩ := (hA1.below hBe).at_ hlt
          obtain ⟨bb2, off2, a2, l2, c2, y, rfl, hbl2, hcell2, hy, hY, hlc2⟩ := (hB1.below hBe).at_ hlt
          have hd : ∀ n, Below wr.heap.size wr (wr.drewN n) := fun n => ⟨rfl, rfl, rfl, Nat.le_refl _, fun _ _ => rfl⟩
          have hXn : ∀ n, Bys (wr.drewN n) a' l x := fun n => hX.below (hd n)
          have hYn : ∀ n, Bys (wr.drewN n) a2 l2 y := fun n => hY.below (hd n)
          have v1 : ∀ n cap, Sem.run Try.prog (convert 40 9 (.slice a' l cap)) (wr.drewN n) = .ok (.string (strOfNums x)) (wr.drewN n) := fun n cap => conv_bys (hXn n) cap
          have v2 : ∀ n cap, Sem.run Try.prog (convert 40 9 (.slice a2 l2 cap)) (wr.drewN n) = .ok (.string (strOfNums y)) (wr.drewN n) := fun n cap => conv_bys (hYn n) cap
          have hbeq := str_beq hX.2 hY.2
          have HX := Lib.hid hx
          have HY := Lib.hid hy
          clear hx hy hX hY hXn hYn hd
          by_cases h : x = y
          · rw [decide_eq_true h] at hbeq
            have HS : Hid (wss.take (k + 1) = vss.take (k + 1)) := by rw [take_step HX.out, take_step HY.out, HK.out, h]; rfl
            clear h
            go_wp2
            go_quiet (fail)
            go_wp2
            go_roundw
            case rel => exact ⟨k + 1, by omega, by go_num, HS, hBd _⟩
            case measure => simp [intOf]; omega
          · rw [decide_eq_false h] at hbeq
            have HS : Hid (sameS f f wss vss = false) := by
              have : wss ≠ vss := fun e => by
                have h1 := HX.out
                rw [e, HY.out] at h1
                exact h (Option.some.inj h1).symm
              simp [Hid, sameS, this]
            clear h
            go_wp2
            go_quiet (fail)
            go_wp2
            go_ret
            exact ⟨by rw [HS.out]; rfl, hwd _⟩
        · obtain rfl : k = la := by omega
          have HS : Hid (sameS f f wss vss = true) := by
            have h := HK.out
            rw [List.take_of_length_le (by rw [HA.out]; exact Nat.le_refl _), List.take_of_length_le (by rw [HB.out]; exact Nat.le_refl _)] at h
            simp [Hid, sameS, h]
          go_wp2
          go_ret
          exact ⟨by rw [HS.out]; rfl, hw⟩
    · have HS : Hid (sameS f f wss vss = false) := sameS_no (.inr (by rw [HA.out, HB.out]; exact hl))
      have hne : ((la : Int) != (lb : Int)) = true := by simp; omega
      clear hW
      go_enter Try.func50, Try.ntmps50
      go_wp2
      all_goals
        go_ret
        exact ⟨by rw [HS.out]; rfl, hBx⟩
  · have HS : Hid (sameS f g wss vss = false) := sameS_no (.inl hfg)
    have hne : (f != g) = true := by simp [hfg]
    clear hW
    go_enter Try.func50, Try.ntmps50
    go_wp2
    all_goals
      go_ret
      exact ⟨by rw [HS.out]; rfl, hBx⟩

end Go.Proofs.Ytmpmjkbjnklgfaa
