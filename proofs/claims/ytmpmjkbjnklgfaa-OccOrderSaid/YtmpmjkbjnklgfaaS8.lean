/- Which sets may be (layer 5), walked. -/
import Derived.Test.YtmpmjkbjnklgfaaS7
namespace Go.Proofs.Ytmpmjkbjnklgfaa
open Go.RowKit Go.Sort
set_option linter.unusedVariables false

def rightP (fold : Bool) (wss : List (List Int)) : Bool := decide (checkP fold wss = 0) && decide (makeL fold wss = wss)

set_option maxHeartbeats 1000000 in
theorem pright_any (fold : Bool) (a : Option Addr) (la ca : Nat) (wss : List (List Int)) (w : World) (hA : Wds w a la wss) (hla : la ≤ 1000000) (hM : ∀ x ∈ wss, x.length ≤ 1000000) (hT : (begL fold wss).length ≤ 1000000) :
    Calls Try.prog 84 #[.agg (setV fold a la ca)] w fun e w' => e = .returned (.bool (rightP fold wss)) ∧ Below w.heap.size w w' := by
  have hB0 : Below w.heap.size w (w.alloc (.cells (setV fold a la ca) 39)) := (Below.refl _ _).alloc (Nat.le_refl _) _
  have hA1 := hA.below hB0
  have hnew := World.alloc_heap_new w (.cells (setV fold a la ca) 39)
  by_cases hc : checkP fold wss = 0
  · have HR : Hid (rightP fold wss = sameS fold fold (makeL fold wss) wss) := by simp [Hid, rightP, sameS, hc]
    go_enter Try.func84, Try.ntmps84
    go_wp2_with fail
    refine (make_yes fold a la ca wss _ hA1 hla hM hT hc).mono ?_
    rintro e w1 ⟨v, rfl, hown, hb⟩
    have hB1 : Below w.heap.size w w1 := hB0.trans (hb.mono (by simp))
    obtain ⟨av, cv, rfl, hcv, hW⟩ := hown.wds
    have h1 : w1.heap[w.heap.size]? = _ := (hb.block _ (by simp)).trans hnew
    have hs1 : w.heap.size < w1.heap.size := (Array.getElem?_eq_some_iff.1 h1).1
    have c0 : w1.cell? ⟨w.heap.size, 0, none⟩ = some (.bool fold) := by simp [World.cell?, h1]
    have c1 : w1.cell? ⟨w.heap.size, 1, none⟩ = some (.slice a la ca) := by simp [World.cell?, h1]
    have hlen : (makeL fold wss).length ≤ 1000000 := by have := makeL_len fold wss; have := hA.len; omega
    have hne : w.heap.size ≠ w1.heap.size := by omega
    have hB2 : Below w1.heap.size w1 (w1.alloc (.cells (setV fold av (makeL fold wss).length cv) 39)) := (Below.refl _ _).alloc (Nat.le_refl _) _
    have hW2 := hW.below hB2
    have hA2 := (hA.below hB1).below hB2
    clear hc
    go_wp2_with fail
    refine (sames_any fold fold av a _ cv la ca (makeL fold wss) wss _ hW2 hA2 hlen).mono ?_
    rintro e w3 ⟨rfl, hb3⟩
    go_wp2
    go_ret
    exact ⟨by rw [HR.out]; rfl, hB1.trans ((hB2.trans (hb3.mono (by simp))).mono hB1.size)⟩
  · have HR : Hid (rightP fold wss = false) := by simp [Hid, rightP, hc]
    obtain ⟨n, hn⟩ : ∃ n, checkP fold wss = n := ⟨_, rfl⟩
    have HC := Lib.hid hc
    have HN : Hid (checkP fold wss = n) := hn
    rw [hn] at hc
    clear hn
    have hnb : (n == 0) = false := by simp [hc]
    go_enter Try.func84, Try.ntmps84
    go_wp2_with fail
    refine (make_no fold a la ca wss _ hA1 hla hM hT HC.out).mono ?_
    rintro e w1 ⟨rfl, hb⟩
    rw [HN.out]
    have hB1 : Below w.heap.size w w1 := hB0.trans (hb.mono (by simp))
    go_wp2
    go_ret
    exact ⟨by rw [HR.out]; rfl, hB1.alloc hB1.size _⟩

end Go.Proofs.Ytmpmjkbjnklgfaa
