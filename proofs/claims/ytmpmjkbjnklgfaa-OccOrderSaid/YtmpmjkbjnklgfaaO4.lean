/- Which sets and places may be, which hit comes ahead, whether hits rise (layer 6): walked. -/
import Derived.Test.YtmpmjkbjnklgfaaO3
namespace Go.Proofs.Ytmpmjkbjnklgfaa
open Go.RowKit Go.Sort
set_option linter.unusedVariables false

def mayP (fold : Bool) (wss : List (List Int)) (frm : Int) : Bool := decide (0 ≤ frm ∧ frm ≤ 4611686018427387904) && rightP fold wss

set_option maxHeartbeats 1000000 in
theorem may_any (fold : Bool) (a : Option Addr) (la ca : Nat) (frm : Int) (wss : List (List Int)) (w : World) (hA : Wds w a la wss) (hla : la ≤ 1000000) (hM : ∀ x ∈ wss, x.length ≤ 1000000) (hT : (begL fold wss).length ≤ 1000000) :
    Calls Try.prog 70 #[.agg (setV fold a la ca), .int .i64 frm] w fun e w' => e = .returned (.bool (mayP fold wss frm)) ∧ Below w.heap.size w w' := by
  have hB0 : Below w.heap.size w (w.alloc (.cells (setV fold a la ca) 39)) := (Below.refl _ _).alloc (Nat.le_refl _) _
  by_cases h0 : 0 ≤ frm
  · by_cases h1 : frm ≤ 4611686018427387904
    · have HE : Hid (mayP fold wss frm = rightP fold wss) := by rw [Hid, mayP, decide_eq_true ⟨h0, h1⟩, Bool.true_and]
      go_enter Try.func70, Try.ntmps70
      go_wp2_with fail
      refine (pright_any fold a la ca wss _ (hA.below hB0) hla hM hT).mono ?_
      rintro e w1 ⟨rfl, hb⟩
      go_wp2
      go_ret
      exact ⟨by rw [HE.out]; rfl, hB0.trans (hb.mono (by simp))⟩
    · have HE : Hid (mayP fold wss frm = false) := by rw [Hid, mayP, decide_eq_false (by omega), Bool.false_and]
      go_enter Try.func70, Try.ntmps70
      go_wp2
      go_ret
      exact ⟨by rw [HE.out]; rfl, hB0⟩
  · have HE : Hid (mayP fold wss frm = false) := by rw [Hid, mayP, decide_eq_false (by omega), Bool.false_and]
    go_enter Try.func70, Try.ntmps70
    go_wp2
    go_ret
    exact ⟨by rw [HE.out]; rfl, hB0⟩

abbrev gathV (fold : Bool) (a : Option Addr) (la ca : Nat) (frm : Int) (hits : Value) : Array Value := #[.bool fold, .slice a la ca, .int .i64 frm, hits]

set_option maxHeartbeats 1000000 in
theorem less_any (fold : Bool) (a : Option Addr) (la ca : Nat) (x y : HitP) (wss : List (List Int)) (w : World) (hA : Wds w a la wss) (hla : la ≤ 1000000) :
    Calls Try.prog 33 #[.agg (setV fold a la ca), .agg #[.int .i64 x.1, .int .i64 x.2], .agg #[.int .i64 y.1, .int .i64 y.2]] w fun e w' => e = .returned (.bool (lessH wss x y)) ∧ Below w.heap.size w w' := by
  have hB4 : Below w.heap.size w ((((w.alloc (.cells (setV fold a la ca) 39)).alloc (.cells #[.int .i64 x.1, .int .i64 x.2] 43)).alloc (.cells #[.int .i64 y.1, .int .i64 y.2] 43)).alloc (.cells (gathV fold a la ca 0 (.slice none 0 0)) 94)) :=
    ((((Below.refl _ _).alloc (Nat.le_refl _) _).alloc (by simp) _).alloc (by simp; omega) _).alloc (by simp; omega) _
  have HE : Hid (lessH wss x y = decide (ordH wss x y < 0)) := rfl
  go_enter Try.func33, Try.ntmps33
  go_wp2_with fail
  refine (orderB_any _ x y a la ca wss _ (by simp) (cell_new (by simp) rfl) (hA.below hB4) hla).mono ?_
  rintro e w1 ⟨rfl, hb⟩
  go_wp2
  go_ret
  exact ⟨by rw [HE.out]; rfl, hB4.trans (hb.mono (by simp; omega))⟩

theorem riseH_snoc {wss : List (List Int)} {l : List HitP} {x y : HitP} (h : l.getLast? = some x) : riseH wss (l ++ [y]) = (riseH wss l && lessH wss x y) := by
  induction l with
  | nil => simp at h
  | cons a l ih =>
    cases l with
    | nil =>
      simp at h
      subst h
      simp [riseH]
    | cons b l =>
      have := ih (by simpa using h)
      rw [List.cons_append, List.cons_append]
      simp only [riseH]
      rw [← List.cons_append, this, Bool.and_assoc]
theorem riseH_take {wss : List (List Int)} {l : List HitP} {k : Nat} {x y : HitP} (hx : l[k]? = some x) (hy : l[k + 1]? = some y) : riseH wss (l.take (k + 2)) = (riseH wss (l.take (k + 1)) && lessH wss x y) := by
  rw [take_step (k := k + 1) hy, riseH_snoc]
  rw [take_step hx]
  simp
theorem riseH_no {wss : List (List Int)} {l : List HitP} {k : Nat} (h : riseH wss (l.take k) = false) : riseH wss l = false := by
  cases e : riseH wss l with
  | false => rfl
  | true =>
    have := riseH_pairwise.1 e
    have h2 : riseH wss (l.take k) = true := riseH_pairwise.2 (this.sublist (List.take_sublist _ _))
    rw [h] at h2
    cases h2

set_option maxHeartbeats 2000000 in
theorem orise_any (fold : Bool) (a b : Option Addr) (la ca lb cb : Nat) (l : List HitP) (wss : List (List Int)) (w : World) (hA : Wds w a la wss) (hL : Hts w b lb l) (hla : la ≤ 1000000) (hlb : lb ≤ 4611686018427387904) :
    Calls Try.prog 35 #[.agg (setV fold a la ca), .slice b lb cb] w fun e w' => e = .returned (.bool (riseH wss l)) ∧ Below w.heap.size w w' := by
  have hB0 : Below w.heap.size w (w.alloc (.cells (setV fold a la ca) 39)) := (Below.refl _ _).alloc (Nat.le_refl _) _
  have hnew := World.alloc_heap_new w (.cells (setV fold a la ca) 39)
  have HLN := Lib.hid hL.len
  go_enter Try.func35, Try.ntmps35
  go_wp2
  go_loopw [5] (fun i wr => ∃ k : Nat, (k = 0 ∨ k < lb) ∧ i = .int .i64 ((k : Int) + 1) ∧ Hid (riseH wss (l.take (k + 1)) = true) ∧ Below w.heap.size w wr ∧ wr.heap[w.heap.size]? = some (.cells (setV fold a la ca) 39 (0, 0))) (fun i _ => lb - (intOf i).toNat)
  case atStart =>
    refine ⟨0, .inl rfl, rfl, ?_, hB0, hnew⟩
    cases l <;> simp [Hid, riseH]
  case round =>
    obtain ⟨k, hk, rfl, HK, hBe, hsr⟩ := hrel
    by_cases hlt : k + 1 < lb
    · have hLr := hL.below hBe
      obtain ⟨bb, off, x, rfl, hbl, cx0, cx1, hx, _, _⟩ := hLr.at_ (show k < lb by omega)
      obtain ⟨_, _, y, e, _, cy0, cy1, hy, _, _⟩ := hLr.at_ hlt
      injection e with e
      injection e with e1 e2
      subst e1 e2
      clear hk
      have HS : Hid (riseH wss (l.take (k + 1 + 1)) = lessH wss x y) := by
        have := riseH_take (wss := wss) hx hy
        rw [HK.out, Bool.true_and] at this
        exact this
      have hAr := hA.below hBe
      clear hx hy hLr
      have hszr : w.heap.size < wr.heap.size := (Array.getElem?_eq_some_iff.1 hsr).1
      have s0 : ∀ d os, (grow (redrawn wr d) os).cell? ⟨w.heap.size, 0, none⟩ = some (.bool fold) := fun d os => ((below_regrown wr d os).cell (p := ⟨w.heap.size, 0, none⟩) hszr).trans (by simp [World.cell?, hsr])
      have s1 : ∀ d os, (grow (redrawn wr d) os).cell? ⟨w.heap.size, 1, none⟩ = some (.slice a la ca) := fun d os => ((below_regrown wr d os).cell (p := ⟨w.heap.size, 1, none⟩) hszr).trans (by simp [World.cell?, hsr])
      have x0 : ∀ d os, (grow (redrawn wr d) os).cell? ⟨bb, off + k * 2, none⟩ = some (.int .i64 x.1) := fun d os => ((below_regrown wr d os).cell (p := ⟨bb, off + k * 2, none⟩) hbl).trans cx0
      have x1 : ∀ d os, (grow (redrawn wr d) os).cell? ⟨bb, off + k * 2 + 1, none⟩ = some (.int .i64 x.2) := fun d os => ((below_regrown wr d os).cell (p := ⟨bb, off + k * 2 + 1, none⟩) hbl).trans cx1
      have y0 : ∀ d os, (grow (redrawn wr d) os).cell? ⟨bb, off + (k + 1) * 2, none⟩ = some (.int .i64 y.1) := fun d os => ((below_regrown wr d os).cell (p := ⟨bb, off + (k + 1) * 2, none⟩) hbl).trans cy0
      have y1 : ∀ d os, (grow (redrawn wr d) os).cell? ⟨bb, off + (k + 1) * 2 + 1, none⟩ = some (.int .i64 y.2) := fun d os => ((below_regrown wr d os).cell (p := ⟨bb, off + (k + 1) * 2 + 1, none⟩) hbl).trans cy1
      have hA2 : ∀ d os, Wds (grow (redrawn wr d) os) a la wss := fun d os => hAr.below (below_regrown wr d os)
      clear cx0 cx1 cy0 cy1
      have hd : decide ((k : Int) + 1 < lb) = true := by simp; omega
      go_wp2
      refine wp_region_quiet_below mixed (by kernel_rfl) ?_
      repeat (go_big_quiet_step (exact grown_below (less_any fold a la ca x y wss _ (hA2 _ _) hla)))
      refine wpQuiet_nil ?_
      rintro _ ⟨⟨dq, osq⟩, rfl⟩
      have hBq := below_regrown wr dq osq
      have hB1 : Below w.heap.size w (grow (redrawn wr dq) osq) := hBe.trans (hBq.mono hBe.size)
      have hs1 : (grow (redrawn wr dq) osq).heap[w.heap.size]? = _ := (hBq.block _ hszr).trans hsr
      clear s0 s1 x0 x1 y0 y1 hA2
      cases e : lessH wss x y with
      | true =>
        rw [e] at HS
        go_wp2
        go_roundw
        case rel => exact ⟨k + 1, by omega, by go_num, HS, hB1, hs1⟩
        case measure => simp [intOf]; omega
      | false =>
        rw [e] at HS
        have HN := Lib.hid (riseH_no HS.out)
        go_wp2
        go_ret
        exact ⟨by rw [HN.out]; rfl, hB1⟩
    · have HN : Hid (riseH wss l = true) := by
        have h := HK.out
        rwa [List.take_of_length_le (by rw [HLN.out]; omega)] at h
      go_wp2
      go_ret
      exact ⟨by rw [HN.out]; rfl, hBe⟩

end Go.Proofs.Ytmpmjkbjnklgfaa
