/- What there is of a list's words, and the errors that are asked (layer 5), walked. -/
import Derived.Test.YtmpmjkbjnklgfaaS2
import Derived.Lib.MinMax
namespace Go.Proofs.Ytmpmjkbjnklgfaa
open Go.RowKit Go.Sort
set_option linter.unusedVariables false

/-- The list that is looked at, as it lies. -/
abbrev lookV (W Bs Lg Sh : Int) (f sl : Value) : Array Value := #[.int .i64 W, .int .i64 Bs, .int .i64 Lg, .int .i64 Sh, f, sl]
theorem look_cells {w : World} {b : Nat} {t : TypeId} {W Bs Lg Sh : Int} {f sl : Value} (h : w.heap[b]? = some (.cells (lookV W Bs Lg Sh f sl) t (0, 0))) :
    w.cell? ⟨b, 0, none⟩ = some (.int .i64 W) ∧ w.cell? ⟨b, 1, none⟩ = some (.int .i64 Bs) ∧ w.cell? ⟨b, 2, none⟩ = some (.int .i64 Lg) ∧ w.cell? ⟨b, 3, none⟩ = some (.int .i64 Sh) ∧ w.cell? ⟨b, 4, none⟩ = some f ∧ w.cell? ⟨b, 5, none⟩ = some sl ∧
    w.frozen? ⟨b, 0, none⟩ = false ∧ w.frozen? ⟨b, 1, none⟩ = false ∧ w.frozen? ⟨b, 2, none⟩ = false ∧ w.frozen? ⟨b, 3, none⟩ = false := by
  simp [World.cell?, World.frozen?, h]
theorem set_at {w : World} {b i : Nat} {cs : Array Value} {t : TypeId} (h : w.heap[b]? = some (.cells cs t (0, 0))) (u : Value) : (w.setCell ⟨b, i, none⟩ u).heap[b]? = some (.cells (cs.setIfInBounds i u) t (0, 0)) := by
  simp [World.setCell, Array.getElem?_modify, h]
theorem grown_set2 (W : World) (g i : Nat) (u : Value) : W.grownBy (W.setCell ⟨g, i, none⟩ u) (some g) :=
  ⟨rfl, rfl, rfl, by simp [World.setCell], fun k _ hne => Below.heap_setCell W ⟨g, i, none⟩ u k (by intro e; exact hne (by rw [e]))⟩

set_option maxHeartbeats 1000000 in
theorem count_any (b : Nat) (W Bs Lg Sh : Int) (f sl : Value) (a : Option Addr) (l c : Nat) (w : World) (hb : w.heap[b]? = some (.cells (lookV W Bs Lg Sh f sl) 200 (0, 0)))
    (h1 : 0 ≤ W) (h2 : W ≤ 1000000) (h3 : 0 ≤ Bs) (h4 : Bs ≤ 1000000000000) (h5 : l ≤ 1000000) :
    Calls Try.prog 169 #[.pointer (some ⟨b, 0, none⟩), .slice a l c] w fun e w' => (∃ v, e = .returned v) ∧
      w'.heap[b]? = some (.cells (lookV (W + 1) (Bs + l) (max Lg l) (if W = 0 ∨ (l : Int) < Sh then l else Sh) f sl) 200 (0, 0)) ∧ w.grownBy w' (some b) := by
  obtain ⟨c0, c1, c2, c3, c4, c5, f0, f1, f2, f3⟩ := look_cells hb
  obtain ⟨M, hM⟩ : ∃ M, (if W = 0 ∨ (l : Int) < Sh then (l : Int) else Sh) = M := ⟨_, rfl⟩
  have HM : Hid ((if W = 0 ∨ (l : Int) < Sh then (l : Int) else Sh) = M) := hM
  rw [hM]
  clear hM
  by_cases hW : W = 0
  · subst hW
    obtain rfl : (l : Int) = M := by rw [← HM.out, if_pos (.inl rfl)]
    go_enter Try.func169, Try.ntmps169
    go_wp2
    go_end0
    refine ⟨⟨_, rfl⟩, ?_, (((grown_set2 _ _ _ _).trans (grown_set2 _ _ _ _)).trans (grown_set2 _ _ _ _)).trans (grown_set2 _ _ _ _)⟩
    simpa using set_at (i := 1) (set_at (i := 0) (set_at (i := 2) (set_at (i := 3) hb (.int .i64 l)) (.int .i64 (max Lg l))) (.int .i64 1)) (.int .i64 (Bs + l))
  · by_cases hS : (l : Int) < Sh
    · obtain rfl : (l : Int) = M := by rw [← HM.out, if_pos (.inr hS)]
      go_enter Try.func169, Try.ntmps169
      go_wp2
      go_end0
      refine ⟨⟨_, rfl⟩, ?_, (((grown_set2 _ _ _ _).trans (grown_set2 _ _ _ _)).trans (grown_set2 _ _ _ _)).trans (grown_set2 _ _ _ _)⟩
      simpa using set_at (i := 1) (set_at (i := 0) (set_at (i := 2) (set_at (i := 3) hb (.int .i64 l)) (.int .i64 (max Lg l))) (.int .i64 (W + 1))) (.int .i64 (Bs + l))
    · obtain rfl : Sh = M := by rw [← HM.out, if_neg (by omega)]
      go_enter Try.func169, Try.ntmps169
      go_wp2
      go_end0
      refine ⟨⟨_, rfl⟩, ?_, ((grown_set2 _ _ _ _).trans (grown_set2 _ _ _ _)).trans (grown_set2 _ _ _ _)⟩
      simpa using set_at (i := 1) (set_at (i := 0) (set_at (i := 2) hb (.int .i64 (max Lg l))) (.int .i64 (W + 1))) (.int .i64 (Bs + l))

/-- The six questions. -/
def askFn : Nat → FuncId
  | 0 => 187
  | 1 => 188
  | 2 => 189
  | 3 => 190
  | 4 => 191
  | _ => 192
theorem askFn_enters (k : Nat) (args : Array Value) (w : World) : Sem.run Try.prog (callFunc (askFn k) args) w = .ok (.enter (askFn k) args) w := by
  unfold askFn
  split
  · exact enters_of Try.func187 (by kernel_rfl) rfl args w
  · exact enters_of Try.func188 (by kernel_rfl) rfl args w
  · exact enters_of Try.func189 (by kernel_rfl) rfl args w
  · exact enters_of Try.func190 (by kernel_rfl) rfl args w
  · exact enters_of Try.func191 (by kernel_rfl) rfl args w
  · exact enters_of Try.func192 (by kernel_rfl) rfl args w

section
variable (p b : Nat) (W Bs Lg Sh : Int) (fold : Bool) (a : Option Addr) (la ca : Nat) (w : World) (hp : Boxed w p 221 (.pointer (some ⟨b, 0, none⟩))) (hb : w.heap[b]? = some (.cells (lookV W Bs Lg Sh (.bool fold) (.slice a la ca)) 200 (0, 0)))
include hp hb
theorem ask1_any : Calls Try.prog 187 #[.pointer (some ⟨p, 0, none⟩)] w fun e w' => e = .returned (.bool (decide (W = 0))) ∧ w = w' := by
  have cp := hp.cell
  obtain ⟨c0, c1, c2, c3, c4, c5, f0, f1, f2, f3⟩ := look_cells hb
  go_enter Try.func187, Try.ntmps187
  go_wp2
  go_ret
  exact ⟨rfl, rfl⟩
theorem ask2_any : Calls Try.prog 188 #[.pointer (some ⟨p, 0, none⟩)] w fun e w' => e = .returned (.bool (decide (W > 64))) ∧ w = w' := by
  have cp := hp.cell
  obtain ⟨c0, c1, c2, c3, c4, c5, f0, f1, f2, f3⟩ := look_cells hb
  go_enter Try.func188, Try.ntmps188
  go_wp2
  go_ret
  exact ⟨rfl, rfl⟩
theorem ask3_any : Calls Try.prog 189 #[.pointer (some ⟨p, 0, none⟩)] w fun e w' => e = .returned (.bool (decide (Sh = 0))) ∧ w = w' := by
  have cp := hp.cell
  obtain ⟨c0, c1, c2, c3, c4, c5, f0, f1, f2, f3⟩ := look_cells hb
  go_enter Try.func189, Try.ntmps189
  go_wp2
  go_ret
  exact ⟨rfl, rfl⟩
theorem ask4_any : Calls Try.prog 190 #[.pointer (some ⟨p, 0, none⟩)] w fun e w' => e = .returned (.bool (decide (Lg > 32))) ∧ w = w' := by
  have cp := hp.cell
  obtain ⟨c0, c1, c2, c3, c4, c5, f0, f1, f2, f3⟩ := look_cells hb
  go_enter Try.func190, Try.ntmps190
  go_wp2
  go_ret
  exact ⟨rfl, rfl⟩
theorem ask5_any : Calls Try.prog 191 #[.pointer (some ⟨p, 0, none⟩)] w fun e w' => e = .returned (.bool (decide (Bs > 600))) ∧ w = w' := by
  have cp := hp.cell
  obtain ⟨c0, c1, c2, c3, c4, c5, f0, f1, f2, f3⟩ := look_cells hb
  go_enter Try.func191, Try.ntmps191
  go_wp2
  go_ret
  exact ⟨rfl, rfl⟩
theorem ask6_any (wss : List (List Int)) (hA : Wds w a la wss) (hla : la ≤ 1000000) (hM : ∀ x ∈ wss, x.length ≤ 1000000) (hT : (begL fold wss).length ≤ 1000000) :
    Calls Try.prog 192 #[.pointer (some ⟨p, 0, none⟩)] w fun e w' => e = .returned (.bool (decide ((nrun (begL fold wss)).many > 400))) ∧ Below w.heap.size w w' := by
  have cp := hp.cell
  obtain ⟨c0, c1, c2, c3, c4, c5, f0, f1, f2, f3⟩ := look_cells hb
  have kp := cell_regrown cp
  have k4 := cell_regrown c4
  have k5 := cell_regrown c5
  have cN : ∀ d os, Calls Try.prog 193 #[.bool fold, .slice a la ca] (grow (redrawn w d) os) fun e w'' => e = .returned (.int .i64 (nrun (begL fold wss)).many) ∧ ∃ p : Regrown, w'' = grow (redrawn w p.d) p.os :=
    fun d os => Calls.regrown_of (nodes_any fold a la ca wss _ (hA.below (below_regrown w d os)) hla hM hT)
  go_enter Try.func192, Try.ntmps192
  go_wp2
  refine wp_region_quiet_below mixed (by kernel_rfl) ?_
  repeat (go_big_quiet_step (exact cN _ _))
  refine wpQuiet_nil ?_
  rintro _ ⟨⟨dq, osq⟩, rfl⟩
  go_wp2
  go_ret
  exact ⟨rfl, below_regrown _ dq osq⟩
end

end Go.Proofs.Ytmpmjkbjnklgfaa
