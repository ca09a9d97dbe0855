/- Plain words of layer 3: bytes folded, texts that are the same, where they stand, which of them. -/
namespace Go.Proofs.Ytmpmjkbjnklgfaa
set_option linter.unusedVariables false

def foldI (x : Int) : Int := if 65 ≤ x ∧ x ≤ 90 then x + 32 else x
def foldL (fold : Bool) (xs : List Int) : List Int := if fold then xs.map foldI else xs
def sameL (fold : Bool) (xs ys : List Int) : Bool := decide (foldL fold xs = foldL fold ys)
def atL (fold : Bool) (text : List Int) (place : Int) (word : List Int) : Bool :=
  decide ((word.length : Int) ≤ place ∧ place ≤ (text.length : Int)) && sameL fold ((text.drop (place.toNat - word.length)).take word.length) word
def whichO (fold : Bool) (text : List Int) (wss : List (List Int)) : Option Nat := wss.findIdx? (fun w => sameL fold text w)
def whichL (fold : Bool) (text : List Int) (wss : List (List Int)) : Int := match whichO fold text wss with | none => -1 | some k => k

theorem foldI_bd {x : Int} (h : 0 ≤ x ∧ x ≤ 255) : 0 ≤ foldI x ∧ foldI x ≤ 255 := by unfold foldI; split <;> omega
theorem foldI_foldI (x : Int) : foldI (foldI x) = foldI x := by unfold foldI; by_cases h : 65 ≤ x ∧ x ≤ 90 <;> simp [h] <;> omega
theorem foldL_length (fold : Bool) (xs : List Int) : (foldL fold xs).length = xs.length := by cases fold <;> simp [foldL]
theorem foldL_foldL (fold : Bool) (xs : List Int) : foldL fold (foldL fold xs) = foldL fold xs := by
  cases fold
  · rfl
  · simp only [foldL, if_true, List.map_map]
    exact List.map_congr_left fun x _ => foldI_foldI x
theorem foldL_bd {fold : Bool} {xs : List Int} (h : ∀ x ∈ xs, 0 ≤ x ∧ x ≤ 255) : ∀ x ∈ foldL fold xs, 0 ≤ x ∧ x ≤ 255 := by
  cases fold
  · exact h
  · intro x hx
    simp only [foldL, if_true, List.mem_map] at hx
    obtain ⟨y, hy, rfl⟩ := hx
    exact foldI_bd (h y hy)
theorem sameL_comm (fold : Bool) (xs ys : List Int) : sameL fold xs ys = sameL fold ys xs := by
  unfold sameL
  by_cases h : foldL fold xs = foldL fold ys
  · simp [h]
  · simp [h]; exact fun e => h e.symm
theorem sameL_length {fold : Bool} {xs ys : List Int} (h : sameL fold xs ys = true) : xs.length = ys.length := by
  have := of_decide_eq_true h
  have h2 := congrArg List.length this
  rwa [foldL_length, foldL_length] at h2
theorem sameL_ne {fold : Bool} {xs ys : List Int} (h : xs.length ≠ ys.length) : sameL fold xs ys = false := by
  cases e : sameL fold xs ys with
  | false => rfl
  | true => exact absurd (sameL_length e) h

/-- One byte against another. -/
def sameI (fold : Bool) (x y : Int) : Bool := if fold then decide (foldI x = foldI y) else decide (x = y)
theorem foldL_map (fold : Bool) (xs : List Int) : foldL fold xs = xs.map (fun x => if fold then foldI x else x) := by cases fold <;> simp [foldL]
theorem sameL_zip {fold : Bool} : ∀ {xs ys : List Int}, xs.length = ys.length → (sameL fold xs ys = true ↔ ∀ p ∈ xs.zip ys, sameI fold p.1 p.2 = true)
  | [], [], _ => by simp [sameL]
  | x :: xs, y :: ys, h => by
    have ih := sameL_zip (fold := fold) (xs := xs) (ys := ys) (by simpa using h)
    unfold sameL at ih ⊢
    rw [foldL_map, foldL_map] at ih ⊢
    simp only [decide_eq_true_eq] at ih ⊢
    simp only [List.map_cons, List.cons.injEq, List.zip_cons_cons, List.mem_cons, forall_eq_or_imp, ih]
    cases fold <;> simp [sameI]
  | [], _ :: _, h => by simp at h
  | _ :: _, [], h => by simp at h

theorem whichL_nil (fold : Bool) (text : List Int) : whichL fold text [] = -1 := rfl
theorem whichL_snoc_no {fold : Bool} {text : List Int} {wss : List (List Int)} {y : List Int} (h : whichL fold text wss = -1) (hy : sameL fold text y = false) : whichL fold text (wss ++ [y]) = -1 := by
  unfold whichL whichO at h ⊢
  rw [List.findIdx?_append]
  cases e : wss.findIdx? (fun w => sameL fold text w) with
  | none => simp [hy]
  | some k => rw [e] at h; simp at h
theorem whichL_hit {fold : Bool} {text : List Int} {wss rest : List (List Int)} {y : List Int} (h : whichL fold text wss = -1) (hy : sameL fold text y = true) : whichL fold text (wss ++ y :: rest) = wss.length := by
  unfold whichL whichO at h ⊢
  rw [List.findIdx?_append]
  cases e : wss.findIdx? (fun w => sameL fold text w) with
  | none => simp [hy, List.findIdx?_cons]
  | some k => rw [e] at h; simp at h
theorem whichL_bd (fold : Bool) (text : List Int) (wss : List (List Int)) : -1 ≤ whichL fold text wss ∧ whichL fold text wss < wss.length := by
  unfold whichL whichO
  cases e : wss.findIdx? (fun w => sameL fold text w) with
  | none => simp; omega
  | some k =>
    have := (List.findIdx?_eq_some_iff_getElem.1 e).1
    simp; omega

theorem take_step {α : Type} {xs : List α} {k : Nat} {z : α} (h : xs[k]? = some z) : xs.take (k + 1) = xs.take k ++ [z] := by
  rw [List.take_add_one, h]; rfl
theorem split_at {α : Type} {xs : List α} {k : Nat} {z : α} (h : xs[k]? = some z) : xs = xs.take k ++ z :: xs.drop (k + 1) := by
  have hk := (List.getElem?_eq_some_iff.1 h)
  obtain ⟨hlt, rfl⟩ := hk
  rw [← List.drop_eq_getElem_cons hlt, List.take_append_drop]

def longL (wss : List (List Int)) : Int := wss.foldl (fun n w => max n (w.length : Int)) 0
theorem longL_snoc (l : List (List Int)) (x : List Int) : longL (l ++ [x]) = max (longL l) (x.length : Int) := by simp [longL, List.foldl_append]

end Go.Proofs.Ytmpmjkbjnklgfaa
