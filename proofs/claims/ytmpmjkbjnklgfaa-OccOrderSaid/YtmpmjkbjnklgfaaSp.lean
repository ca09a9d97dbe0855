/- Plain words of layer 5: the beginnings of words, one byte behind the other; how many there are. -/
import Derived.Test.YtmpmjkbjnklgfaaLp
namespace Go.Proofs.Ytmpmjkbjnklgfaa
set_option linter.unusedVariables false

/-- A word's bytes, the first one marked. -/
def begW : List Int → List (Bool × Int)
  | [] => []
  | c :: cs => (true, c) :: cs.map (fun c => (false, c))
def begL (fold : Bool) (wss : List (List Int)) : List (Bool × Int) := wss.flatMap fun w => begW (foldL fold w)

theorem begW_length (ys : List Int) : (begW ys).length = ys.length := by cases ys <;> simp [begW]
theorem begW_at {ys : List Int} {i : Nat} {c : Int} (h : ys[i]? = some c) : (begW ys)[i]? = some (((i : Int) == 0), c) := by
  cases ys with
  | nil => simp at h
  | cons y ys =>
    cases i with
    | zero => simp at h; simp [begW, h]
    | succ i =>
      simp at h
      simp [begW, h]
      omega
theorem begL_snoc (fold : Bool) (wss : List (List Int)) (x : List Int) : begL fold (wss ++ [x]) = begL fold wss ++ begW (foldL fold x) := by simp [begL]
theorem begL_take_le (fold : Bool) (wss : List (List Int)) {k : Nat} {x : List Int} (h : wss[k]? = some x) : (begL fold (wss.take k)).length + x.length ≤ (begL fold wss).length := by
  have e := split_at h
  have e2 : begL fold wss = begL fold (wss.take k) ++ (begW (foldL fold x) ++ begL fold (wss.drop (k + 1))) := by
    conv => lhs; rw [e]
    simp [begL]
  rw [e2]
  simp [begW_length, foldL_length]
theorem foldL_at {fold : Bool} {xs : List Int} {i : Nat} {c : Int} (h : xs[i]? = some c) : (foldL fold xs)[i]? = some (if fold then foldI c else c) := by
  rw [foldL_map, List.getElem?_map, h]; rfl

/-- The code's way to count: which node stands at which edge, how many there are, at which one is. -/
structure NSt where
  f : Int × Int → Option Int
  many : Int
  node : Int
def nstep (s : NSt) (p : Bool × Int) : NSt :=
  let node := if p.1 then 0 else s.node
  match s.f (node, p.2) with
  | some m => { s with node := m }
  | none => { f := fun q => if q = (node, p.2) then some s.many else s.f q, many := s.many + 1, node := s.many }
def nrun (l : List (Bool × Int)) : NSt := l.foldl nstep ⟨fun _ => none, 1, 0⟩
theorem nrun_snoc (l : List (Bool × Int)) (p : Bool × Int) : nrun (l ++ [p]) = nstep (nrun l) p := by simp [nrun, List.foldl_append]
theorem nstep_found {s : NSt} {p : Bool × Int} {m : Int} (h : s.f (if p.1 then 0 else s.node, p.2) = some m) : nstep s p = { s with node := m } := by
  unfold nstep
  simp only [h]
theorem nstep_new {s : NSt} {p : Bool × Int} (h : s.f (if p.1 then 0 else s.node, p.2) = none) : nstep s p = { f := fun q => if q = (if p.1 then 0 else s.node, p.2) then some s.many else s.f q, many := s.many + 1, node := s.many } := by
  unfold nstep
  simp only [h]
theorem nrun_bd (l : List (Bool × Int)) : 1 ≤ (nrun l).many ∧ (nrun l).many ≤ l.length + 1 ∧ 0 ≤ (nrun l).node ∧ (nrun l).node ≤ l.length ∧ ∀ q m, (nrun l).f q = some m → 0 ≤ m ∧ m ≤ l.length := by
  obtain ⟨n, hn⟩ : ∃ n, l.length = n := ⟨_, rfl⟩
  induction n generalizing l with
  | zero =>
    obtain rfl := List.eq_nil_of_length_eq_zero hn
    simp [nrun]
  | succ n ih =>
    obtain ⟨l', x, rfl⟩ : ∃ l' x, l = l' ++ [x] := ⟨l.dropLast, l.getLast (by intro h; simp [h] at hn), (List.dropLast_concat_getLast _).symm⟩
    obtain ⟨h1, h2, h3, h4, h5⟩ := ih l' (by simpa using hn)
    rw [nrun_snoc]
    unfold nstep
    simp only [List.length_append, List.length_cons, List.length_nil]
    cases e : (nrun l').f (if x.1 = true then 0 else (nrun l').node, x.2) with
    | some m =>
      have := h5 _ _ e
      refine ⟨h1, by dsimp only; omega, this.1, by dsimp only; omega, fun q k hq => ?_⟩
      have := h5 q k hq
      omega
    | none =>
      refine ⟨by dsimp only; omega, by dsimp only; omega, by dsimp only; omega, by dsimp only; omega, fun q k hq => ?_⟩
      dsimp only at hq
      by_cases hqq : q = (if x.1 = true then 0 else (nrun l').node, x.2)
      · rw [if_pos hqq] at hq
        have := Option.some.inj hq
        omega
      · rw [if_neg hqq] at hq
        have := h5 q k hq
        omega

/-- What there is of words: how many, how many bytes, the longest, the shortest. -/
def cstep (c : Int × Int × Int × Int) (x : List Int) : Int × Int × Int × Int :=
  (c.1 + 1, c.2.1 + x.length, max c.2.2.1 x.length, if c.1 = 0 ∨ (x.length : Int) < c.2.2.2 then (x.length : Int) else c.2.2.2)
def cnt (wss : List (List Int)) : Int × Int × Int × Int := wss.foldl cstep (0, 0, 0, 0)
theorem cnt_snoc (l : List (List Int)) (x : List Int) : cnt (l ++ [x]) = cstep (cnt l) x := by simp [cnt, List.foldl_append]
theorem cnt_bd {M : Nat} (l : List (List Int)) (h : ∀ x ∈ l, x.length ≤ M) : (cnt l).1 = l.length ∧ 0 ≤ (cnt l).2.1 ∧ (cnt l).2.1 ≤ l.length * (M : Int) := by
  obtain ⟨n, hn⟩ : ∃ n, l.length = n := ⟨_, rfl⟩
  induction n generalizing l with
  | zero =>
    obtain rfl := List.eq_nil_of_length_eq_zero hn
    simp [cnt]
  | succ n ih =>
    obtain ⟨l', x, rfl⟩ : ∃ l' x, l = l' ++ [x] := ⟨l.dropLast, l.getLast (by intro h; simp [h] at hn), (List.dropLast_concat_getLast _).symm⟩
    obtain ⟨h1, h2, h3⟩ := ih l' (fun y hy => h y (by simp [hy])) (by simpa using hn)
    have hx := h x (by simp)
    rw [cnt_snoc]
    have e : ((l' ++ [x]).length : Int) * (M : Int) = l'.length * (M : Int) + M := by
      rw [List.length_append, List.length_cons, List.length_nil, Int.natCast_add, Int.add_mul]; simp
    rw [e]
    simp only [cstep]
    refine ⟨by rw [h1]; simp, by omega, by omega⟩

/-- The six questions' answers, and the first that is yes. -/
def askB (W Bs Lg Sh N : Int) : Nat → Bool
  | 0 => decide (W = 0)
  | 1 => decide (W > 64)
  | 2 => decide (Sh = 0)
  | 3 => decide (Lg > 32)
  | 4 => decide (Bs > 600)
  | _ => decide (N > 400)
def firstAsk (f : Nat → Bool) : Int := match (List.range 6).find? f with | some k => 50 + k | none => 0
theorem firstAsk_hit {f : Nat → Bool} {k : Nat} (hk : k < 6) (h : ∀ j, j < k → f j = false) (hf : f k = true) : firstAsk f = 50 + k := by
  have : (List.range 6).find? f = some k := by
    have : k = 0 ∨ k = 1 ∨ k = 2 ∨ k = 3 ∨ k = 4 ∨ k = 5 := by omega
    rcases this with rfl | rfl | rfl | rfl | rfl | rfl <;> simp [List.range, List.range.loop, List.find?, hf, h]
  simp [firstAsk, this]
theorem firstAsk_none {f : Nat → Bool} (h : ∀ j, j < 6 → f j = false) : firstAsk f = 0 := by
  simp [firstAsk, List.range, List.range.loop, List.find?, h]
def checkP (fold : Bool) (wss : List (List Int)) : Int := firstAsk (askB (cnt wss).1 (cnt wss).2.1 (cnt wss).2.2.1 (cnt wss).2.2.2 (nrun (begL fold wss)).many)

end Go.Proofs.Ytmpmjkbjnklgfaa
