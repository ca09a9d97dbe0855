/- Parts of the proof, one behind the other: E2, Rx, E3, E4, E5, E6, E8, YN, YR, G8, MI, Ot, R1, R2. No condition but what each theorem states. -/
import Derived.RangeFuncWrites
import Derived.Deep.CutBlock
import Derived.Test.YtbldfgaogmfoaaaGreatZP2
import Derived.Test.YtbldfgaogmfoaaaGreatZP3
import Derived.Test.YtbldfgaogmfoaaaGreatZP4
import Derived.Test.YtbldfgaogmfoaaaGreatZP5
import Derived.Test.YtbldfgaogmfoaaaGreatZP6
import Derived.Test.YtbldfgaogmfoaaaGreatZP7
import Derived.Test.YtbldfgaogmfoaaaGreatZP8
import Derived.Test.YtbldfgaogmfoaaaGreatZP9
import Derived.Test.YtbldfgaogmfoaaaGreatZP10
import Derived.Test.YtbldfgaogmfoaaaGreatZP11
import Derived.Test.YtbldfgaogmfoaaaGreatZP12
import Derived.Test.YtbldfgaogmfoaaaGreatZP13
set_option linter.unusedVariables false
set_option linter.unusedSimpArgs false

/- Streams (layer 14): what happens when a byte comes; walked. Printed by exp.py. -/

namespace Go.Proofs.YtbldfgaogmfoaaaGreat
open Go.RowKit Go.Sort

theorem Wds.keep {W V : World} {a : Option Addr} {n : Nat} {wss : List (List Int)} (h : Wds W a n wss) (hk : ∀ k, k < W.heap.size → V.heap[k]? = W.heap[k]?) (hs : W.heap.size ≤ V.heap.size) : Wds V a n wss := by
 obtain ⟨vs, e1, e2, e3⟩ := h
 exact ⟨vs, e1.kept hk hs, e2, fun i v xs hv hx => ⟨⟨(e3 i v xs hv hx).1.1.kept hk hs, (e3 i v xs hv hx).1.2⟩, (e3 i v xs hv hx).2⟩⟩
theorem MUse.keep {W0 W V : World} {B : Nat} {fold : Bool} {wss : List (List Int)} (h : MUse W0 B fold wss W) (hk : ∀ k, k < W.heap.size → V.heap[k]? = W.heap[k]?) (hs : W.heap.size ≤ V.heap.size) : MUse V B fold wss V := by
 obtain ⟨⟨R, la, ca, wc, a, wa, h1, h2⟩, h3, h4, h5, h6, h7⟩ := h
 obtain ⟨vs, l1, l2, l3⟩ := h1.lls
 exact ⟨⟨R, la, ca, wc, a, wa, ⟨⟨(hk B h1.mc.lt).trans h1.mc.box, h1.mc.len⟩, (hk R h1.row.lt).trans h1.row, h1.wds.keep hk hs, vs, l1.kept hk hs, l2, fun i v xs hv hx => ⟨(l3 i v xs hv hx).1.kept hk hs, (l3 i v xs hv hx).2⟩⟩, h2⟩, h3, h4, h5, h6, Below.refl _ _⟩

end Go.Proofs.YtbldfgaogmfoaaaGreat

/- Ranging over a function that writes cells of its own between two rounds: as XRw, but how its blocks may turn is told of both worlds, and what it leaves behind is told of the last one. -/

namespace Go.Proofs.YtbldfgaogmfoaaaGreat
open Go Go.RowKit Go.Sort

/-- It abides growth, the turn of a walk beyond B, and the turn of a block of the iterator's own. -/
def AbidesX {β : Type} (B : Nat) (Pb : Nat → World → World → Prop) (J : β → World → Prop) : Prop :=
 ∀ (s : β) (W W' : World) (row : Option Nat), J s W → W.grownBy W' row → (∀ r, row = some r → (B ≤ r ∧ ∃ o : Obj, W.heap[r]? = some o ∧ o.isWalk = true) ∨ Pb r W W') → J s W'
/-- It abides growth, the turn of what is no cells beyond B, and the turn of a block of the iterator's own. -/
def OwnsX {β : Type} (B : Nat) (Pb : Nat → World → World → Prop) (I : β → World → Prop) : Prop :=
 ∀ (s : β) (W W' : World) (row : Option Nat), I s W → W.grownBy W' row → (∀ r, row = some r → (B ≤ r ∧ ∃ o : Obj, W.heap[r]? = some o ∧ o.isCells = false) ∨ Pb r W W') → I s W'
/-- The contract of an iterator that may write its own blocks. -/
def SeqStopsX {α : Type} (F : Fence) (n : Nat) (P : Program) (g : Nat) (lb : Array Value) (encs : α → Array Value) (Kp : World → World → Prop) (Pb : Nat → World → World → Prop) (S : List α → World → Prop) (Sp : List α → Prop) (N : Nat) (w : World) : Prop :=
 ∀ (l : Nat) (J Jx : List α → World → Prop) (W : World), Below w.heap.size w W → AbidesX W.heap.size Pb J → AbidesX W.heap.size Pb Jx →
  (∀ pre x W1, J pre W1 → pre.length < N → YieldAt F (n - 1) P l (encs x) W1 fun e W' => (e = .returned (.bool true) ∧ J (pre ++ [x]) W' ∧ Kp W1 W') ∨ (e = .returned (.bool false) ∧ Jx (pre ++ [x]) W')) →
  J [] W →
  CallsIn F n P g (#[.func (.yield l) #[] #[]] ++ lb) W fun e W' => (∃ v, e = .returned v) ∧ ((∃ xs, S xs W' ∧ J xs W') ∨ (∃ pre, Sp pre ∧ Jx pre W'))

theorem OwnsX.of {β : Type} {B : Nat} {Pb : Nat → World → World → Prop} {I : β → World → Prop} (h : OwnFrom B I) (h2 : ∀ (s : β) (W W' : World) (r : Nat), I s W → Pb r W W' → W.grownBy W' (some r) → I s W') : OwnsX B Pb I := by
 intro s W W' row hs hg hr
 cases row with
 | none => exact h s W W' none hs hg (fun r e => by cases e)
 | some r =>
  rcases hr r rfl with h3 | h3
  · exact h s W W' _ hs hg (fun q e => by cases e; exact h3)
  · exact h2 s W W' r hs h3 hg
theorem OwnsX.and {β : Type} {B : Nat} {Pb : Nat → World → World → Prop} {I I' : β → World → Prop} (h : OwnsX B Pb I) (h' : OwnsX B Pb I') : OwnsX B Pb (fun s W => I s W ∧ I' s W) := fun s W W' row hs hg hr => ⟨h s W W' row hs.1 hg hr, h' s W W' row hs.2 hg hr⟩
theorem OwnsX.pure {β : Type} (B : Nat) (Pb : Nat → World → World → Prop) (p : β → Prop) : OwnsX B Pb (fun s (_ : World) => p s) := fun s W W' row hs _ _ => hs
theorem OwnsX.box {β : Type} (B : Nat) (Pb : Nat → World → World → Prop) (b : Nat) (t : TypeId) (f : β → Value) (hb : ∀ W W', ¬ Pb b W W') : OwnsX B Pb (fun s W => Boxed W b t (f s)) := fun s W W' row hs hg hr =>
 (hg.block b (Array.getElem?_eq_some_iff.1 hs).1 (fun e => by
  rcases hr b e.symm with ⟨_, o, ho, hc⟩ | h
  ·
   have hs' : W.heap[b]? = some (.cells #[f s] t (0, 0)) := hs
   rw [hs'] at ho; cases ho; cases hc
  · exact hb _ _ h)).trans hs
theorem OwnsX.below {β : Type} {B n₀ : Nat} {Pb : Nat → World → World → Prop} {w : World} (hB : n₀ ≤ B) (hn : n₀ ≤ w.heap.size) (hP : ∀ r W W', Pb r W W' → n₀ ≤ r) : OwnsX B Pb (fun (_ : β) W => Below n₀ w W) := fun s W W' row hs hg hr =>
 hs.grown hg (Nat.le_trans hn hs.size) (fun k e => by rcases hr k e with ⟨h, _⟩ | h; exact Nat.le_trans hB h; exact hP k _ _ h)
theorem OwnsX.size {β : Type} (B : Nat) (Pb : Nat → World → World → Prop) (n : Nat) : OwnsX B Pb (fun (_ : β) W => n ≤ W.heap.size) := fun s W W' row hs hg _ => Nat.le_trans hs hg.size
theorem OwnsX.block {β : Type} (B : Nat) (Pb : Nat → World → World → Prop) (b : Nat) (cs : β → Array Value) (t : TypeId) (fr : Nat × Nat) (hb : ∀ W W', ¬ Pb b W W') : OwnsX B Pb (fun s W => W.heap[b]? = some (.cells (cs s) t fr)) := fun s W W' row hs hg hr =>
 (hg.block b (Array.getElem?_eq_some_iff.1 hs).1 (fun e => by
  rcases hr b e.symm with ⟨_, o, ho, hc⟩ | h
  ·
   have hs' : W.heap[b]? = some (.cells (cs s) t fr) := hs
   rw [hs'] at ho; cases ho; cases hc
  · exact hb _ _ h)).trans hs
theorem abides_x {β : Type} {B : Nat} {Pb : Nat → World → World → Prop} {J : β → World → Prop} (h : AbidesX B Pb J) {s : β} {w w' : World} (hj : J s w) (hb : Below w.heap.size w w') : J s w' :=
 h s w w' none hj (grownBy_of_below hb) (fun r e => by cases e)
theorem abides_xp {β : Type} {B : Nat} {Pb : Nat → World → World → Prop} {J : β → World → Prop} (h : AbidesX B Pb J) {s : β} {w : World} (hj : J s w) {p : Nat} (i : Nat) (u : Value) (hp : Pb p w (w.setCell ⟨p, i, none⟩ u)) : J s (w.setCell ⟨p, i, none⟩ u) :=
 h s w _ (some p) hj ⟨rfl, rfl, rfl, by simp, fun k _ hk => Below.heap_setCell w ⟨p, i, none⟩ u k (fun e => hk (by rw [e]))⟩ (fun r e => by cases e; exact .inr hp)

/-- Of two worlds blocks of cells are the same. -/
def CellsEq (A B : World) : Prop := B.heap.size = A.heap.size ∧ ∀ (k : Nat) (cs : Array Value) (t : TypeId) (f : Nat × Nat), A.heap[k]? = some (Obj.cells cs t f) → B.heap[k]? = some (Obj.cells cs t f)

set_option maxHeartbeats 1000000 in
theorem rangeX {P : Program} {α : Type} {g : Operand} {ps : Array Tmp} {assign body : Code} {Q : Exit → Act → World → Prop} {a : Act} {w : World} {gf : Nat} {lb : Array Value}
  (hg : a.eval g = .func (.func gf) #[] lb) (eg : ∀ args w, (callFunc gf args).run P w = .ok (.enter gf args) w)
  {encs : α → Array Value} {Kp : World → World → Prop} {Pb : Nat → World → World → Prop} {S : List α → World → Prop} {Sp : List α → Prop} {N : Nat} (hseq : SeqStopsX Fence.wide 8 P gf lb encs Kp Pb S Sp N w) (hPb : ∀ r W W', Pb r W W' → r < w.heap.size) (hSk : ∀ (xs : List α) (W : World) (l : Nat) (o o' : Obj), w.heap.size ≤ l → W.heap[l]? = some o → o.isCells = false → S xs W → S xs (W.putObj l o'))
  (hKt : ∀ {A B C : World}, Kp A B → Kp B C → Kp A C) (hKb : ∀ (W : World) (l : Nat) (o o' : Obj), w.heap.size ≤ l → W.heap[l]? = some o → o.isCells = false → o.isWalk = false → Kp W (W.putObj l o')) (hps : ∀ x, (encs x).size = ps.size)
  (I : List α → World → Prop) (Ix : Code → List α → World → Prop) (hI : OwnsX w.heap.size Pb I) (hIx : ∀ c, OwnsX w.heap.size Pb (Ix c)) (h0 : I [] w) (a₁ : α → World → Act) (wA : α → World → World) (hwA : ∀ x W, Below W.heap.size W (wA x W)) (hKg : ∀ x W, w.heap.size ≤ W.heap.size → Kp W (wA x W))
  (hassign : ∀ (l : Nat) (x : α) (W : World) (K : Act → World → Prop), K (a₁ x W) (wA x W) →
   assign.wpIn (Fence.wide.inRound l) 7 P (Exit.then K (fun _ _ _ => False)) { tmps := (ps.zip (encs x)).foldl (fun t (p, v) => t.setIfInBounds p v) a.tmps, defers := [] } W)
  (hbody : ∀ (l : Nat) (pre : List α) (x : α) (W V : World), CellsEq (wA x W) V → I pre V → pre.length < N → body.wpIn (Fence.wide.inRound l) 7 P (ownPostG w.heap.size Kp I Ix (pre ++ [x]) V) (a₁ x W) V)
  (hdone : ∀ (D : Nat) (xs : List α) (W : World), w.heap.size ≤ D → S xs W → I xs W → W.heap[D]? = some (.deferred (some [])) → Q .normal { a with defers := { target := .collected D, args := #[] } :: a.defers } W)
  (hstop : ∀ (D : Nat) (c : Code) (pre : List α) (W : World), w.heap.size ≤ D → Sp pre → Ix c pre W → W.heap[D]? = some (.deferred (some [])) → c.wp P Q { a with defers := { target := .collected D, args := #[] } :: a.defers } W) :
  (Code.rangeFunc g ps assign body).wp P Q a w := by
 refine (wpIn_wide (n := 9)).1 (wpIn_rangeFunc fun fn hfn => ?_)
 -- the loop's record, and where it and the block for the rounds' deferred calls lie
 let rec_ : LoopState → Option Code → Loop := fun st pe => { state := st, pending := pe, fn, tmps := a.tmps, params := ps, assign, body, defers := w.heap.size }
 have hrec : ∀ st pe, rec_ st pe = { state := st, pending := pe, fn, tmps := a.tmps, params := ps, assign, body, defers := w.heap.size } := fun _ _ => rfl
 clear_value rec_
 have put : ∀ {J : List α → World → Prop}, OwnsX w.heap.size Pb J → ∀ {s : List α} {W : World} {q : Nat} {o : Obj} (o' : Obj), J s W → w.heap.size ≤ q → W.heap[q]? = some o → o.isCells = false → J s (W.putObj q o') := fun hJ _ W q o o' hs hq ho hc =>
  hJ _ _ _ _ hs (grownBy_putObj' W q o') (fun r e => by cases e; exact .inl ⟨hq, o, ho, hc⟩)
 have al : ∀ {J : List α → World → Prop}, OwnsX w.heap.size Pb J → ∀ {s : List α} {W : World} (o : Obj), J s W → J s (W.alloc o) := fun hJ _ W o hs => hJ _ _ _ none hs (World.grownBy_alloc W o none) (fun r e => by cases e)
 obtain ⟨W1, hW1⟩ : ∃ W1, (w.alloc (.deferred (some []))).alloc (.loop (rec_ .ready none)) = W1 := ⟨_, rfl⟩
 have hL1 : W1.heap[w.heap.size + 1]? = some (.loop (rec_ .ready none)) := by
  rw [← hW1]; have := World.alloc_heap_new (w.alloc (.deferred (some []))) (.loop (rec_ .ready none)); rwa [World.size_alloc] at this
 have hK1 : W1.heap[w.heap.size]? = some (.deferred (some [])) := by
  rw [← hW1]; exact (Below.heap_alloc _ _ _ (by simp)).trans (World.alloc_heap_new w _)
 have hI1 : I [] W1 := by rw [← hW1]; exact al hI _ (al hI _ h0)
 have hb1 : Below w.heap.size w W1 := by rw [← hW1]; exact ((Below.refl _ w).alloc (Nat.le_refl _) _).alloc (by simp) _
 have hsz1 : W1.heap.size = w.heap.size + 1 + 1 := by rw [← hW1]; simp
 refine ⟨w.heap.size + 1, [{ target := .collected w.heap.size, args := #[] }], W1, { target := .fn (.func gf) lb, args := #[.func (.yield (w.heap.size + 1)) #[] #[]] }, W1, gf,
  #[.func (.yield (w.heap.size + 1)) #[] #[]] ++ lb, W1, ?_, ?_, ?_, ?_, fun _ => (by decide), ?_⟩
 · rw [← hW1, hrec]; exact run_enterLoop_outer _ _ _ _ _
 ·
  simp only [resolve, hg]
  simp [go_sem]
 · intro f' hf'; trivial
 · simp [invoke, go_sem, eg]
 ·
  -- a turn that the iterator may do turns neither the record nor the other block
  have stays : ∀ {A B : World} {row : Option Nat}, A.grownBy B row → (∀ r, row = some r → (W1.heap.size ≤ r ∧ ∃ o : Obj, A.heap[r]? = some o ∧ o.isWalk = true) ∨ Pb r A B) → ∀ q, w.heap.size ≤ q → q < W1.heap.size → ∀ o, A.heap[q]? = some o → B.heap[q]? = some o := fun hg' hr q h1 h2 o ho =>
   (hg'.block q (Array.getElem?_eq_some_iff.1 ho).1 (fun e => by
    rcases hr q e.symm with ⟨h, _⟩ | h
    · omega
    · have := hPb q _ _ h; omega)).trans ho
  have own : ∀ {A B : World} {row : Option Nat}, (∀ r, row = some r → (W1.heap.size ≤ r ∧ ∃ o : Obj, A.heap[r]? = some o ∧ o.isWalk = true) ∨ Pb r A B) → ∀ r, row = some r → (w.heap.size ≤ r ∧ ∃ o : Obj, A.heap[r]? = some o ∧ o.isCells = false) ∨ Pb r A B := fun hr r e => by
   rcases hr r e with ⟨h, o, ho, hw⟩ | h
   · exact .inl ⟨by omega, o, ho, Obj.not_cells_of_walk hw⟩
   · exact .inr h
  refine (hseq (w.heap.size + 1)
   (fun pre W => I pre W ∧ W.heap[w.heap.size + 1]? = some (.loop (rec_ .ready none)) ∧ W.heap[w.heap.size]? = some (.deferred (some [])))
   (fun pre W => ∃ c, Ix c pre W ∧ W.heap[w.heap.size + 1]? = some (.loop (rec_ .done (some c))) ∧ W.heap[w.heap.size]? = some (.deferred (some [])))
   W1 hb1
   (fun s A B row hs hg' hr => ⟨hI s A B row hs.1 hg' (own hr), stays hg' hr _ (by omega) (by omega) _ hs.2.1, stays hg' hr _ (by omega) (by omega) _ hs.2.2⟩)
   (fun s A B row hs hg' hr => by
    obtain ⟨c, hc, hl, hk⟩ := hs
    exact ⟨c, hIx c s A B row hc hg' (own hr), stays hg' hr _ (by omega) (by omega) _ hl, stays hg' hr _ (by omega) (by omega) _ hk⟩)
   ?_ ⟨hI1, hL1, hK1⟩).mono ?_
  ·
   rintro pre x W ⟨hi, hl, hk⟩ hlen
   have hlt : w.heap.size + 1 < W.heap.size := (Array.getElem?_eq_some_iff.1 hl).1
   have hy := run_yield (P := P) (args := encs x) hl (by rw [hrec]; exact hps x)
   rw [hrec] at hy
   obtain ⟨WA, hWA⟩ : ∃ X, wA x W = X := ⟨_, rfl⟩
   have hbA : Below W.heap.size W WA := by rw [← hWA]; exact hwA x W
   have hlA : WA.heap[w.heap.size + 1]? = some (.loop (rec_ .ready none)) := (hbA.block _ hlt).trans hl
   have hkA : WA.heap[w.heap.size]? = some (.deferred (some [])) := (hbA.block _ (by omega)).trans hk
   have hiA : I pre WA := hI _ _ _ none hi (grownBy_of_below hbA) (fun r e => by cases e)
   have hKA : Kp W WA := by rw [← hWA]; exact hKg x W (by omega)
   have hltA : w.heap.size + 1 < WA.heap.size := (Array.getElem?_eq_some_iff.1 hlA).1
   refine ⟨fn, _, assign, body, hy, roundIn_of_wpIn hfn (hassign _ x W _ ?_)⟩
   rw [hWA]
   refine ⟨_, run_beginRound hlA (by rw [hrec]), ?_⟩
   obtain ⟨V, hV⟩ : ∃ V, WA.putObj (w.heap.size + 1) (.loop { rec_ .ready none with state := .busy }) = V := ⟨_, rfl⟩
   rw [hV]
   have hl2 : V.heap[w.heap.size + 1]? = some (.loop { rec_ .ready none with state := .busy }) := by rw [← hV]; exact World.putObj_heap_same hltA
   have hk2 : V.heap[w.heap.size]? = some (.deferred (some [])) := by rw [← hV]; exact (World.putObj_heap_other (by omega)).trans hkA
   have hw2 : Kp W V := by rw [← hV]; exact hKt hKA (hKb _ _ _ _ (by omega) hlA rfl rfl)
   have hiV : I pre V := by rw [← hV]; exact put hI _ hiA (by omega) hlA rfl
   have hCE : CellsEq (wA x W) V := by
    rw [hWA, ← hV]
    refine ⟨by simp [World.putObj], fun k cs t f hc => (World.putObj_heap_other (fun e => ?_)).trans hc⟩
    rw [e, hlA] at hc
    cases hc
   refine wpIn_mono (hbody _ pre x W V hCE hiV hlen) ?_
   have fin : ∀ (jump : Option Code) (W3 : World), KeepsFrom w.heap.size V W3 →
     (Instr.endRound (w.heap.size + 1) jump).run P W3 = .ok (.bool jump.isNone) (W3.putObj (w.heap.size + 1) (.loop (rec_ (if jump.isNone then .ready else .done) jump))) ∧
     W3.heap[w.heap.size + 1]? = some (.loop { rec_ .ready none with state := .busy }) ∧
     (W3.putObj (w.heap.size + 1) (.loop (rec_ (if jump.isNone then .ready else .done) jump))).heap[w.heap.size + 1]? = some (.loop (rec_ (if jump.isNone then .ready else .done) jump)) ∧
     (W3.putObj (w.heap.size + 1) (.loop (rec_ (if jump.isNone then .ready else .done) jump))).heap[w.heap.size]? = some (.deferred (some [])) := fun jump W3 hk3 => by
    have hl3 := hk3.same _ _ (by omega) hl2 rfl
    have hk4 := hk3.same _ _ (Nat.le_refl _) hk2 rfl
    have hend := run_endRound (P := P) jump hl3
    rw [hrec] at hend
    refine ⟨?_, hl3, World.putObj_heap_same (Array.getElem?_eq_some_iff.1 hl3).1, (World.putObj_heap_other (by omega)).trans hk4⟩
    rw [hrec]
    exact hend
   have leave : ∀ (c : Code) (W3 : World), KeepsFrom w.heap.size V W3 → Ix c (pre ++ [x]) W3 → ∃ (c' : Code), Ix c' (pre ++ [x]) (W3.putObj (w.heap.size + 1) (.loop (rec_ .done (some c)))) ∧ c' = c := fun c W3 hk3 hi3 => by
    obtain ⟨_, hl3, _, _⟩ := fin (some c) W3 hk3
    exact ⟨c, put (hIx _) _ hi3 (by omega) hl3 rfl, rfl⟩
   rintro e a3 W3 hp
   cases e with
   | normal =>
    obtain ⟨hk3, hkp3, hi3⟩ := hp
    obtain ⟨hr, hl3, hl4, hk4⟩ := fin none W3 hk3
    exact ⟨_, _, hr, .inl ⟨rfl, ⟨put hI _ hi3 (by omega) hl3 rfl, hl4, hk4⟩, hKt (hKt hw2 hkp3) (hKb _ _ _ _ (by omega) hl3 rfl rfl)⟩⟩
   | ret =>
    obtain ⟨hr, _, hl4, hk4⟩ := fin (some .ret) W3 hp.1
    obtain ⟨_, h, rfl⟩ := leave .ret W3 hp.1 hp.2
    exact ⟨_, _, hr, .inr ⟨rfl, _, h, hl4, hk4⟩⟩
   | exit id =>
    obtain ⟨hr, _, hl4, hk4⟩ := fin (some (.exit id)) W3 hp.1
    obtain ⟨_, h, rfl⟩ := leave (.exit id) W3 hp.1 hp.2
    exact ⟨_, _, hr, .inr ⟨rfl, _, h, hl4, hk4⟩⟩
   | goto t =>
    obtain ⟨hr, _, hl4, hk4⟩ := fin (some (.goto t)) W3 hp.1
    obtain ⟨_, h, rfl⟩ := leave (.goto t) W3 hp.1 hp.2
    exact ⟨_, _, hr, .inr ⟨rfl, _, h, hl4, hk4⟩⟩
   | panic ch => exact hp.elim
   | outgrown => exact hp.elim
  ·
   rintro e W2 ⟨⟨v, rfl⟩, (⟨xs, hS, hi, hl, hk⟩ | ⟨pre, hSp, c, hi, hl, hk⟩)⟩
   · exact ⟨none, _, by have := run_endLoop (P := P) hl (by rw [hrec]; simp); rw [hrec] at this; exact this, hdone _ xs _ (Nat.le_refl _) (hSk _ _ _ _ _ (by omega) hl rfl hS) (put hI _ hi (by omega) hl rfl) ((World.putObj_heap_other (by omega)).trans hk)⟩
   · exact ⟨some c, _, by have := run_endLoop (P := P) hl (by rw [hrec]; simp); rw [hrec] at this; exact this, wpIn_wide.2 (hstop _ c pre _ (Nat.le_refl _) hSp (put (hIx c) _ hi (by omega) hl rfl) ((World.putObj_heap_other (by omega)).trans hk))⟩

end Go.Proofs.YtbldfgaogmfoaaaGreat

/- Streams (layer 14): the iterator over the hits of chunks; walked. -/

namespace Go.Proofs.YtbldfgaogmfoaaaGreat
open Go.RowKit Go.Sort
attribute [local go_sem] Oper.semAt_some
attribute [local simp] wide_fn wide_depth
attribute [local go_sem] wide_fn wide_depth

/-- Blocks of cells stay. -/
def CellsK (W V : World) : Prop := W.heap.size ≤ V.heap.size ∧ ∀ (k : Nat) (cs : Array Value) (t : TypeId) (f : Nat × Nat), W.heap[k]? = some (Obj.cells cs t f) → V.heap[k]? = some (Obj.cells cs t f)
theorem CellsK.cell {W V : World} (h : CellsK W V) {a : Addr} {v : Value} (hc : W.cell? a = some v) : V.cell? a = some v := by
 cases ho : W.heap[a.block]? with
 | none => simp [World.cell?, ho] at hc
 | some o =>
  cases o with
  | cells cs t f =>
   rw [← hc]
   exact World.cell?_of_block ((h.2 _ _ _ _ ho).trans ho.symm)
  | _ => simp [World.cell?, ho] at hc
theorem CellsK.sl1 {α : Type} {enc : α → Value} {W V : World} (h : CellsK W V) {a : Option Addr} {n : Nat} {xs : List α} (hs : Sl1 enc W a n xs) : Sl1 enc V a n xs :=
 ⟨hs.1, hs.2.imp id fun ⟨b, off, e, hlt, hc⟩ => ⟨b, off, e, Nat.lt_of_lt_of_le hlt h.1, fun i x hx => h.cell (hc i x hx)⟩⟩
theorem CellsK.wds {W V : World} (h : CellsK W V) {a : Option Addr} {n : Nat} {wss : List (List Int)} (hs : Wds W a n wss) : Wds V a n wss := by
 obtain ⟨vs, e1, e2, e3⟩ := hs
 exact ⟨vs, h.sl1 e1, e2, fun i v xs hv hx => ⟨⟨h.sl1 (e3 i v xs hv hx).1.1, (e3 i v xs hv hx).1.2⟩, (e3 i v xs hv hx).2⟩⟩
/-- The row that a box's slice has. -/
def rowAt (bl : Nat) (W : World) : Option Nat := (W.cell? ⟨bl, 0, none⟩).bind Value.ownBlock
/-- What a body keeps that appends to a row of its own, whose slice lies in a box. -/
def KpL (bl : Nat) (W W' : World) : Prop :=
 W.heap.size ≤ W'.heap.size ∧ (∀ k cs t f, W.heap[k]? = some (.cells cs t f) → k ≠ bl → rowAt bl W ≠ some k → W'.heap[k]? = some (.cells cs t f)) ∧ (rowAt bl W' = rowAt bl W ∨ ∃ r, rowAt bl W' = some r ∧ W.heap.size ≤ r ∧ r < W'.heap.size)
theorem KpL.lt {bl : Nat} {W : World} {k : Nat} {cs : Array Value} {t : TypeId} {f : Nat × Nat} (h : W.heap[k]? = some (.cells cs t f)) : k < W.heap.size := (Array.getElem?_eq_some_iff.1 h).1
theorem KpL.t {bl : Nat} {A B C : World} (h : KpL bl A B) (k : KpL bl B C) : KpL bl A C := by
 obtain ⟨h1, h2, h3⟩ := h
 obtain ⟨k1, k2, k3⟩ := k
 refine ⟨Nat.le_trans h1 k1, fun i cs t f hi hb hr => ?_, ?_⟩
 ·
  refine k2 i cs t f (h2 i cs t f hi hb hr) hb ?_
  rcases h3 with e | ⟨r, e, hr1, _⟩
  · rw [e]; exact hr
  ·
   rw [e]
   intro e2
   have := KpL.lt (bl := bl) hi
   cases e2
   omega
 ·
  rcases k3 with e | ⟨r, e, hr1, hr2⟩
  ·
   rw [e]
   rcases h3 with e' | ⟨r, e', hr1, hr2⟩
   · exact .inl e'
   · exact .inr ⟨r, e', hr1, by omega⟩
  · exact .inr ⟨r, e, by omega, hr2⟩
theorem KpL.b {bl : Nat} {w : World} (hb : bl < w.heap.size) (W : World) (l : Nat) (o o' : Obj) (hl : w.heap.size ≤ l) (h : W.heap[l]? = some o) (hc : o.isCells = false) (_ : o.isWalk = false) : KpL bl W (W.putObj l o') := by
 refine ⟨by simp [World.putObj], fun k cs t f hk _ _ => ?_, .inl ?_⟩
 ·
  rw [World.putObj_heap_other (fun e => ?_)]
  · exact hk
  ·
   rw [e, h] at hk
   cases hk
   cases hc
 ·
  unfold rowAt
  rw [World.cell?_of_block (a := ⟨bl, 0, none⟩) (World.putObj_heap_other (by show bl ≠ l; omega))]
/-- What an iterator knows of the world through all rounds, but for its own block: blocks that were there at first, and the row that the body has. -/
structure KeepL (bl g : Nat) (w W : World) : Prop where
 size : w.heap.size ≤ W.heap.size
 cells : ∀ k cs t f, w.heap[k]? = some (.cells cs t f) → k ≠ bl → k ≠ g → W.heap[k]? = some (.cells cs t f)
 row : ∀ r, rowAt bl W = some r → w.heap.size ≤ r ∧ r < W.heap.size
section
variable {bl g : Nat} {w W V : World}
theorem KeepL.body (h : KeepL bl g w W) (hk : KpL bl W V) : KeepL bl g w V := by
 obtain ⟨k1, k2, k3⟩ := hk
 refine ⟨Nat.le_trans h.size k1, fun k cs t f hc hb hg => k2 k cs t f (h.cells k cs t f hc hb hg) hb (fun e => ?_), fun r hr => ?_⟩
 ·
  have h1 := KpL.lt (bl := bl) hc
  have h2 := (h.row k e).1
  omega
 ·
  rcases k3 with e | ⟨r', e, h1, h2⟩
  ·
   rw [e] at hr
   have := h.row r hr
   omega
  ·
   rw [e] at hr
   cases hr
   have := h.size
   omega
theorem KeepL.own (h : KeepL bl g w W) (hk : W.grownBy V (some g)) (hbg : bl ≠ g) (hbl : bl < W.heap.size) : KeepL bl g w V := by
 have e : rowAt bl V = rowAt bl W := by
  unfold rowAt
  rw [World.cell?_of_block (a := ⟨bl, 0, none⟩) (hk.block bl hbl (fun e => hbg (Option.some.inj e)))]
 refine ⟨Nat.le_trans h.size hk.size, fun k cs t f hc hb hg => ?_, fun r hr => ?_⟩
 ·
  have h1 := h.cells k cs t f hc hb hg
  exact (hk.block k (KpL.lt (bl := bl) h1) (fun e => hg (Option.some.inj e))).trans h1
 ·
  rw [e] at hr
  have := h.row r hr
  have := hk.size
  omega
end

/-- A row of hits that the body does not have: it stays. -/
def Away (bl : Nat) (a : Option Addr) (W : World) : Prop := ∀ p, a = some p → p.block ≠ bl ∧ rowAt bl W ≠ some p.block ∧ p.block < W.heap.size
theorem KpL.hts {bl : Nat} {W V : World} (hk : KpL bl W V) {a : Option Addr} {n : Nat} {l : List HitP} (h : Hts W a n l) (ha : Away bl a W) : Hts V a n l ∧ Away bl a V := by
 obtain ⟨k1, k2, k3⟩ := hk
 constructor
 ·
  refine ⟨⟨h.1.1, ?_⟩, h.2⟩
  rcases h.1.2 with h0 | ⟨b, off, e, hlt, hc⟩
  · exact .inl h0
  ·
   refine .inr ⟨b, off, e, Nat.lt_of_lt_of_le hlt k1, fun i u hu => ?_⟩
   have hcu := hc i u hu
   obtain ⟨h1, h2, _⟩ := ha _ e
   cases ho : W.heap[b]? with
   | none => simp [World.cell?, ho] at hcu
   | some o =>
    cases o with
    | cells cs t f =>
     rw [← hcu]
     exact World.cell?_of_block (a := ⟨b, off + i, none⟩) ((k2 b cs t f ho h1 h2).trans ho.symm)
    | _ => simp [World.cell?, ho] at hcu
 ·
  intro p hp
  obtain ⟨h1, h2, h3⟩ := ha p hp
  refine ⟨h1, ?_, Nat.lt_of_lt_of_le h3 k1⟩
  rcases k3 with e | ⟨r, e, hr, _⟩
  · rw [e]; exact h2
  ·
   rw [e]
   intro e2
   cases e2
   omega
theorem flat_prefix {css : List (List Int)} {i : Nat} {x : List Int} (h : css[i]? = some x) (j : Nat) : (css.take i).flatten ++ x.take j <+: css.flatten := by
 have e : css = css.take i ++ x :: css.drop (i + 1) := by
  obtain ⟨hi, rfl⟩ := List.getElem?_eq_some_iff.1 h
  rw [← List.drop_eq_getElem_cons hi, List.take_append_drop]
 have e2 : css.flatten = (css.take i).flatten ++ (x ++ (css.drop (i + 1)).flatten) := by
  conv => lhs; rw [e]
  simp
 rw [e2]
 exact (List.prefix_append_right_inj _).2 ((List.take_prefix j x).trans (List.prefix_append _ _))
theorem flat_step {css : List (List Int)} {i : Nat} {x : List Int} (h : css[i]? = some x) : (css.take (i + 1)).flatten = (css.take i).flatten ++ x := by
 rw [take_step h]
 simp
end Go.Proofs.YtbldfgaogmfoaaaGreat

/- Streams (layer 14): New, Right, Feed; walked. Printed by exp.py. -/

namespace Go.Proofs.YtbldfgaogmfoaaaGreat
open Go.RowKit Go.Sort
attribute [local go_sem] Oper.semAt_some
attribute [local simp] wide_fn wide_depth
attribute [local go_sem] wide_fn wide_depth

theorem results_scan3 {fn : Func} {p u v : Tmp} {tmps : Array Value} {W : World} {B : Nat} {x y : Value} (h : fn.results = #[.cell p 129, .tmp u, .tmp v]) (hp : tmps.getD p undef = .pointer (some ⟨B, 0, none⟩)) (hB : W.heap[B]? = some (.cells #[x, y] 129 (0, 0))) :
  (results fn tmps).run Tryz.prog W = .ok (.tuple #[.agg #[x, y], tmps.getD u undef, tmps.getD v undef]) W := by
 have hl : (loadVar 129 ⟨B, 0, none⟩).run Tryz.prog W = .ok (.agg #[x, y]) W := run_loadVar_row W B 129 129 #[x, y] (0, 0) _ hB Tryz.underlying129 rfl (by kernel_rfl)
 have hp' : tmps[p]?.getD undef = .pointer (some ⟨B, 0, none⟩) := by simpa using hp
 simp [results, h, hp', asAddr, hl, Result.andThen]

/-- A scan's value; where a scan may begin. -/
abbrev scV (z at_ : Int) : Value := .agg #[.int .i64 z, .int .i64 at_]
/-- May a scan be? -/
def scanR (n : Nat) (z at_ : Int) : Bool := decide ((0 ≤ z ∧ z < (n : Int)) ∧ 0 ≤ at_ ∧ at_ ≤ 4611686020574871551)
end Go.Proofs.YtbldfgaogmfoaaaGreat

/- Streams (layer 14): Feed; walked. Printed by exp.py. -/

namespace Go.Proofs.YtbldfgaogmfoaaaGreat
open Go.RowKit Go.Sort
attribute [local go_sem] Oper.semAt_some
attribute [local simp] wide_fn wide_depth
attribute [local go_sem] wide_fn wide_depth

def HoldsH (b base : Nat) (l : List HitP) (W : World) : Prop := ∃ v, Boxed W b 67 v ∧ OwnH W base v l
theorem KpL.of_below {bl : Nat} {W V : World} (hb : Below W.heap.size W V) (hl : bl < W.heap.size) : KpL bl W V :=
 ⟨hb.size, fun k cs t f hk _ _ => (hb.block k (KpL.lt (bl := bl) hk)).trans hk, .inl (by unfold rowAt; rw [World.cell?_of_block (a := ⟨bl, 0, none⟩) (hb.block bl hl)])⟩
theorem slk_hit (V : World) (x : HitP) : SlK 2 (V.alloc (.cells #[.int .i64 x.1, .int .i64 x.2] 87)) (some ⟨V.heap.size, 0, none⟩) 1 [.int .i64 x.1, .int .i64 x.2] := by
 refine ⟨rfl, .inr ⟨V.heap.size, 0, rfl, by simp, fun i u hu => ?_⟩⟩
 have := cells_new (w := V) #[.int .i64 x.1, .int .i64 x.2] 87 rfl i u (by simpa using hu)
 rwa [add_plain] at this

theorem sum_prefix {css : List (List Int)} {i : Nat} {x : List Int} (h : css[i]? = some x) : (css.take (i + 1)).flatten.length = (css.take i).flatten.length + x.length ∧ (css.take (i + 1)).flatten.length ≤ css.flatten.length := by
 have h1 := (flat_prefix h x.length).length_le
 rw [List.take_of_length_le (Nat.le_refl _), List.length_append] at h1
 rw [flat_step h, List.length_append]
 exact ⟨rfl, h1⟩

end Go.Proofs.YtbldfgaogmfoaaaGreat

/- Streams (layer 14): Feed that may not be, of no machine; All; walked. Printed by exp.py. -/

namespace Go.Proofs.YtbldfgaogmfoaaaGreat
open Go.RowKit Go.Sort

theorem scanH_len {fold : Bool} {ws : List (List Int)} : ∀ (b : List Int) (z : Nat) (at_ : Int), z < (nodesL ws).length → (scanH fold ws z at_ b).length ≤ (nodesL ws).length * b.length
 | [], z, at_, _ => by simp [scanH]
 | c :: b, z, at_, hz => by
  have hx : (nodesL ws)[z]? = some (nodesL ws)[z] := List.getElem?_eq_getElem hz
  have hn := (List.getElem?_eq_some_iff.1 (nextZ_at (fold := fold) hx c).1).1
  have ih := scanH_len (fold := fold) b (nextZ fold ws z c) (at_ + 1) hn
  have h9 := words9_len ws (nextZ fold ws z c)
  simp only [scanH, List.length_append, List.length_map, List.length_cons]
  rw [Nat.mul_succ]
  omega

end Go.Proofs.YtbldfgaogmfoaaaGreat

/- Streams (layer 14): the document's Join, New, Right; walked. -/

namespace Go.Proofs.YtbldfgaogmfoaaaGreat
open Go.RowKit Go.Sort

set_option maxRecDepth 100000 in
set_option maxHeartbeats 4000000 in
theorem join03_any (a : Option Addr) (n cn : Nat) (css : List (List Int)) (w : World) (hC : Wds w a n css) (hn : n ≤ 1000000) (hT : css.flatten.length ≤ 1000000000) :
  Calls Tryz.prog 106 #[.slice a n cn] w fun e w' => ∃ (a1 : Option Addr) (c1 : Nat), e = .returned (.slice a1 css.flatten.length c1) ∧ css.flatten.length ≤ c1 ∧ Bys w' a1 css.flatten.length css.flatten ∧ Below w.heap.size w w' := by
 obtain ⟨iU, hj, hy0, hy1, hy2⟩ := info_parts u8_info
 have HCL := Lib.hid hC.len
 have HC := Lib.hid hC
 have hbt : ∀ x ∈ css.flatten, 0 ≤ x ∧ x ≤ 255 := fun x hx => by
  obtain ⟨l, hl, hx⟩ := List.mem_flatten.1 hx
  exact hC.bytes l hl x hx
 have HBT := Lib.hid hbt
 clear hC hbt
 go_enter Tryz.func106, Tryz.ntmps106
 go_wp2
 go_loopw [3, 4] (fun v s4 wr => ∃ i : Nat, i ≤ n ∧ s4 = .int .i64 (i : Int) ∧ Hid (RowKit.Below w.heap.size w wr) ∧ OwnB wr w.heap.size v (css.take i).flatten.length (css.take i).flatten) (fun _ s _ => n - (intOf s).toNat)
 case atStart => exact ⟨0, Nat.zero_le _, rfl, Below.refl _ _, World.ownsRow_nil _ _ _ _⟩
 case round =>
  obtain ⟨i, hi, rfl, HBr, hown⟩ := hrel
  by_cases hin : i < n
  ·
   have hd : decide ((i : Int) < (n : Int)) = true := by simp; omega
   obtain ⟨bb, off, a', lx, cx, x, rfl, hbl', hcell, hx, hX, hlc⟩ := (HC.out.below HBr.out).at_ hin
   obtain ⟨g1, g2⟩ := sum_prefix hx
   have hxl := hX.len
   rw [hxl] at g1
   have i1 : (0 : Int) ≤ (i : Int) := by omega
   have i2 : (i : Int) < (n : Int) := by omega
   obtain ⟨k, hk⟩ : ∃ k : Nat, (css.take i).flatten.length = k := ⟨_, rfl⟩
   rw [hk] at g1 hown
   have HX := Lib.hid hx
   have HK := Lib.hid hk
   have HG1 := Lib.hid g1
   have hb2 : k + lx ≤ 1000000000 := by omega
   have hsz : w.heap.size ≤ wr.heap.size := HBr.out.size
   clear hx hk g1 g2 hxl
   go_wp2_with (at_builtin; refine wpList_append_sl1 rfl _ _ 25 rfl u8_one w.heap.size 5 iU (.int .u8 0) 1 Tryz.underlying25 hj hy0 hy1 hy2 rfl _ k _ rfl hown a' lx cx x rfl hX.1 (by unfold maxLen; omega) (by omega) hsz ?_; intro v' w5 hown' hgrow hat)
   have hB5 : RowKit.Below w.heap.size w w5 := HBr.out.grown hgrow hsz (fun j hj => (hown.lt j hj).1)
   go_roundw
   case rel =>
    refine ⟨i + 1, by omega, by go_num, hB5, ?_⟩
    unfold OwnB
    rw [HG1.out, flat_step HX.out, List.map_append]
    exact hown'
   case measure => simp [intOf]; omega
  ·
   obtain rfl : n = i := by omega
   have hd : decide ((n : Int) < (n : Int)) = false := by simp
   have HFA : Hid ((css.take n).flatten = css.flatten) := by rw [Hid, List.take_of_length_le (by rw [HCL.out]; exact Nat.le_refl _)]
   rw [HFA.out] at hown
   obtain ⟨a1, c1, rfl, hc, hs⟩ := own_bys hown HBT.out
   go_wp2
   go_ret
   exact ⟨a1, c1, rfl, hc, hs, HBr.out⟩

set_option maxRecDepth 100000 in
set_option maxHeartbeats 4000000 in
theorem rright14_any (fold : Bool) (a : Option Addr) (la ca : Nat) (z at_ : Int) (wss : List (List Int)) (w : World) (hA : Wds w a la wss) (hla : la ≤ 1000000) (hM : ∀ x ∈ wss, x.length ≤ 1000000) :
  Calls Tryz.prog 75 #[.agg (setV fold a la ca), scV z at_] w fun e w' => e = .returned (.bool (rightP fold wss && scanR (nodesL wss).length z at_)) ∧ Below w.heap.size w w' := by
 obtain ⟨W, hW⟩ : ∃ W, W = (w.alloc (.cells (setV fold a la ca) 24)).alloc (.cells #[.int .i64 z, .int .i64 at_] 129) := ⟨_, rfl⟩
 have hB : Below w.heap.size w W := by rw [hW]; exact ((Below.refl _ _).alloc (Nat.le_refl _) _).alloc (by simp) _
 have hO : Bx w.heap.size [.cells (setV fold a la ca) 24, .cells #[.int .i64 z, .int .i64 at_] 129] W := by rw [hW]; exact ((Bx.nil _ w).snoc _ rfl).snoc _ (by simp)
 have hlW : w.heap.size + 1 < W.heap.size := by rw [hW]; simp
 have HO : Hid (∀ V, RowKit.Below W.heap.size W V → V.cell? ⟨w.heap.size, 0, none⟩ = some (.bool fold) ∧ V.cell? ⟨w.heap.size, 1, none⟩ = some (.slice a la ca) ∧ V.cell? ⟨w.heap.size + 1, 0, none⟩ = some (.int .i64 z) ∧ V.cell? ⟨w.heap.size + 1, 1, none⟩ = some (.int .i64 at_) ∧ w.heap.size + 1 < V.heap.size) := fun V hV => by
  have h := hO.below hV
  exact ⟨h.cell (i := 0) rfl rfl, h.cell (i := 0) rfl rfl, h.cell (i := 1) rfl rfl, h.cell (i := 1) rfl rfl, Nat.lt_of_lt_of_le hlW hV.size⟩
 have HB := Lib.hid hB
 have hAW := hA.below hB
 cases hr : rightP fold wss with
 | false =>
  have HM := Lib.hid (rmake7_no fold a la ca wss W hAW hla hM hr)
  rw [Bool.false_and]
  clear hr hO hB hA hAW
  obtain ⟨q0, q1, q2, q3, q4⟩ := HO.out W (Below.refl _ _)
  go_enter Tryz.func75, Tryz.ntmps75
  go_upto_region 1 with fail
  rw [← hW]
  clear hW
  go_wp2_with (go_at_call 23; refine HM.out.mono ?_; rintro e w1 ⟨rfl, hb1⟩)
  go_ret
  have hb := HB.out.trans (hb1.mono HB.out.size)
  exact ⟨rfl, hb.alloc hb.size _⟩
 | true =>
  have HM := Lib.hid (rmake7_yes fold a la ca wss W hAW hr)
  rw [Bool.true_and]
  have HUL := Lib.hid (up_len13 wss)
  obtain ⟨n, hn⟩ : ∃ n, (nodesL wss).length = n := ⟨_, rfl⟩
  rw [hn] at HUL ⊢
  clear hr hO hB hA hAW hn
  obtain ⟨q0, q1, q2, q3, q4⟩ := HO.out W (Below.refl _ _)
  go_enter Tryz.func75, Tryz.ntmps75
  go_upto_region 1 with fail
  rw [← hW]
  clear hW
  go_upto_region 2 with (go_at_call 23; refine HM.out.mono ?_; rintro e w1 ⟨t, rfl, hT, hb1⟩; obtain ⟨ua, un, uc, da, dn, dc, xa, xn, xc, ba, bn, bc⟩ := t; simp only [TV.cells])
  obtain ⟨W2, hW2⟩ : ∃ X, X = w1.alloc (.cells #[.slice ua un uc, .slice da dn dc, .slice xa xn xc, .slice ba bn bc] 34) := ⟨_, rfl⟩
  have hb2 : RowKit.Below W.heap.size W W2 := by rw [hW2]; exact hb1.alloc hb1.size _
  have hO2 : W2.heap[w1.heap.size]? = some (.cells #[.slice ua un uc, .slice da dn dc, .slice xa xn xc, .slice ba bn bc] 34 (0, 0)) := by rw [hW2]; exact World.alloc_heap_new _ _
  rw [← hW2]
  obtain rfl : un = n := by
   have h1 := hT.up.1
   have h2 := HUL.out
   dsimp only at h1
   omega
  clear hW2 hT hb1 HUL q0 q1 q2 q3 q4 HM
  have e0 : W2.cell? ⟨w1.heap.size, 0, none⟩ = some (.slice ua un uc) := by simp [World.cell?, hO2]
  obtain ⟨q0, q1, q2, q3, q4⟩ := HO.out W2 hb2
  have HBF : Hid (RowKit.Below w.heap.size w W2) := HB.out.trans (hb2.mono HB.out.size)
  clear hO2 hb2
  by_cases h0 : 0 ≤ z
  ·
   have d0 : decide ((0 : Int) ≤ z) = true := by simpa using h0
   by_cases h1 : z < (un : Int)
   ·
    have d1 : decide (z < (un : Int)) = true := by simpa using h1
    by_cases h2 : 0 ≤ at_
    ·
     have d2 : decide ((0 : Int) ≤ at_) = true := by simpa using h2
     have e : Hid (scanR un z at_ = decide (at_ ≤ 4611686020574871551)) := by unfold Hid scanR; simp [h0, h1, h2]
     clear h0 h1 h2
     go_wp2
     go_ret
     exact ⟨by rw [e.out]; rfl, HBF.out⟩
    ·
     have d2 : decide ((0 : Int) ≤ at_) = false := by simpa using h2
     have e : Hid (scanR un z at_ = false) := by unfold Hid scanR; simp [h0, h1, h2]
     clear h0 h1 h2
     go_wp2
     go_ret
     exact ⟨by rw [e.out]; rfl, HBF.out⟩
   ·
    have d1 : decide (z < (un : Int)) = false := by simp; omega
    have e : Hid (scanR un z at_ = false) := by unfold Hid scanR; simp [h0, h1]
    clear h0 h1
    go_wp2
    go_ret
    exact ⟨by rw [e.out]; rfl, HBF.out⟩
  ·
   have d0 : decide ((0 : Int) ≤ z) = false := by simpa using h0
   have e : Hid (scanR un z at_ = false) := by unfold Hid scanR; simp [h0]
   clear h0
   go_wp2
   go_ret
   exact ⟨by rw [e.out]; rfl, HBF.out⟩
end Go.Proofs.YtbldfgaogmfoaaaGreat

/- The document's classes (layer 10): of each byte its class; walked. -/

namespace Go.Proofs.YtbldfgaogmfoaaaGreat
open Go.RowKit Go.Sort

/-- A row of numbers in a variable of 256. -/
def ArrB (W : World) (B : Nat) (l : List Int) : Prop := W.heap[B]? = some (.cells (l.map (Value.int .i64)).toArray 51 (0, 0))
theorem ArrB.lt {W : World} {B : Nat} {l : List Int} (h : ArrB W B l) : B < W.heap.size := (Array.getElem?_eq_some_iff.1 h).1
theorem ArrB.cell {W : World} {B : Nat} {l : List Int} (h : ArrB W B l) {i : Nat} {v : Int} (hv : l[i]? = some v) : W.cell? ⟨B, i, none⟩ = some (.int .i64 v) := by
 rw [cell_of_row W B i _ _ _ h]
 simp [hv]
theorem ArrB.frozen {W : World} {B : Nat} {l : List Int} (h : ArrB W B l) (i : Nat) : W.frozen? ⟨B, i, none⟩ = false := by
 have h2 : W.heap[B]? = some (.cells (l.map (Value.int .i64)).toArray 51 (0, 0)) := h
 simp [World.frozen?, h2]
theorem ArrB.set {W : World} {B : Nat} {l : List Int} (h : ArrB W B l) (i : Nat) (v : Int) : ArrB (W.setCell ⟨B, i, none⟩ (.int .i64 v)) B (l.set i v) := by
 have h2 : W.heap[B]? = some (.cells (l.map (Value.int .i64)).toArray 51 (0, 0)) := h
 unfold ArrB
 rw [setCell_eq_setRow W B i _ _ _ _ h2, setRow_heap W B _ _ _ _ h2]
 simp [List.map_set]
theorem ArrB.below {W V : World} {B : Nat} {l : List Int} (h : ArrB W B l) (hb : Below W.heap.size W V) : ArrB V B l := (hb.block B h.lt).trans h

end Go.Proofs.YtbldfgaogmfoaaaGreat

/- The document's table (layer 11): made; walked. Printed by exp.py. -/

namespace Go.Proofs.YtbldfgaogmfoaaaGreat
open Go.RowKit Go.Sort

theorem Dv.frozen {W : World} {B : Nat} {L : List Int} {m : Int} {row : Value} (h : Dv W B L m row) (i : Nat) : W.frozen? ⟨B, i, none⟩ = false := by simp [World.frozen?, h.box]
theorem Dv.setMany {W : World} {B : Nat} {L : List Int} {m : Int} {row : Value} (h : Dv W B L m row) (v : Int) : Dv (W.setCell ⟨B, 256, none⟩ (.int .i64 v)) B L v row := by
 refine ⟨?_, h.len⟩
 rw [setCell_eq_setRow W B 256 _ _ _ _ h.box, setRow_heap W B _ _ _ _ h.box]
 have e : (dvC L m row).toArray.setIfInBounds 256 (.int .i64 v) = (dvC L v row).toArray := by
  rw [dvC_eq, dvC_eq, List.setIfInBounds_toArray, List.set_append_right _ _ (by simp [h.len])]
  simp [h.len]
 rw [e]
theorem Dv.setRows {W : World} {B : Nat} {L : List Int} {m : Int} {row : Value} (h : Dv W B L m row) (v : Value) : Dv (W.setCell ⟨B, 257, none⟩ v) B L m v := by
 refine ⟨?_, h.len⟩
 rw [setCell_eq_setRow W B 257 _ _ _ _ h.box, setRow_heap W B _ _ _ _ h.box]
 have e : (dvC L m row).toArray.setIfInBounds 257 v = (dvC L m v).toArray := by
  rw [dvC_eq, dvC_eq, List.setIfInBounds_toArray, List.set_append_right _ _ (by simp [h.len])]
  simp [h.len]
 rw [e]
end Go.Proofs.YtbldfgaogmfoaaaGreat

/- Tries (layer 7): what the law with the document's answers leans on: contracts brought together; two calls of which either may come first. -/

namespace Go.Proofs.YtbldfgaogmfoaaaGreat
open Go.RowKit Go.Sort

theorem spellT_bd {T : TrieT} {w : World} {a : Option Addr} {n : Nat} (hB : Bys w a n T.byt) {node : Int} {x : List Int} (h : spellT T node = some x) : x.length ≤ 1000 ∧ ∀ y ∈ x, 0 ≤ y ∧ y ≤ 255 := by
 unfold spellT at h
 cases hr : readP T with
 | none => rw [hr] at h; cases h
 | some q =>
  rw [hr] at h
  dsimp only at h
  by_cases h0 : node < 0
  · rw [if_pos h0] at h; cases h
  ·
   rw [if_neg h0] at h
   have := (readR7 (sp := q.1) (ws := q.2) hr).2 _ x h
   subst this
   have := spellR_len T (node.toNat : Int)
   exact ⟨by omega, spellR_bd hB _⟩
/-- The bytes that Spell tells, and whether it tells any. -/
def spB (T : TrieT) (node : Int) : List Int := (spellT T node).getD []
theorem rspell_uni (t : TV) (T : TrieT) (node : Int) (w : World) (hT : Tri w t T) (hb : Bd4 t) :
  Calls Tryz.prog 107 #[.agg t.cells, .int .i64 node] w fun e w' => ∃ a n c, e = .returned (.tuple #[.slice a n c, .bool (spellT T node).isSome]) ∧ Bys w' a n (spB T node) ∧ Below w.heap.size w w' := by
 unfold spB
 cases hs : spellT T node with
 | none =>
  refine (rspell7_no t T node w hT hb hs).mono ?_
  rintro e w' ⟨rfl, h⟩
  exact ⟨none, 0, 0, rfl, Bys.nil _ _, h⟩
 | some x =>
  refine (rspell7_yes t T node x w hT hb hs).mono ?_
  rintro e w' ⟨v, rfl, hv, h⟩
  obtain ⟨a, c, rfl, _, hB⟩ := own_bys hv (spellT_bd hT.byt hs).2
  exact ⟨a, _, c, rfl, hB, h⟩
end Go.Proofs.YtbldfgaogmfoaaaGreat

/- Machines (layer 13): the document's Step and Hits, of a set that may be; walked. Printed by exp.py. -/

namespace Go.Proofs.YtbldfgaogmfoaaaGreat
open Go.RowKit Go.Sort

theorem bd4_trie {w : World} {t : TV} {wss : List (List Int)} (hT : Tri w t (trieP wss)) (hn : (nodesL wss).length ≤ 400) : Bd4 t := by
 have h1 := hT.up.1
 have h2 := hT.dep.1
 have h3 := hT.wrd.1
 have h4 := hT.byt.len
 simp only [trieP, List.length_map] at h1 h2 h3 h4
 refine ⟨?_, ?_, ?_, ?_⟩ <;> omega

end Go.Proofs.YtbldfgaogmfoaaaGreat

/- A row of hits, parted. -/

namespace Go.Proofs.YtbldfgaogmfoaaaGreat
open Go.RowKit Go.Sort

theorem Hts.take {w : World} {a : Option Addr} {n : Nat} {l : List HitP} (h : Hts w a n l) {m : Nat} (hm : m ≤ n) : Hts w a m (l.take m) := by
 have hl := h.len
 refine ⟨⟨by rw [hcells_length]; simp; omega, ?_⟩, fun x hx => h.2 x (List.mem_of_mem_take hx)⟩
 by_cases h0 : m = 0
 · exact .inl h0
 ·
  right
  obtain ⟨b, off, rfl, hlt, hcell⟩ := h.1.2.resolve_left (by omega)
  refine ⟨b, off, rfl, hlt, fun i u hu => hcell i u ?_⟩
  have e1 : hcells l = hcells (l.take m) ++ hcells (l.drop m) := by rw [← hcells_append, List.take_append_drop]
  rw [e1, List.getElem?_append_left (List.getElem?_eq_some_iff.1 hu).1]
  exact hu
theorem Hts.drop {w : World} {a : Option Addr} {n : Nat} {l : List HitP} (h : Hts w a n l) {m : Nat} (hm : m ≤ n) : Hts w (a.map (·.add (m * 2))) (n - m) (l.drop m) := by
 have hc := h.cut (lo := m) (m := n - m) (by omega)
 rwa [List.take_of_length_le (by rw [List.length_drop, h.len]; exact Nat.le_refl _)] at hc
theorem Hts.none_ {w : World} {a : Option Addr} {n : Nat} {l : List HitP} (hb : ∀ h ∈ l, I64 h.1 ∧ I64 h.2) (hl : l.length = n) {m : Nat} (hm : m = n) : Hts w a (n - m) (l.drop m) := by
 have : l.drop m = [] := List.drop_eq_nil_of_le (by omega)
 rw [this, show n - m = 0 by omega]
 exact ⟨⟨rfl, .inl rfl⟩, by simp⟩

theorem Hts.rest {V : World} {b : Option Addr} {lb cb n : Nat} {l : List HitP} (h : Hts V b lb l) (hn : n ≤ lb) (hcb : lb ≤ cb) : Hts V (if cb = n then b else Option.map (fun x => x.add (n * 2)) b) (lb - n) (l.drop n) := by
 split
 · exact Hts.none_ h.2 h.len (by omega)
 · exact h.drop hn
end Go.Proofs.YtbldfgaogmfoaaaGreat

/- The document's hits (layer 6): a word's length, which comes ahead, one put among others: walked. -/

namespace Go.Proofs.YtbldfgaogmfoaaaGreat
open Go.RowKit Go.Sort

set_option maxHeartbeats 1000000 in
theorem rlen6_any (fold : Bool) (a : Option Addr) (la ca : Nat) (k : Int) (wss : List (List Int)) (w : World) (hA : Wds w a la wss) (hla : la ≤ 1000000) :
  Calls Tryz.prog 112 #[.agg (setV fold a la ca), .int .i64 k] w fun e w' => e = .returned (.int .i64 (lenW wss k)) ∧ Below w.heap.size w w' := by
 have HL := Lib.hid hA.len
 have hB0 : Below w.heap.size w (w.alloc (.cells (setV fold a la ca) 24)) := (Below.refl _ _).alloc (Nat.le_refl _) _
 have hA1 := hA.below hB0
 by_cases h0 : 0 ≤ k
 ·
  by_cases h1 : k < la
  ·
   obtain ⟨n, rfl⟩ : ∃ n : Nat, k = n := ⟨k.toNat, by omega⟩
   obtain ⟨bb, off, a', l, c, x, rfl, hbl, hcell, hx, hX, hlc⟩ := hA1.at_ (show n < la by omega)
   have hE : Hid (lenW wss n = l) := by
    unfold Hid lenW
    rw [if_pos ⟨h0, by rw [HL.out]; exact h1⟩, Int.toNat_natCast, hx, Option.getD_some, hX.len]
   clear hx hX hA hA1
   go_enter Tryz.func112, Tryz.ntmps112
   go_wp2
   go_ret
   exact ⟨by rw [hE.out]; rfl, hB0⟩
  ·
   have hE : Hid (lenW wss k = 0) := by
    unfold Hid lenW
    rw [if_neg (by rw [HL.out]; omega)]
   go_enter Tryz.func112, Tryz.ntmps112
   go_wp2
   go_ret
   exact ⟨by rw [hE.out]; rfl, hB0⟩
 ·
  have hE : Hid (lenW wss k = 0) := by
   unfold Hid lenW
   rw [if_neg (by omega)]
  go_enter Tryz.func112, Tryz.ntmps112
  go_wp2
  go_ret
  exact ⟨by rw [hE.out]; rfl, hB0⟩

theorem lessH_1 {wss : List (List Int)} {x y : HitP} (h : x.1 ≠ y.1) : lessH wss x y = decide (x.1 < y.1) := by
 rw [Bool.eq_iff_iff, lessH_iff, decide_eq_true_eq]; omega
theorem lessH_2 {wss : List (List Int)} {x y : HitP} (h : x.1 = y.1) (h2 : lenW wss x.2 ≠ lenW wss y.2) : lessH wss x y = decide (lenW wss y.2 < lenW wss x.2) := by
 rw [Bool.eq_iff_iff, lessH_iff, decide_eq_true_eq]; omega
theorem lessH_3 {wss : List (List Int)} {x y : HitP} (h : x.1 = y.1) (h2 : lenW wss x.2 = lenW wss y.2) : lessH wss x y = decide (x.2 < y.2) := by
 rw [Bool.eq_iff_iff, lessH_iff, decide_eq_true_eq]; omega

set_option maxHeartbeats 2000000 in
theorem rless6_any (fold : Bool) (a : Option Addr) (la ca : Nat) (x y : HitP) (wss : List (List Int)) (w : World) (hA : Wds w a la wss) (hla : la ≤ 1000000) :
  Calls Tryz.prog 82 #[.agg (setV fold a la ca), .agg #[.int .i64 x.1, .int .i64 x.2], .agg #[.int .i64 y.1, .int .i64 y.2]] w fun e w' => e = .returned (.bool (lessH wss x y)) ∧ Below w.heap.size w w' := by
 have hB3 : Below w.heap.size w (((w.alloc (.cells (setV fold a la ca) 24)).alloc (.cells #[.int .i64 x.1, .int .i64 x.2] 87)).alloc (.cells #[.int .i64 y.1, .int .i64 y.2] 87)) :=
  (((Below.refl _ _).alloc (Nat.le_refl _) _).alloc (by simp) _).alloc (by simp; omega) _
 by_cases h1 : x.1 = y.1
 ·
  have hne : ((x.1 : Int) != y.1) = false := by simp [h1]
  have H1 := Lib.hid h1
  clear h1
  obtain ⟨W3, hW3⟩ : ∃ W3, W3 = (((w.alloc (.cells (setV fold a la ca) 24)).alloc (.cells #[.int .i64 x.1, .int .i64 x.2] 87)).alloc (.cells #[.int .i64 y.1, .int .i64 y.2] 87)) := ⟨_, rfl⟩
  have hz : w.heap.size + 1 + 1 < W3.heap.size := by rw [hW3]; simp
  have b0 : W3.heap[w.heap.size]? = some (.cells (setV fold a la ca) 24 (0, 0)) := by
   rw [hW3]; exact (Below.heap_alloc _ _ _ (by simp; omega)).trans ((Below.heap_alloc _ _ _ (by simp)).trans (World.alloc_heap_new _ _))
  have b1 : W3.heap[w.heap.size + 1]? = some (.cells #[.int .i64 x.1, .int .i64 x.2] 87 (0, 0)) := by
   rw [hW3]; exact (Below.heap_alloc _ _ _ (by simp)).trans (alloc_at (by simp) _)
  have b2 : W3.heap[w.heap.size + 1 + 1]? = some (.cells #[.int .i64 y.1, .int .i64 y.2] 87 (0, 0)) := by
   rw [hW3]; exact alloc_at (by simp) _
  have hA2 : ∀ d os, Wds (grow (redrawn W3 d) os) a la wss := fun d os => (hA.below (hW3 ▸ hB3)).below (below_regrown W3 d os)
  have cell : ∀ (n i : Nat) (cs : Array Value) (t : TypeId) (v : Value), n < W3.heap.size → W3.heap[n]? = some (.cells cs t (0, 0)) → cs[i]? = some v → ∀ d os, (grow (redrawn W3 d) os).cell? ⟨n, i, none⟩ = some v := fun n i cs t v hn hb hv d os =>
   ((below_regrown W3 d os).cell (p := ⟨n, i, none⟩) hn).trans (by simp [World.cell?, hb, hv])
  have s0 := cell w.heap.size 0 _ _ (.bool fold) (by omega) b0 rfl
  have s1 := cell w.heap.size 1 _ _ (.slice a la ca) (by omega) b0 rfl
  have x1 := cell (w.heap.size + 1) 1 _ _ (.int .i64 x.2) (by omega) b1 rfl
  have y1 := cell (w.heap.size + 1 + 1) 1 _ _ (.int .i64 y.2) (by omega) b2 rfl
  have HB3 := Lib.hid (hW3 ▸ hB3)
  clear b0 b1 b2 cell hB3 hA
  go_enter Tryz.func82, Tryz.ntmps82
  go_wp2
  rw [← hW3]
  clear hW3
  refine wp_region_quiet_below mixed (by kernel_rfl) ?_
  repeat (go_big_quiet_step (exact grown_below (rlen6_any fold a la ca _ wss _ (hA2 _ _) hla)))
  refine wpQuiet_nil ?_
  rintro _ ⟨⟨dq, osq⟩, rfl⟩
  have hx1 := x1 dq osq
  have hy1 := y1 dq osq
  have hB : Below w.heap.size w (grow (redrawn W3 dq) osq) := HB3.out.trans ((below_regrown W3 dq osq).mono (by omega))
  clear s0 s1 x1 y1 hA2
  by_cases h2 : lenW wss x.2 = lenW wss y.2
  ·
   have hn2 : (lenW wss x.2 != lenW wss y.2) = false := by simp [h2]
   have HE := Lib.hid (lessH_3 H1.out h2)
   clear h2
   go_wp2
   go_ret
   exact ⟨by rw [HE.out]; rfl, hB⟩
  ·
   have hn2 : (lenW wss x.2 != lenW wss y.2) = true := by simp [h2]
   have HE := Lib.hid (lessH_2 H1.out h2)
   clear h2
   go_wp2
   go_ret
   exact ⟨by rw [HE.out]; rfl, hB⟩
 ·
  have hne : ((x.1 : Int) != y.1) = true := by simp [h1]
  have HE := Lib.hid (lessH_1 (wss := wss) h1)
  clear h1
  go_enter Tryz.func82, Tryz.ntmps82
  go_wp2
  go_ret
  exact ⟨by rw [HE.out]; rfl, hB3⟩

set_option maxRecDepth 100000 in
set_option maxHeartbeats 4000000 in
theorem rput_any (fold : Bool) (a b : Option Addr) (la ca lb cb : Nat) (l : List HitP) (h : HitP) (wss : List (List Int)) (w : World) (hA : Wds w a la wss) (hL : Hts w b lb l) (hla : la ≤ 1000000) (hlb : lb ≤ 1000000000) (hcb : lb ≤ cb) :
  Calls Tryz.prog 81 #[.agg (setV fold a la ca), .slice b lb cb, .agg #[.int .i64 h.1, .int .i64 h.2]] w fun e w' => ∃ v, e = .returned v ∧ OwnH w' w.heap.size v (putH wss l h) ∧ Below w.heap.size w w' := by
 obtain ⟨i0, hi, hz0, hz1, hz2⟩ := info_parts hit_info
 have HLN := Lib.hid hL.len
 have hB2 : Below w.heap.size w ((w.alloc (.cells (setV fold a la ca) 24)).alloc (.cells #[.int .i64 h.1, .int .i64 h.2] 87)) :=
  ((Below.refl _ _).alloc (Nat.le_refl _) _).alloc (by simp) _
 have b0 : ((w.alloc (.cells (setV fold a la ca) 24)).alloc (.cells #[.int .i64 h.1, .int .i64 h.2] 87)).heap[w.heap.size]? = some (.cells (setV fold a la ca) 24 (0, 0)) :=
  (Below.heap_alloc _ _ _ (by simp)).trans (World.alloc_heap_new _ _)
 have b1 : ((w.alloc (.cells (setV fold a la ca) 24)).alloc (.cells #[.int .i64 h.1, .int .i64 h.2] 87)).heap[w.heap.size + 1]? = some (.cells #[.int .i64 h.1, .int .i64 h.2] 87 (0, 0)) :=
  alloc_at (by simp) _
 go_enter Tryz.func81, Tryz.ntmps81
 go_upto_block 0 with fail
 go_cut [7] (fun s7 wx => ∃ k : Nat, k ≤ lb ∧ s7 = .int .i64 k ∧ Hid (putN wss l h = k) ∧ Below w.heap.size w wx ∧ wx.heap[w.heap.size + 1]? = some (.cells #[.int .i64 h.1, .int .i64 h.2] 87 (0, 0)))
 case first =>
  go_wp2_with fail
  go_loopw [7] (fun s7 wr => ∃ k : Nat, k ≤ lb ∧ s7 = .int .i64 k ∧ Hid (∀ x ∈ l.drop k, lessH wss h x = true) ∧ Below w.heap.size w wr ∧ wr.heap[w.heap.size]? = some (.cells (setV fold a la ca) 24 (0, 0)) ∧ wr.heap[w.heap.size + 1]? = some (.cells #[.int .i64 h.1, .int .i64 h.2] 87 (0, 0))) (fun i _ => (intOf i).toNat)
  case atStart => exact ⟨lb, Nat.le_refl _, rfl, (by rw [Hid, List.drop_of_length_le (by rw [HLN.out]; exact Nat.le_refl _)]; simp), hB2, b0, b1⟩
  case round =>
   clear hB2 b0 b1
   obtain ⟨k, hk, rfl, HK, hBe, b0, b1⟩ := hrel
   by_cases h0 : 0 < k
   ·
    obtain ⟨j, rfl⟩ : ∃ j, k = j + 1 := ⟨k - 1, by omega⟩
    have hLr := hL.below hBe
    obtain ⟨bb, off, x, rfl, hbl, cx0, cx1, hx, _, _⟩ := hLr.at_ (show j < lb by omega)
    have hz : w.heap.size + 1 < wr.heap.size := (Array.getElem?_eq_some_iff.1 b1).1
    have cell : ∀ (n i : Nat) (cs : Array Value) (t : TypeId) (v : Value), n < wr.heap.size → wr.heap[n]? = some (.cells cs t (0, 0)) → cs[i]? = some v → ∀ d os, (grow (redrawn wr d) os).cell? ⟨n, i, none⟩ = some v := fun n i cs t v hn hb hv d os =>
     ((below_regrown wr d os).cell (p := ⟨n, i, none⟩) hn).trans (by simp [World.cell?, hb, hv])
    have s0 := cell w.heap.size 0 _ _ (.bool fold) (by omega) b0 rfl
    have s1 := cell w.heap.size 1 _ _ (.slice a la ca) (by omega) b0 rfl
    have h0' := cell (w.heap.size + 1) 0 _ _ (.int .i64 h.1) (by omega) b1 rfl
    have h1' := cell (w.heap.size + 1) 1 _ _ (.int .i64 h.2) (by omega) b1 rfl
    have x0 : ∀ d os, (grow (redrawn wr d) os).cell? ⟨bb, off + j * 2, none⟩ = some (.int .i64 x.1) := fun d os => ((below_regrown wr d os).cell (p := ⟨bb, off + j * 2, none⟩) hbl).trans cx0
    have x1 : ∀ d os, (grow (redrawn wr d) os).cell? ⟨bb, off + j * 2 + 1, none⟩ = some (.int .i64 x.2) := fun d os => ((below_regrown wr d os).cell (p := ⟨bb, off + j * 2 + 1, none⟩) hbl).trans cx1
    have hA2 : ∀ d os, Wds (grow (redrawn wr d) os) a la wss := fun d os => (hA.below hBe).below (below_regrown wr d os)
    have HX := Lib.hid hx
    have hjl : j < lb := by omega
    clear cell cx0 cx1 hx h0 hLr
    go_wp2
    refine wp_region_quiet_below mixed (by kernel_rfl) ?_
    repeat (go_big_quiet_step (exact grown_below (rless6_any fold a la ca h x wss _ (hA2 _ _) hla)))
    refine wpQuiet_nil ?_
    rintro _ ⟨⟨dq, osq⟩, rfl⟩
    have hBq := below_regrown wr dq osq
    have hB1 : Below w.heap.size w (grow (redrawn wr dq) osq) := hBe.trans (hBq.mono hBe.size)
    have c0 : (grow (redrawn wr dq) osq).heap[w.heap.size]? = _ := (hBq.block _ (by omega)).trans b0
    have c1 : (grow (redrawn wr dq) osq).heap[w.heap.size + 1]? = _ := (hBq.block _ hz).trans b1
    clear s0 s1 h0' h1' x0 x1 hA2 b0 b1 hBe hBq
    cases e : lessH wss h x with
    | true =>
     have HK2 : Hid (∀ x ∈ l.drop j, lessH wss h x = true) := by
      have hj' : j < l.length := (List.getElem?_eq_some_iff.1 HX.out).1
      have e2 : l.drop j = x :: l.drop (j + 1) := by
       rw [List.drop_eq_getElem_cons hj', (List.getElem?_eq_some_iff.1 HX.out).2]
      rw [Hid, e2]
      intro z hz
      rcases List.mem_cons.1 hz with rfl | hz
      · exact e
      · exact HK.out z hz
     go_wp2
     go_roundw
     case rel => exact ⟨j, by omega, by go_num, HK2, hB1, c0, c1⟩
     case measure => simp [intOf]; try omega
    | false =>
     have HP : Hid (putN wss l h = j + 1) := putN_is (by rw [HLN.out]; exact hk) HK.out (fun z _ hz => by
      rw [Nat.add_sub_cancel, HX.out] at hz
      rw [← Option.some.inj hz]; exact e)
     go_wp2_with fail
     go_meet
     exact ⟨j + 1, hk, by go_num, HP, hB1, c1⟩
   ·
    obtain rfl : k = 0 := by omega
    have HP : Hid (putN wss l h = 0) := putN_is (by omega) HK.out (fun z hz _ => absurd hz (by omega))
    go_wp2
    go_quiet (fail)
    go_wp2_with fail
    go_meet
    exact ⟨0, by omega, by go_num, HP, hBe.trans ⟨rfl, rfl, rfl, Nat.le_refl _, fun _ _ => rfl⟩, b1⟩
 case rest =>
  obtain ⟨k, hk, rfl, HP, hB, c1⟩ := hcut
  clear hB2 b0 b1
  have hT := (hL.below hB).take hk
  have hz : w.heap.size + 1 < wc.heap.size := (Array.getElem?_eq_some_iff.1 c1).1
  go_upto_region 6 with (at_builtin; refine wpList_append_slK rfl _ _ 67 rfl w.heap.size 87 i0 (.agg #[.int .i64 0, .int .i64 0]) 2 16 Tryz.underlying67 hi hz0 hz1 hz2 rfl (by decide) _ _ _ rfl (World.ownsRow_nil wc w.heap.size 87 2) b k cb (hcells (l.take k)) rfl hT.1 (hcells_one _) (by unfold maxLen; omega) (by omega) (by omega) ?_; intro v1 w3 hown1 hgrow1 hat1)
  simp only [Nat.zero_add, List.nil_append] at hown1
  have hB3 : Below w.heap.size w w3 := hB.grown hgrow1 (by omega) (fun j hj => by cases hj)
  have d1 : w3.heap[w.heap.size + 1]? = some (.cells #[.int .i64 h.1, .int .i64 h.2] 87 (0, 0)) := (hgrow1.block _ hz (by intro e; cases e)).trans c1
  have q0 : w3.cell? ⟨w.heap.size + 1, 0, none⟩ = some (.int .i64 h.1) := by simp [World.cell?, d1]
  have q1 : w3.cell? ⟨w.heap.size + 1, 1, none⟩ = some (.int .i64 h.2) := by simp [World.cell?, d1]
  have hs3 := hB3.size
  go_upto_region 7 with (at_builtin; refine wpList_append_own _ rfl _ _ 67 rfl w.heap.size 87 i0 (.agg #[.int .i64 0, .int .i64 0]) 2 16 Tryz.underlying67 hi hz0 hz1 hz2 rfl (by decide) _ _ _ rfl (hown1.alloc _) ⟨w3.heap.size, 0, none⟩ 1 1 [.int .i64 h.1, .int .i64 h.2] rfl rfl (cells_new _ _ (by simp)) (by simp [Value.oneCell']) (by unfold maxLen; omega) (by omega) (by simp; omega) ?_; intro v2 w4 hown2 hgrow2 hnil2)
  have hB4 : Below w.heap.size w w4 := below_append (base := 0) hB3 hown1 hgrow2
  have hR := (hL.below hB4).rest hk hcb
  have hs4 := hB4.size
  have E1 : Hid ((putH wss l h).length = k + 1 + (lb - k)) := by unfold Hid putH; rw [HP.out, List.length_append, List.length_cons, List.length_take, List.length_drop, HLN.out]; omega
  have E2 : Hid (hcells (putH wss l h) = hcells (l.take k) ++ [Value.int .i64 h.1, Value.int .i64 h.2] ++ hcells (l.drop k)) := by unfold Hid putH; rw [HP.out]; simp [hcells, hitE]
  clear q0 q1 hgrow1 hgrow2
  go_wp2_with (at_builtin; refine wpList_append_slK rfl _ _ 67 rfl w.heap.size 87 i0 (.agg #[.int .i64 0, .int .i64 0]) 2 16 Tryz.underlying67 hi hz0 hz1 hz2 rfl (by decide) _ _ _ rfl hown2 (if cb = k then b else Option.map (fun x => x.add (k * 2)) b) (lb - k) (cb - k) (hcells (l.drop k)) rfl hR.1 (hcells_one _) (by unfold maxLen; omega) (by omega) (by omega) ?_; intro v3 w5 hown3 hgrow3 hat3)
  all_goals
   have hB5 : Below w.heap.size w w5 := hB4.grown hgrow3 (by omega) (fun j hj => (hown2.lt j hj).1)
   go_ret
   refine ⟨_, rfl, ?_, hB5⟩
   unfold OwnH
   rw [E1.out, E2.out]
   exact hown3

end Go.Proofs.YtbldfgaogmfoaaaGreat

/- All hits of a text, as the document has them (layer 6): walked. -/

namespace Go.Proofs.YtbldfgaogmfoaaaGreat
open Go.RowKit Go.Sort

theorem OwnH.below {w w' : World} {base : Nat} {v : Value} {l : List HitP} (h : OwnH w base v l) (hb : Below w.heap.size w w') : OwnH w' base v l := by
 obtain ⟨h1, h2 | ⟨g, cap, cur, e, hg, hh, hr⟩⟩ := h
 · exact ⟨h1, .inl h2⟩
 · exact ⟨h1, .inr ⟨g, cap, cur, e, hg, (hb.block g (Array.getElem?_eq_some_iff.1 hh).1).trans hh, hr⟩⟩
theorem hereD_bd {fold : Bool} {wss : List (List Int)} {frm : Int} {text : List Int} {p n : Nat} (h0 : 0 ≤ frm) (h1 : frm ≤ 4611686018427387904) (hp : p ≤ 1000001) (hn : n ≤ 1000000) : ∀ h ∈ hereD fold wss frm text p n, I64 h.1 ∧ I64 h.2 := by
 intro h hm
 obtain ⟨k, hk, _, rfl⟩ := mem_hereD.1 hm
 unfold I64
 dsimp only
 omega
theorem hereD_le (fold : Bool) (wss : List (List Int)) (frm : Int) (text : List Int) (p n : Nat) : (hereD fold wss frm text p n).length ≤ n := by
 rw [hereD_length]
 have := List.length_filter_le (fun k => stands fold wss text p k) (List.range n)
 simpa using this
theorem occTo_le (fold : Bool) (wss : List (List Int)) (frm : Int) (text : List Int) : ∀ n, (occTo fold wss frm text n).length ≤ n * wss.length
 | 0 => by simp [occTo]
 | n + 1 => by
  have h1 := occTo_le fold wss frm text n
  have h2 := hereD_le fold wss frm text n wss.length
  rw [occTo_succ, List.length_append, Nat.add_mul, Nat.one_mul]
  omega

set_option maxRecDepth 100000 in
set_option maxHeartbeats 8000000 in
theorem rocc_yes (fold : Bool) (a b : Option Addr) (la ca lb cb : Nat) (frm : Int) (text : List Int) (wss : List (List Int)) (w : World) (hA : Wds w a la wss) (hL : Bys w b lb text) (hla : la ≤ 1000) (hlb : lb ≤ 1000000) (hcb : lb ≤ cb) (hM : ∀ x ∈ wss, x.length ≤ 1000000) (hm : mayP fold wss frm = true) :
  Calls Tryz.prog 42 #[.agg (setV fold a la ca), .int .i64 frm, .slice b lb cb] w fun e w' => ∃ v, e = .returned (.tuple #[v, .int .i64 0]) ∧ OwnH w' w.heap.size v (occD fold wss frm text) ∧ Below w.heap.size w w' := by
 obtain ⟨i0, hi, hz0, hz1, hz2⟩ := info_parts hit_info
 have hB0 : Below w.heap.size w (w.alloc (.cells (setV fold a la ca) 24)) := (Below.refl _ _).alloc (Nat.le_refl _) _
 have hnew := World.alloc_heap_new w (.cells (setV fold a la ca) 24)
 obtain ⟨hf0, hf1⟩ := mayP_frm hm
 unfold mayP at hm
 rw [right_eq, decide_eq_true ⟨hf0, hf1⟩, Bool.true_and] at hm
 have HM := Lib.hid hm
 have HWL := Lib.hid hA.len
 have HTL := Lib.hid hL.len
 clear hm
 go_enter Tryz.func42, Tryz.ntmps42
 go_wp2_with fail
 refine (rright_any fold a la ca wss _ (hA.below hB0) (by omega) hM).mono ?_
 rintro e w1 ⟨rfl, hb⟩
 rw [HM.out]
 have hB1 : Below w.heap.size w w1 := hB0.trans (hb.mono (by simp))
 have n1 : w1.heap[w.heap.size]? = some (.cells (setV fold a la ca) 24 (0, 0)) := (hb.block _ (by simp)).trans hnew
 clear hb hnew hB0
 go_wp2
 go_loopw [8, 9, 10, 11] (fun s8 s9 _ _ wr => ∃ (p : Nat) (v : Value), v = s8 ∧ p ≤ lb + 1 ∧ s9 = .int .i64 p ∧ OwnH wr w.heap.size v (occTo fold wss frm text p) ∧ Below w.heap.size w wr ∧ wr.heap[w.heap.size]? = some (.cells (setV fold a la ca) 24 (0, 0))) (fun _ s9 _ _ _ => lb + 1 - (intOf s9).toNat)
 case atStart => exact ⟨0, _, rfl, by omega, rfl, World.ownsRow_nil _ _ _ _, hB1, n1⟩
 case round =>
  clear hB1 n1
  obtain ⟨p, v, rfl, hp, rfl, hown, hBe, n1⟩ := hrel
  have hol := occTo_le fold wss frm text p
  have hom : p * wss.length ≤ 1000001 * 1000 := Nat.mul_le_mul (by omega) (by rw [HWL.out]; exact hla)
  by_cases hlt : p ≤ lb
  ·
   have hd : decide ((p : Int) ≤ lb) = true := by simp; omega
   go_upto_block 2 with fail
   go_cut [10] (fun s10 wx => ∃ (a' : Option Addr) (c' : Nat) (l : List HitP), s10 = .slice a' l.length c' ∧ l.length ≤ c' ∧ Hid (l = hereD fold wss frm text p la) ∧ Hts wx a' l.length l ∧ OwnH wx w.heap.size v (occTo fold wss frm text p) ∧ Below w.heap.size w wx ∧ wx.heap[w.heap.size]? = some (.cells (setV fold a la ca) 24 (0, 0)))
   case first =>
    go_wp2_with fail
    go_loopw [10, 11] (fun s10 s11 wx => ∃ (k : Nat) (a' : Option Addr) (c' : Nat) (l : List HitP), k ≤ la ∧ s11 = .int .i64 k ∧ s10 = .slice a' l.length c' ∧ l.length ≤ c' ∧ Hid (l = hereD fold wss frm text p k) ∧ Hts wx a' l.length l ∧ OwnH wx w.heap.size v (occTo fold wss frm text p) ∧ Below w.heap.size w wx ∧ wx.heap[w.heap.size]? = some (.cells (setV fold a la ca) 24 (0, 0))) (fun _ s11 _ => la - (intOf s11).toNat)
    case atStart => exact ⟨0, none, 0, [], Nat.zero_le _, rfl, rfl, Nat.le_refl _, rfl, ⟨⟨rfl, .inl rfl⟩, by simp⟩, hown, hBe, n1⟩
    case round =>
     clear hown hBe n1
     obtain ⟨k, a', c', l, hk, rfl, rfl, hlc, HH, hts, hown, hBe, n1⟩ := hrel
     have n0 : w.heap.size < wr.heap.size := (Array.getElem?_eq_some_iff.1 n1).1
     have s0 : ∀ d os, (grow (redrawn wr d) os).cell? ⟨w.heap.size, 0, none⟩ = some (.bool fold) := fun d os => ((below_regrown wr d os).cell (p := ⟨w.heap.size, 0, none⟩) n0).trans (by simp [World.cell?, n1])
     have s1 : ∀ d os, (grow (redrawn wr d) os).cell? ⟨w.heap.size, 1, none⟩ = some (.slice a la ca) := fun d os => ((below_regrown wr d os).cell (p := ⟨w.heap.size, 1, none⟩) n0).trans (by simp [World.cell?, n1])
     have t1 : wr.cell? ⟨w.heap.size, 1, none⟩ = some (.slice a la ca) := by simp [World.cell?, n1]
     by_cases hkl : k < la
     ·
      obtain ⟨bb, off, aw, lw, cw, x, rfl, hbl, hcell, hx, hX, hlc2⟩ := (hA.below hBe).at_ hkl
      have hlw : lw ≤ 1000000 := by have := mem_bd hM hx; rw [hX.len] at this; exact this
      have hcell2 : ∀ d os, (grow (redrawn wr d) os).cell? ⟨bb, off + k, none⟩ = some (.slice aw lw cw) := fun d os => ((below_regrown wr d os).cell (p := ⟨bb, off + k, none⟩) hbl).trans hcell
      have hX2 : ∀ d os, Bys (grow (redrawn wr d) os) aw lw x := fun d os => hX.below (below_regrown wr d os)
      have hL2 : ∀ d os, Bys (grow (redrawn wr d) os) b lb text := fun d os => (hL.below hBe).below (below_regrown wr d os)
      have HST : Hid (stands fold wss text p k = atL fold text (p : Int) x) := stands_is hx
      have hdk : decide ((k : Int) < la) = true := by simp; omega
      clear hx hcell
      go_wp2
      refine wp_region_quiet_below mixed (by kernel_rfl) ?_
      repeat (go_big_quiet_step (exact grown_below (rat_any fold b aw lb cb lw cw (p : Int) text x _ (hL2 _ _) (hX2 _ _) hcb hlb hlw (by omega))))
      refine wpQuiet_nil ?_
      rintro _ ⟨⟨dq, osq⟩, rfl⟩
      have hBq := below_regrown wr dq osq
      have hB5 : Below w.heap.size w (grow (redrawn wr dq) osq) := hBe.trans (hBq.mono hBe.size)
      have m1 : (grow (redrawn wr dq) osq).heap[w.heap.size]? = _ := (hBq.block _ n0).trans n1
      have hown5 := hown.below hBq
      have hts5 := hts.below hBq
      have q0 := s0 dq osq
      have q1 := s1 dq osq
      clear s0 s1 t1 hcell2 hX2 hL2 hX n1 hBe hown hts
      obtain ⟨W5, hW5⟩ : ∃ W5, W5 = grow (redrawn wr dq) osq := ⟨_, rfl⟩
      rw [← hW5] at hB5 m1 hown5 hts5 q0 q1 ⊢
      clear hW5 hBq
      cases e : atL fold text (p : Int) x with
      | false =>
       have HH2 : Hid (l = hereD fold wss frm text p (k + 1)) := by rw [Hid, hereD_succ, HST.out, e, HH.out]; rfl
       go_wp2
       go_roundw
       case rel => exact ⟨k + 1, a', c', l, by omega, by go_num, rfl, hlc, HH2, hts5, hown5, hB5, m1⟩
       case measure => simp [intOf]; omega
      | true =>
       have HH2 : Hid (putH wss l (frm + (p : Int), (k : Int)) = hereD fold wss frm text p (k + 1)) := by rw [Hid, hereD_succ, HST.out, e, HH.out]; rfl
       have hll : l.length ≤ 1000000 := by rw [HH.out]; have := hereD_le fold wss frm text p k; omega
       have hb' : ∀ x ∈ putH wss l (frm + (p : Int), (k : Int)), I64 x.1 ∧ I64 x.2 := by rw [HH2.out]; exact hereD_bd hf0 hf1 (by omega) (by omega)
       have HB' := Lib.hid hb'
       have hA5 := hA.below hB5
       clear hb'
       go_wp2_with fail
       refine (rput_any fold _ a' la ca l.length c' l (frm + (p : Int), (k : Int)) wss _ hA5 hts5 (by omega) (by omega) hlc).mono ?_
       rintro e w6 ⟨v6, rfl, hown6, hb6⟩
       obtain ⟨a2, c2, rfl, hc2, hts6⟩ := hown6.hts HB'.out
       have hB6 : Below w.heap.size w w6 := hB5.trans (hb6.mono hB5.size)
       have m6 : w6.heap[w.heap.size]? = _ := (hb6.block _ (Array.getElem?_eq_some_iff.1 m1).1).trans m1
       have hown7 := hown5.below hb6
       clear hown6 hown5 hts5 q0 q1 hb6 m1 hB5 hA5
       go_wp2
       go_roundw
       case rel => exact ⟨k + 1, a2, c2, _, by omega, by go_num, rfl, hc2, HH2, hts6, hown7, hB6, m6⟩
       case measure => simp [intOf]; omega
     ·
      obtain rfl : k = la := by omega
      have hdk : decide ((k : Int) < k) = false := by simp
      go_wp2_with fail
      go_meet
      exact ⟨a', c', l, rfl, hlc, HH, hts, hown, hBe, n1⟩
   case rest =>
    clear hown hBe n1
    obtain ⟨a', c', l, rfl, hlc, HH, hts, hown, hBe, n1⟩ := hcut
    have n0 : w.heap.size < wc.heap.size := (Array.getElem?_eq_some_iff.1 n1).1
    have hll : l.length ≤ 1000000 := by rw [HH.out]; have := hereD_le fold wss frm text p la; omega
    have hne := own_far hown n1 (of_decide_eq_true (by kernel_rfl))
    have HS : Hid (occTo fold wss frm text (p + 1) = occTo fold wss frm text p ++ l) := by rw [Hid, occTo_succ, HWL.out, HH.out]
    obtain ⟨m, hm⟩ : ∃ m, (occTo fold wss frm text p).length = m := ⟨_, rfl⟩
    unfold OwnH at hown
    rw [hm] at hown hol
    have HM2 := Lib.hid hm
    clear hm
    go_wp2_with (at_builtin; refine wpList_append_slK rfl _ _ 67 rfl w.heap.size 87 i0 (.agg #[.int .i64 0, .int .i64 0]) 2 16 Tryz.underlying67 hi hz0 hz1 hz2 rfl (by decide) _ _ _ rfl hown a' l.length c' (hcells l) rfl hts.1 (hcells_one l) (by unfold maxLen; omega) (by omega) hBe.size ?_; intro v' w5 hown' hgrow hat)
    have hB5 : Below w.heap.size w w5 := hBe.grown hgrow hBe.size (fun j hj => (hown.lt j hj).1)
    have n5 : w5.heap[w.heap.size]? = _ := (hgrow.block _ n0 (Ne.symm hne)).trans n1
    go_roundw
    case rel =>
     refine ⟨p + 1, _, rfl, by omega, by go_num, ?_, hB5, n5⟩
     unfold OwnH
     rw [HS.out, List.length_append, HM2.out, hcells_append]
     exact hown'
    case measure => simp [intOf]; omega
  ·
   obtain rfl : p = lb + 1 := by omega
   have HO : Hid (occTo fold wss frm text (lb + 1) = occD fold wss frm text) := by unfold Hid occD; rw [HTL.out]
   rw [HO.out] at hown
   go_wp2
   go_ret2
   exact ⟨_, rfl, hown, hBe⟩

end Go.Proofs.YtbldfgaogmfoaaaGreat
