/- Parts of the proof, one behind the other: O2, O3, Fs, Tp, Tq, Cp, H2, U1. No condition but what each theorem states. -/
import Derived.Maps.AppendAt
import Derived.Deep.Matrix
import Derived.Shelf.SlGeneric
import Derived.Shelf.SlLaysF
import Derived.Test.YtjfhefffbkpgkaaGreatProg
import Derived.Shelf.Small.Strs
import Derived.Shelf.SlSortCmp.NoneTotal
import Derived.Test.YtjfhefffbkpgkaaGreatQ1
import Derived.Test.YtjfhefffbkpgkaaGreatQ2
import Derived.Test.YtjfhefffbkpgkaaGreatQ3
import Derived.Test.YtjfhefffbkpgkaaGreatQ4

/- Where words stand in a text (layer 6): the test and the iterator, walked. -/


namespace Go.Proofs.YtjfhefffbkpgkaaGreat
open Go.RowKit Go.Sort
set_option linter.unusedVariables false
attribute [local go_sem] Oper.semAt_some
attribute [local simp] wide_fn wide_depth
attribute [local go_sem] wide_fn wide_depth

theorem stands_is {fold : Bool} {wss : List (List Int)} {text : List Int} {p k : Nat} {x : List Int} (hx : wss[k]? = some x) : stands fold wss text p k = atL fold text (p : Int) x := by
  unfold stands
  rw [hx, Option.getD_some]

abbrev StP := { p : Nat × Nat // p.1 ≤ 1000000 ∧ p.2 ≤ 1000000 }
def stEnc (p : StP) : Array Value := #[.int .i64 p.1.1, .int .i64 p.1.2]
/-- What the caller's rounds keep: blocks, and the two cells of the set. -/
def keepG (S : Nat → Prop) (g : Nat) (W W' : World) : Prop := keepOn S W W' ∧ W'.cell? ⟨g, 0, none⟩ = W.cell? ⟨g, 0, none⟩ ∧ W'.cell? ⟨g, 1, none⟩ = W.cell? ⟨g, 1, none⟩ ∧ W.heap.size ≤ W'.heap.size
theorem keepG_t {S : Nat → Prop} {g : Nat} {A B C : World} (h : keepG S g A B) (k : keepG S g B C) : keepG S g A C := ⟨keepOn_t h.1 k.1, k.2.1.trans h.2.1, k.2.2.1.trans h.2.2.1, Nat.le_trans h.2.2.2 k.2.2.2⟩
theorem keepG_b {S : Nat → Prop} {g : Nat} {w : World} (hb : ∀ k, S k → k < w.heap.size) (hg : g < w.heap.size) (W : World) (l : Nat) (o o' : Obj) (hl : w.heap.size ≤ l) (h1 : W.heap[l]? = some o) (h2 : o.isCells = false) (h3 : o.isWalk = false) : keepG S g W (W.putObj l o') :=
  ⟨keepOn_b hb W l o o' hl h1 h2 h3, World.cell?_of_block (World.putObj_heap_other (by show g ≠ l; omega)), World.cell?_of_block (World.putObj_heap_other (by show g ≠ l; omega)), by simp [World.putObj]⟩
theorem keepG_below {S : Nat → Prop} {g : Nat} {w w' : World} (h : Below w.heap.size w w') (hS : ∀ k, S k → k < w.heap.size) (hg : g < w.heap.size) : keepG S g w w' := ⟨keepOn_of_below h hS, h.cell (p := ⟨g, 0, none⟩) hg, h.cell (p := ⟨g, 1, none⟩) hg, h.size⟩

/-- Some places' words. -/
def rowTo (fold : Bool) (wss : List (List Int)) (text : List Int) (p j : Nat) : List (Nat × Nat) := ((List.range j).filter fun k => stands fold wss text p k).map fun k => (p, k)
theorem rowTo_succ (fold : Bool) (wss : List (List Int)) (text : List Int) (p j : Nat) : rowTo fold wss text p (j + 1) = if stands fold wss text p j then rowTo fold wss text p j ++ [(p, j)] else rowTo fold wss text p j := by
  unfold rowTo
  rw [List.range_succ, List.filter_append]
  cases e : stands fold wss text p j <;> simp [e]
theorem rawTo_succ (fold : Bool) (wss : List (List Int)) (text : List Int) (n : Nat) : rawTo fold wss text (n + 1) = rawTo fold wss text n ++ rowTo fold wss text n wss.length := by
  simp [rawTo, rowTo, List.range_succ]
theorem rowTo_length (fold : Bool) (wss : List (List Int)) (text : List Int) (p j : Nat) : (rowTo fold wss text p j).length ≤ j := by
  unfold rowTo
  rw [List.length_map]
  have := List.length_filter_le (fun k => stands fold wss text p k) (List.range j)
  simpa using this
theorem rawTo_length (fold : Bool) (wss : List (List Int)) (text : List Int) : ∀ n, (rawTo fold wss text n).length ≤ n * wss.length
  | 0 => by simp [rawTo]
  | n + 1 => by
    have h1 := rawTo_length fold wss text n
    have h2 := rowTo_length fold wss text n wss.length
    rw [rawTo_succ, List.length_append, Nat.add_mul]
    omega

theorem rowTo_pre (fold : Bool) (wss : List (List Int)) (text : List Int) (p j : Nat) : ∀ m, j ≤ m → rowTo fold wss text p j <+: rowTo fold wss text p m := by
  intro m
  induction m with
  | zero => intro h; rw [show j = 0 by omega]; exact List.prefix_refl _
  | succ m ih =>
    intro h
    by_cases e : j = m + 1
    · rw [e]; exact List.prefix_refl _
    · refine (ih (by omega)).trans ?_
      rw [rowTo_succ]
      split
      · exact List.prefix_append _ _
      · exact List.prefix_refl _
theorem rawTo_pre (fold : Bool) (wss : List (List Int)) (text : List Int) (n : Nat) : ∀ m, n ≤ m → rawTo fold wss text n <+: rawTo fold wss text m := by
  intro m
  induction m with
  | zero => intro h; rw [show n = 0 by omega]; exact List.prefix_refl _
  | succ m ih =>
    intro h
    by_cases e : n = m + 1
    · rw [e]; exact List.prefix_refl _
    · refine (ih (by omega)).trans ?_
      rw [rawTo_succ]
      exact List.prefix_append _ _
theorem rawTo_part {fold : Bool} {wss : List (List Int)} {text : List Int} {p j n : Nat} (hp : p < n) (hj : j ≤ wss.length) : rawTo fold wss text p ++ rowTo fold wss text p j <+: rawTo fold wss text n := by
  refine List.IsPrefix.trans ?_ (rawTo_pre fold wss text (p + 1) n hp)
  rw [rawTo_succ]
  exact (List.prefix_append_right_inj _).2 (rowTo_pre fold wss text p j _ hj)

end Go.Proofs.YtjfhefffbkpgkaaGreat

/- Slices of cells, slices of hits; append of them (layer 6). -/




namespace Go.Proofs.YtjfhefffbkpgkaaGreat
open Go.RowKit Go.Sort
set_option linter.unusedVariables false

/-- A slice whose elements have some cells each: what they hold. -/
def SlK (size : Nat) (w : World) (a : Option Addr) (len : Nat) (cs : List Value) : Prop :=
  cs.length = len * size ∧ (len = 0 ∨ ∃ b off, a = some ⟨b, off, none⟩ ∧ b < w.heap.size ∧ ∀ (i : Nat) (u : Value), cs[i]? = some u → w.cell? ⟨b, off + i, none⟩ = some u)
theorem SlK.below {size : Nat} {w w' : World} {a : Option Addr} {len : Nat} {cs : List Value} (h : SlK size w a len cs) (hb : Below w.heap.size w w') : SlK size w' a len cs := by
  obtain ⟨h1, h2 | ⟨b, off, e, hlt, hc⟩⟩ := h
  · exact ⟨h1, .inl h2⟩
  · exact ⟨h1, .inr ⟨b, off, e, Nat.lt_of_lt_of_le hlt hb.size, fun i u hu => (hb.cell (p := ⟨b, off + i, none⟩) hlt).trans (hc i u hu)⟩⟩
theorem SlK.kept {size : Nat} {w w' : World} {a : Option Addr} {len : Nat} {cs : List Value} (h : SlK size w a len cs) (hk : kept w w') (hs : w.heap.size ≤ w'.heap.size) : SlK size w' a len cs := by
  obtain ⟨h1, h2 | ⟨b, off, e, hlt, hc⟩⟩ := h
  · exact ⟨h1, .inl h2⟩
  · exact ⟨h1, .inr ⟨b, off, e, Nat.lt_of_lt_of_le hlt hs, fun i u hu => (kept_cell hk (p := ⟨b, off + i, none⟩) hlt).trans (hc i u hu)⟩⟩
theorem SlK.news {size : Nat} {w : World} {ad : Addr} {m : Nat} {cs : List Value} (h : SlK size w (some ad) m cs) : ∀ j u, cs[j]? = some u → w.cell? (ad.add j) = some u := by
  intro j u hu
  obtain ⟨h1, h2⟩ := h
  have hj := (List.getElem?_eq_some_iff.1 hu).1
  have h0 : m ≠ 0 := by
    intro e
    subst e
    rw [h1, Nat.zero_mul] at hj
    omega
  obtain ⟨b, off, e, hlt, hc⟩ := h2.resolve_left h0
  obtain rfl := Option.some.inj e
  rw [add_plain]
  exact hc j u hu
theorem SlK.own {size base n : Nat} {w : World} {e : TypeId} {v : Value} {cs : List Value} (h : w.ownsRow base e size v n cs) : ∃ a c, v = .slice a n c ∧ n ≤ c ∧ SlK size w a n cs := by
  have hl := h.1
  rcases h.2 with ⟨rfl, rfl⟩ | ⟨g, cap, cur, rfl, hg, hh, hn, _, _, hc⟩
  · exact ⟨none, 0, rfl, Nat.le_refl _, hl, .inl rfl⟩
  · refine ⟨_, cap, rfl, hn, hl, .inr ⟨g, 0, rfl, (Array.getElem?_eq_some_iff.1 hh).1, fun i x hx => ?_⟩⟩
    have := h.cells (g := g) rfl i x hx
    rwa [add_plain] at this

theorem run_append_slK {P : Program} (w : World) (base : Nat) (t ty e : TypeId) (i : TypeInfo) (z : Value) (size bytes : Nat) (ht : P.underlying t = some (.slice e)) (hi : P.info? e = some i) (hz : i.zero = some z)
    (hsize : i.size = size) (hby : i.bytes = bytes) (hzs : z.cells.size = size) (hsz : 0 < size) (v : Value) (n : Nat) (xs : List Value) (hown : w.ownsRow base e size v n xs)
    (A : Option Addr) (m c : Nat) (cs : List Value) (hs : SlK size w A m cs) (hone : ∀ u ∈ cs, u.oneCell' = true) (h63 : n + m ≤ maxLen) (hbytes : (n + m) * bytes ≤ 140737488355328) (hbase : base ≤ w.heap.size) :
    ∃ v' w', (Builtin.append_ #[t, t] ty #[v, .slice A m c]).run P w = .ok v' w' ∧ w'.ownsRow base e size v' (n + m) (xs ++ cs) ∧ w.grownBy w' v.ownBlock ∧
      (v'.ownBlock = v.ownBlock ∨ v'.ownBlock = some w.heap.size) := by
  cases A with
  | some ad =>
    obtain ⟨v', w', hr, h2, h3, _, h5⟩ := run_append_own_at (P := P) w base t ty e i z size bytes ht hi hz hsize hby hzs hsz v n xs hown ad m c cs hs.1 hs.news hone h63 hbytes hbase
    exact ⟨v', w', hr, h2, h3, h5⟩
  | none =>
    have hm : m = 0 := hs.2.elim id fun ⟨b, off, e, _⟩ => by cases e
    subst hm
    have hy : cs = [] := List.eq_nil_of_length_eq_zero (by rw [hs.1, Nat.zero_mul])
    subst hy
    refine ⟨v, w, ?_, by simpa using hown, World.grownBy.refl w _, .inl rfl⟩
    rcases hown.2 with ⟨rfl, rfl⟩ | ⟨g, cap, cur, rfl, _, _, hnc, _⟩
    · simp [Builtin.append_, run_underlying ht, sizeOf, typeInfo, hi, Builtin.lenOf, Builtin.firstCells]
    · simp [Builtin.append_, run_underlying ht, sizeOf, typeInfo, hi, Builtin.lenOf, Builtin.firstCells, hnc, storeCells]

theorem wpList_append_slK {P : Program} {w : World} {ops : Array Oper} {rest : List Oper} {o : Oper} {a : Act} {Q : Exit → Act → World → Prop} (hgd : o.guard = none) (s x : Operand) (t : TypeId)
    (ho : o.op = .call { callee := .builtin .append, args := #[s, x], argTypes := #[t, t] })
    (base : Nat) (e : TypeId) (i : TypeInfo) (z : Value) (size bytes : Nat) (ht : P.underlying t = some (.slice e)) (hi : P.info? e = some i) (hz : i.zero = some z) (hsize : i.size = size) (hby : i.bytes = bytes) (hzs : z.cells.size = size) (hsz : 0 < size)
    (v : Value) (n : Nat) (xs : List Value) (hs : a.eval s = v) (hown : w.ownsRow base e size v n xs) (A : Option Addr) (m c : Nat) (cs : List Value) (hx : a.eval x = .slice A m c) (hsl : SlK size w A m cs) (hone : ∀ u ∈ cs, u.oneCell' = true)
    (h63 : n + m ≤ maxLen) (hbytes : (n + m) * bytes ≤ 140737488355328) (hbase : base ≤ w.heap.size)
    (h : ∀ v' w', w'.ownsRow base e size v' (n + m) (xs ++ cs) → w.grownBy w' v.ownBlock → (v'.ownBlock = v.ownBlock ∨ v'.ownBlock = some w.heap.size) → wpList P ops Q rest (a.put o.dst v') w') : wpList P ops Q (o :: rest) a w := by
  refine wpList_plain hgd fun K hK => ?_
  obtain ⟨v', w', hr, h2, h3, h4⟩ := run_append_slK (P := P) w base t o.type e i z size bytes ht hi hz hsize hby hzs hsz v n xs hown A m c cs hsl hone h63 hbytes hbase
  unfold Oper.wp execOp
  simp only [ho, resolve, invoke, builtin, Sem.run_bind, Sem.run_pure, Result.andThen_ok, List.map_toArray, List.map_cons, List.map_nil, hs, hx, hr]
  exact hK _ _ (h v' w' h2 h3 h4)

theorem wpListIn_append_slK {F : Fence} {k : Nat} {P : Program} (w : World) {ops : Array Oper} {rest : List Oper} {o : Oper} {a : Act} {Q : Exit → Act → World → Prop} (hgd : o.guard = none) (s x : Operand) (t : TypeId)
    (hop : o.op = .call { callee := .builtin .append, args := #[s, x], argTypes := #[t, t] })
    (base : Nat) (e : TypeId) (i : TypeInfo) (z : Value) (size bytes : Nat) (ht : P.underlying t = some (.slice e)) (hi : P.info? e = some i) (hz : i.zero = some z) (hsize : i.size = size) (hby : i.bytes = bytes) (hzs : z.cells.size = size) (hsz : 0 < size)
    (v : Value) (n : Nat) (xs : List Value) (hs : a.eval s = v) (hown : w.ownsRow base e size v n xs) (A : Option Addr) (m c : Nat) (cs : List Value) (hx : a.eval x = .slice A m c) (hsl : SlK size w A m cs) (hone : ∀ u ∈ cs, u.oneCell' = true)
    (h63 : n + m ≤ maxLen) (hbytes : (n + m) * bytes ≤ 140737488355328) (hbase : base ≤ w.heap.size)
    (h : ∀ v' w', w'.ownsRow base e size v' (n + m) (xs ++ cs) → w.grownBy w' v.ownBlock → (v'.ownBlock = v.ownBlock ∨ v'.ownBlock = some w.heap.size) → wpListIn F k P ops Q rest (a.put o.dst v') w') : wpListIn F k P ops Q (o :: rest) a w := by
  refine wpListIn_plain hgd fun K hK' => ?_
  obtain ⟨v', w', hrun, r1, r2, r3⟩ := run_append_slK (P := P) w base t o.type e i z size bytes ht hi hz hsize hby hzs hsz v n xs hown A m c cs hsl hone h63 hbytes hbase
  unfold Oper.wpIn
  refine ⟨?_, ?_⟩
  · simp [Oper.about, hop, resolve, Target.leads, Sem.run_pure]
  · rw [Oper.semAt_plain F _ _ (by rw [hop]; intro c hc'; cases hc')]
    simp [execOp, hop, resolve, invoke, builtin, hs, hx, hrun, Result.andThen]
    exact hK' _ _ (h v' w' r1 r2 r3)

/-! ### hits -/
def I64 (n : Int) : Prop := -9223372036854775808 ≤ n ∧ n ≤ 9223372036854775807
def hitE (h : HitP) : List Value := [.int .i64 h.1, .int .i64 h.2]
abbrev hitV (h : HitP) : Value := .agg #[.int .i64 h.1, .int .i64 h.2]
def hcells (l : List HitP) : List Value := l.flatMap hitE
theorem hcells_snoc (l : List HitP) (h : HitP) : hcells (l ++ [h]) = hcells l ++ [.int .i64 h.1, .int .i64 h.2] := by simp [hcells, hitE]
theorem hcells_append (l m : List HitP) : hcells (l ++ m) = hcells l ++ hcells m := by simp [hcells]
theorem hcells_length : ∀ (l : List HitP), (hcells l).length = l.length * 2
  | [] => rfl
  | h :: l => by
    have := hcells_length l
    simp only [hcells, hitE, List.flatMap_cons, List.length_append, List.length_cons, List.length_nil] at this ⊢
    omega
theorem hcells_at : ∀ {l : List HitP} {i : Nat} {h : HitP}, l[i]? = some h → (hcells l)[i * 2]? = some (.int .i64 h.1) ∧ (hcells l)[i * 2 + 1]? = some (.int .i64 h.2)
  | [], i, h, e => by simp at e
  | x :: l, 0, h, e => by
    simp at e
    subst e
    exact ⟨rfl, rfl⟩
  | x :: l, i + 1, h, e => by
    have ih := hcells_at (l := l) (i := i) (h := h) (by simpa using e)
    have hc : hcells (x :: l) = .int .i64 x.1 :: .int .i64 x.2 :: hcells l := rfl
    rw [hc, show (i + 1) * 2 = i * 2 + 1 + 1 by omega, show i * 2 + 1 + 1 + 1 = (i * 2 + 1) + 1 + 1 by omega]
    simpa using ih
theorem hcells_one (l : List HitP) : ∀ u ∈ hcells l, u.oneCell' = true := by
  intro u hu
  simp only [hcells, List.mem_flatMap, hitE] at hu
  obtain ⟨h, _, hu⟩ := hu
  simp at hu
  rcases hu with rfl | rfl <;> rfl

def Hts (w : World) (a : Option Addr) (len : Nat) (l : List HitP) : Prop := SlK 2 w a len (hcells l) ∧ ∀ h ∈ l, I64 h.1 ∧ I64 h.2
theorem Hts.below {w w' : World} {a : Option Addr} {len : Nat} {l : List HitP} (h : Hts w a len l) (hb : Below w.heap.size w w') : Hts w' a len l := ⟨h.1.below hb, h.2⟩
theorem Hts.len {w : World} {a : Option Addr} {len : Nat} {l : List HitP} (h : Hts w a len l) : l.length = len := by
  have := h.1.1
  rw [hcells_length] at this
  omega
theorem Hts.at_ {w : World} {a : Option Addr} {len : Nat} {l : List HitP} (h : Hts w a len l) {k : Nat} (hk : k < len) :
    ∃ b off x, a = some ⟨b, off, none⟩ ∧ b < w.heap.size ∧ w.cell? ⟨b, off + k * 2, none⟩ = some (.int .i64 x.1) ∧ w.cell? ⟨b, off + k * 2 + 1, none⟩ = some (.int .i64 x.2) ∧ l[k]? = some x ∧ I64 x.1 ∧ I64 x.2 := by
  have hl := h.len
  obtain ⟨b, off, e, hlt, hc⟩ := h.1.2.resolve_left (by omega)
  obtain ⟨x, hx⟩ : ∃ x, l[k]? = some x := ⟨l[k]'(by omega), by simp⟩
  obtain ⟨c0, c1⟩ := hcells_at hx
  exact ⟨b, off, x, e, hlt, hc _ _ c0, by rw [Nat.add_assoc]; exact hc _ _ c1, hx, (h.2 x (List.mem_of_getElem? hx)).1, (h.2 x (List.mem_of_getElem? hx)).2⟩
theorem Hts.cut {w : World} {a : Option Addr} {n : Nat} {l : List HitP} (h : Hts w a n l) {lo m : Nat} (hm : lo + m ≤ n) : Hts w (a.map (·.add (lo * 2))) m ((l.drop lo).take m) := by
  have hl := h.len
  refine ⟨⟨by rw [hcells_length]; simp; omega, ?_⟩, fun x hx => h.2 x (List.mem_of_mem_drop (List.mem_of_mem_take hx))⟩
  by_cases h0 : m = 0
  · exact .inl h0
  · right
    obtain ⟨b, off, rfl, hlt, hcell⟩ := h.1.2.resolve_left (by omega)
    refine ⟨b, off + lo * 2, by simp [add_plain], hlt, fun i u hu => ?_⟩
    have hi := (List.getElem?_eq_some_iff.1 hu).1
    rw [hcells_length] at hi
    simp at hi
    rw [Nat.add_assoc]
    refine hcell _ u ?_
    have e1 : hcells l = hcells (l.take lo) ++ (hcells ((l.drop lo).take m) ++ hcells ((l.drop lo).drop m)) := by
      rw [← hcells_append, ← hcells_append, List.take_append_drop, List.take_append_drop]
    rw [e1, List.getElem?_append_right (by rw [hcells_length]; simp; omega), hcells_length, List.length_take, Nat.min_eq_left (by omega), Nat.add_sub_cancel_left, List.getElem?_append_left (by rw [hcells_length]; simp; omega)]
    exact hu
theorem Hts.cut0 {w : World} {a : Option Addr} {l : List HitP} {lo m : Nat} (hm : m = 0) (hb : ∀ h ∈ l, I64 h.1 ∧ I64 h.2) : Hts w a m ((l.drop lo).take m) := by
  subst hm
  exact ⟨⟨rfl, .inl rfl⟩, fun x hx => by simp at hx⟩

end Go.Proofs.YtjfhefffbkpgkaaGreat

/- Opening the arguments of laws: sets, slices of bytes, hits, slices of hits. -/



namespace Go.Proofs.YtjfhefffbkpgkaaGreat
open Go.ChangeShapes Go.WideShapes Go.ChangeAt Go.RowKit Go.Joins Go.Deep
set_option linter.unusedVariables false
set_option linter.unusedSimpArgs false
set_option maxRecDepth 100000

theorem cells_Set : Tryz.prog.cellsOf 24 = 2 := by kernel_rfl
theorem cells_bool : Tryz.prog.cellsOf 4 = 1 := by kernel_rfl
theorem cells_u8 : Tryz.prog.cellsOf 5 = 1 := by kernel_rfl
theorem cells_u8s : Tryz.prog.cellsOf 29 = 1 := by kernel_rfl
theorem cells_wds : Tryz.prog.cellsOf 22 = 1 := by kernel_rfl
theorem wf_i64 {n : Int} (h : (Lit.int .i64 n).wf = true) : I64 n := by
  simp [Lit.wf, IntKind.min, IntKind.max, IntKind.signed, IntKind.bits] at h
  exact ⟨by omega, by omega⟩
theorem wf_u8 {n : Int} (h : (Lit.int .u8 n).wf = true) : 0 ≤ n ∧ n ≤ 255 := by
  simp [Lit.wf, IntKind.min, IntKind.max, IntKind.signed, IntKind.bits] at h
  omega

section
variable {H : Type} {enc : TypeId × Value → H} {W : World} {r : Reach} {base : Nat} {d : DataW H} {p : List MemPlace} {v : Value}

theorem open_sl_u8 (hv : Value.okWide Tryz.prog W r base 29 v) (h : DataW.Trod enc Tryz.prog W 0 (fun _ => true) true 29 v d p) :
    ∃ (a : Option Addr) (len cap : Nat) (zs : List Int), v = .slice a len cap ∧ Bys W a len zs ∧ len ≤ cap ∧ cap ≤ maxLen := by
  obtain ⟨a, len, cap, rfl⟩ := okWide_slice Tryz.underlying29 hv
  obtain ⟨fuel, hf⟩ := h
  rcases open_ints Tryz.underlying29 Tryz.underlying5 (by kernel_rfl) hf with ⟨hcs, _⟩ | ⟨x, l, c, zs, hcs, _, hl, hm, hz, _, hcell, hwz⟩
  · simp [Value.cells] at hcs
    obtain ⟨rfl, rfl, rfl⟩ := hcs
    exact ⟨none, 0, 0, [], rfl, Bys.nil _ _, Nat.le_refl _, by unfold maxLen; omega⟩
  · simp [Value.cells] at hcs
    obtain ⟨rfl, rfl, rfl⟩ := hcs
    have hz' : zs.length = cap := by simpa using hz
    refine ⟨_, len, _, zs.take len, rfl, ⟨⟨by simp; omega, ?_⟩, fun n hn => wf_u8 (hwz n (List.mem_of_mem_take hn))⟩, hl, hm⟩
    by_cases h0 : len = 0
    · exact .inl h0
    · right
      obtain ⟨b, off, spot⟩ := x
      have hc := hcell 0 (by omega)
      obtain rfl : spot = none := by simpa [Addr.add] using World.cell?_spot hc
      refine ⟨b, off, rfl, ?_, fun i u hu => ?_⟩
      · have := World.block_lt_of_cell? W _ hc
        rwa [add_plain] at this
      · have hi : i < len := by have := (List.getElem?_eq_some_iff.1 hu).1; simp at this; omega
        have h1 := hcell i (by omega)
        rw [add_plain] at h1
        rw [h1]
        rw [List.getElem?_take, if_pos hi] at hu
        simp [hu]

/-- The cells of a row of texts, read. -/
theorem wds_cells {fuel : Nat} {v : Value} {x : DataW H × List MemPlace} (h : DataW.trod enc Tryz.prog W 0 (fun _ => true) true fuel 22 [v] = some x) : ∃ (a : Option Addr) (len cap : Nat) (wss : List (List Int)), v = .slice a len cap ∧ Wds W a len wss ∧ len ≤ cap ∧ cap ≤ maxLen := by
  rcases open_int_rows Tryz.underlying22 Tryz.underlying29 Tryz.underlying5 cells_u8s cells_u8 h with ⟨hcs, _⟩ | ⟨x, len, cap, A, L, C, Z, hcs, _, hl, hm, _, hi⟩
  · simp at hcs
    exact ⟨none, 0, 0, [], hcs, ⟨[], ⟨rfl, .inl rfl⟩, rfl, fun i v xs h => by simp at h⟩, Nat.le_refl _, by unfold maxLen; omega⟩
  · simp at hcs
    refine ⟨some x, len, cap, (List.range len).map fun i => (Z i).take (L i), hcs, ⟨(List.range len).map fun i => (A i, L i, C i), ⟨by simp, ?_⟩, by simp, fun i v xs hv hx => ?_⟩, hl, hm⟩
    · by_cases h0 : len = 0
      · exact .inl h0
      · right
        obtain ⟨b, off, spot⟩ := x
        have hc := (hi 0 (by omega)).1
        obtain rfl : spot = none := by simpa [Addr.add] using World.cell?_spot hc
        refine ⟨b, off, rfl, ?_, fun i u hu => ?_⟩
        · have := World.block_lt_of_cell? W _ hc
          rwa [add_plain] at this
        · have hil : i < len := by have := (List.getElem?_eq_some_iff.1 hu).1; simpa using this
          simp [hil] at hu
          have h1 := (hi i (by omega)).1
          rw [add_plain] at h1
          rw [h1, ← hu]
    · have hil : i < len := by have := (List.getElem?_eq_some_iff.1 hv).1; simpa using this
      simp [hil] at hv hx
      subst hv hx
      obtain ⟨_, hLC, hCm, hZ, hwf, hAn, hA⟩ := hi i (by omega)
      refine ⟨⟨⟨by simp; omega, ?_⟩, fun n hn => wf_u8 (hwf n (List.mem_of_mem_take hn))⟩, hLC⟩
      by_cases h0 : L i = 0
      · exact .inl h0
      · right
        cases hAi : A i with
        | none => have := hAn hAi; omega
        | some y =>
          obtain ⟨_, hc⟩ := hA y hAi
          obtain ⟨b, off, spot⟩ := y
          have hc0 := hc 0 (by omega)
          obtain rfl : spot = none := by simpa [Addr.add] using World.cell?_spot hc0
          refine ⟨b, off, rfl, ?_, fun j u hu => ?_⟩
          · have := World.block_lt_of_cell? W _ hc0
            rwa [add_plain] at this
          · have hj : j < L i := by have := (List.getElem?_eq_some_iff.1 hu).1; simp at this; omega
            have h1 := hc j (by omega)
            rw [add_plain] at h1
            rw [h1]
            rw [List.getElem?_take, if_pos hj] at hu
            simp [hu]

theorem open_set (hv : Value.okWide Tryz.prog W r base 24 v) (h : DataW.Trod enc Tryz.prog W 0 (fun _ => true) true 24 v d p) :
    ∃ (fold : Bool) (a : Option Addr) (len cap : Nat) (wss : List (List Int)), v = .agg #[.bool fold, .slice a len cap] ∧ Wds W a len wss ∧ len ≤ cap ∧ cap ≤ maxLen := by
  obtain ⟨cs, rfl, hsz⟩ := okWide_struct Tryz.underlying24 hv
  obtain ⟨l⟩ := cs
  match l, hsz.trans cells_Set with
  | [c0, c1], _ =>
    obtain ⟨fuel, hf⟩ := h
    obtain ⟨xs, n, _, _, _, hlen, hx⟩ := DataW.trod_struct Tryz.underlying24 hf
    have hlen' : xs.length = 2 := hlen
    obtain ⟨y0, hy0⟩ : ∃ y, xs[0]? = some y := ⟨xs[0]'(by omega), by simp⟩
    obtain ⟨y1, hy1⟩ : ∃ y, xs[1]? = some y := ⟨xs[1]'(by omega), by simp⟩
    have h0 := hx 0
    simp only [List.getElem?_toArray, List.getElem?_cons_zero, List.getElem?_cons_succ, Option.some.injEq, forall_eq', cells_bool, hy0] at h0
    obtain ⟨b, e0, _⟩ := DataW.trod_bool Tryz.underlying4 h0
    have h1 := hx 1
    simp only [List.getElem?_toArray, List.getElem?_cons_zero, List.getElem?_cons_succ, Option.some.injEq, forall_eq', cells_wds, hy1] at h1
    simp [Value.cells] at e0 h1
    obtain ⟨a, len, cap, wss, e1, hw, hc, hm⟩ := wds_cells h1
    exact ⟨b, a, len, cap, wss, by rw [e0, e1], hw, hc, hm⟩
end

end Go.Proofs.YtjfhefffbkpgkaaGreat

/- Plain words of layer 7: the beginnings of words in order, the trie of words. -/

namespace Go.Proofs.YtjfhefffbkpgkaaGreat
set_option linter.unusedVariables false

/-- Of one length: lesser in the first byte in which they differ. -/
def lexB : List Int → List Int → Bool
  | x :: xs, y :: ys => if x < y then true else if y < x then false else lexB xs ys
  | _, _ => false
def ltS (x y : List Int) : Bool := if x.length < y.length then true else if y.length < x.length then false else lexB x y
theorem lexB_irrefl : ∀ x, lexB x x = false
  | [] => rfl
  | x :: xs => by simp [lexB, lexB_irrefl xs]
theorem lexB_trans : ∀ {x y z : List Int}, lexB x y = true → lexB y z = true → lexB x z = true
  | [], _, _, h, _ => by simp [lexB] at h
  | _ :: _, [], _, h, _ => by simp [lexB] at h
  | _ :: _, _ :: _, [], _, h => by simp [lexB] at h
  | x :: xs, y :: ys, z :: zs, h1, h2 => by
    have ih := lexB_trans (x := xs) (y := ys) (z := zs)
    unfold lexB at h1 h2 ⊢
    by_cases a : x < y
    · by_cases b : y < z
      · rw [if_pos (by omega)]
      · rw [if_neg b] at h2
        by_cases c : z < y
        · rw [if_pos c] at h2; cases h2
        · rw [if_pos (by omega)]
    · rw [if_neg a] at h1
      by_cases a' : y < x
      · rw [if_pos a'] at h1; cases h1
      · rw [if_neg a'] at h1
        by_cases b : y < z
        · rw [if_pos (by omega)]
        · rw [if_neg b] at h2
          by_cases c : z < y
          · rw [if_pos c] at h2; cases h2
          · rw [if_neg c] at h2
            rw [if_neg (by omega), if_neg (by omega)]
            exact ih h1 h2
theorem lexB_total : ∀ {x y : List Int}, x.length = y.length → lexB x y = false → lexB y x = false → x = y
  | [], [], _, _, _ => rfl
  | [], _ :: _, h, _, _ => by simp at h
  | _ :: _, [], h, _, _ => by simp at h
  | x :: xs, y :: ys, h, h1, h2 => by
    unfold lexB at h1 h2
    by_cases a : x < y
    · rw [if_pos a] at h1; cases h1
    · by_cases b : y < x
      · rw [if_pos b] at h2; cases h2
      · rw [if_neg a, if_neg b] at h1
        rw [if_neg b, if_neg a] at h2
        have e : x = y := by omega
        rw [e, lexB_total (by simpa using h) h1 h2]
theorem ltS_irrefl (x : List Int) : ltS x x = false := by simp [ltS, lexB_irrefl]
theorem ltS_trans {x y z : List Int} (h1 : ltS x y = true) (h2 : ltS y z = true) : ltS x z = true := by
  unfold ltS at h1 h2 ⊢
  by_cases a : x.length < y.length
  · by_cases b : y.length < z.length
    · rw [if_pos (by omega)]
    · rw [if_neg b] at h2
      by_cases c : z.length < y.length
      · rw [if_pos c] at h2; cases h2
      · rw [if_pos (by omega)]
  · rw [if_neg a] at h1
    by_cases a' : y.length < x.length
    · rw [if_pos a'] at h1; cases h1
    · rw [if_neg a'] at h1
      by_cases b : y.length < z.length
      · rw [if_pos (by omega)]
      · rw [if_neg b] at h2
        by_cases c : z.length < y.length
        · rw [if_pos c] at h2; cases h2
        · rw [if_neg c] at h2
          rw [if_neg (by omega), if_neg (by omega)]
          exact lexB_trans h1 h2
theorem ltS_asymm {x y : List Int} (h : ltS x y = true) : ltS y x = false := by
  cases e : ltS y x with
  | false => rfl
  | true => have := ltS_trans h e; rw [ltS_irrefl] at this; cases this
theorem ltS_total {x y : List Int} (h1 : ltS x y = false) (h2 : ltS y x = false) : x = y := by
  unfold ltS at h1 h2
  by_cases a : x.length < y.length
  · rw [if_pos a] at h1; cases h1
  · by_cases b : y.length < x.length
    · rw [if_pos b] at h2; cases h2
    · rw [if_neg a, if_neg b] at h1
      rw [if_neg b, if_neg a] at h2
      exact lexB_total (by omega) h1 h2
theorem ltS_len {x y : List Int} (h : ltS x y = true) : x.length ≤ y.length := by
  unfold ltS at h
  by_cases a : x.length < y.length
  · omega
  · rw [if_neg a] at h
    by_cases b : y.length < x.length
    · rw [if_pos b] at h; cases h
    · omega
theorem ltS_short {x y : List Int} (h : x.length < y.length) : ltS x y = true := by unfold ltS; rw [if_pos h]

abbrev SrtS (l : List (List Int)) : Prop := l.Pairwise (fun a b => ltS a b = true)
theorem SrtS.nodup {l : List (List Int)} (h : SrtS l) : l.Nodup := by
  rw [List.nodup_iff_pairwise_ne]
  exact h.imp fun hab e => by rw [e, ltS_irrefl] at hab; cases hab
/-- Two lists in order that have the same members are the same. -/
theorem srtS_unique : ∀ {l m : List (List Int)}, SrtS l → SrtS m → (∀ x, x ∈ l ↔ x ∈ m) → l = m
  | [], [], _, _, _ => rfl
  | [], b :: m, _, _, h => by have := (h b).2 (by simp); simp at this
  | a :: l, [], _, _, h => by have := (h a).1 (by simp); simp at this
  | a :: l, b :: m, h1, h2, h => by
    rw [SrtS, List.pairwise_cons] at h1 h2
    have hab : a = b := by
      have ha := (h a).1 (by simp)
      have hb := (h b).2 (by simp)
      rcases List.mem_cons.1 ha with e | ha
      · exact e
      · rcases List.mem_cons.1 hb with e | hb
        · exact e.symm
        · have g1 := h2.1 a ha
          have g2 := h1.1 b hb
          rw [ltS_asymm g1] at g2
          cases g2
    subst hab
    have hnl : a ∉ l := fun hm => by have := h1.1 a hm; rw [ltS_irrefl] at this; cases this
    have hnm : a ∉ m := fun hm => by have := h2.1 a hm; rw [ltS_irrefl] at this; cases this
    congr 1
    refine srtS_unique h1.2 h2.2 fun x => ⟨fun hx => ?_, fun hx => ?_⟩
    · rcases List.mem_cons.1 ((h x).1 (by simp [hx])) with e | hm
      · subst e; exact absurd hx hnl
      · exact hm
    · rcases List.mem_cons.1 ((h x).2 (by simp [hx])) with e | hm
      · subst e; exact absurd hx hnm
      · exact hm

/-- A list of texts in order, with one more, if it is not there (the document's way). -/
def putS (l : List (List Int)) (b : List Int) : List (List Int) :=
  match l with
  | [] => [b]
  | x :: xs => if ltS x b then x :: putS xs b else if x = b then x :: xs else b :: x :: xs
theorem mem_putS : ∀ {l : List (List Int)} {b x : List Int}, x ∈ putS l b ↔ x = b ∨ x ∈ l
  | [], b, x => by simp [putS]
  | y :: ys, b, x => by
    have ih := mem_putS (l := ys) (b := b) (x := x)
    unfold putS
    split
    · rw [List.mem_cons, ih, List.mem_cons]
      constructor
      · rintro (h | h | h)
        · exact .inr (.inl h)
        · exact .inl h
        · exact .inr (.inr h)
      · rintro (h | h | h)
        · exact .inr (.inl h)
        · exact .inl h
        · exact .inr (.inr h)
    · split
      · rename_i e
        rw [List.mem_cons]
        constructor
        · rintro (h | h)
          · exact .inl (h.trans e)
          · exact .inr (.inr h)
        · rintro (h | h | h)
          · exact .inl (h.trans e.symm)
          · exact .inl h
          · exact .inr h
      · rw [List.mem_cons, List.mem_cons]
theorem putS_srt : ∀ {l : List (List Int)} {b : List Int}, SrtS l → SrtS (putS l b)
  | [], b, _ => by simp [putS]
  | y :: ys, b, h => by
    have h' := h
    rw [SrtS, List.pairwise_cons] at h'
    have ih := putS_srt (b := b) h'.2
    unfold putS
    split
    · rename_i e
      rw [SrtS, List.pairwise_cons]
      refine ⟨fun x hx => ?_, ih⟩
      rcases mem_putS.1 hx with rfl | hx
      · exact e
      · exact h'.1 x hx
    · split
      · exact h
      · rename_i e1 e2
        rw [SrtS, List.pairwise_cons]
        have hby : ltS b y = true := by
          cases e : ltS b y with
          | true => rfl
          | false => exact absurd (ltS_total (by simpa using e1) e) e2
        refine ⟨fun x hx => ?_, h⟩
        rcases List.mem_cons.1 hx with rfl | hx
        · exact hby
        · exact ltS_trans hby (h'.1 x hx)

/-- A beginning of one of the words, or none of their bytes. -/
def IsBeg (wss : List (List Int)) (x : List Int) : Prop := x = [] ∨ ∃ w ∈ wss, ∃ k, 1 ≤ k ∧ k ≤ w.length ∧ x = w.take k
theorem IsBeg.iff {wss : List (List Int)} {x : List Int} : IsBeg wss x ↔ x = [] ∨ x ≠ [] ∧ ∃ w ∈ wss, x <+: w := by
  constructor
  · rintro (h | ⟨w, hw, k, h1, h2, rfl⟩)
    · exact .inl h
    · right
      refine ⟨fun e => ?_, w, hw, List.take_prefix _ _⟩
      have := congrArg List.length e
      rw [List.length_take, List.length_nil] at this
      omega
  · rintro (h | ⟨h0, w, hw, h⟩)
    · exact .inl h
    · right
      obtain ⟨t, rfl⟩ := h
      refine ⟨_, hw, x.length, ?_, by simp, by simp⟩
      cases x with
      | nil => exact absurd rfl h0
      | cons a b => simp
theorem IsBeg.up {wss : List (List Int)} {x : List Int} (h : IsBeg wss x) : IsBeg wss x.dropLast := by
  rw [IsBeg.iff] at h ⊢
  rcases h with rfl | ⟨h0, w, hw, hp⟩
  · exact .inl rfl
  · by_cases e : x.dropLast = []
    · exact .inl e
    · exact .inr ⟨e, w, hw, (List.dropLast_prefix x).trans hp⟩
theorem IsBeg.mono {wss vss : List (List Int)} {x : List Int} (h : IsBeg wss x) (hs : ∀ w ∈ wss, w ∈ vss) : IsBeg vss x := by
  rcases h with h | ⟨w, hw, r⟩
  · exact .inl h
  · exact .inr ⟨w, hs w hw, r⟩
/-- All the beginnings of a word, put in. -/
def putW (l : List (List Int)) (w : List Int) (k : Nat) : List (List Int) := (List.range k).foldl (fun l j => putS l (w.take (j + 1))) l
theorem putW_succ (l : List (List Int)) (w : List Int) (k : Nat) : putW l w (k + 1) = putS (putW l w k) (w.take (k + 1)) := by simp [putW, List.range_succ, List.foldl_append]
theorem putW_srt {l : List (List Int)} {w : List Int} (h : SrtS l) : ∀ k, SrtS (putW l w k)
  | 0 => by simpa [putW] using h
  | k + 1 => by rw [putW_succ]; exact putS_srt (putW_srt h k)
theorem mem_putW {l : List (List Int)} {w x : List Int} : ∀ {k : Nat}, x ∈ putW l w k ↔ x ∈ l ∨ ∃ j, 1 ≤ j ∧ j ≤ k ∧ x = w.take j
  | 0 => by simp [putW]; omega
  | k + 1 => by
    rw [putW_succ, mem_putS, mem_putW (k := k)]
    constructor
    · rintro (h | h | ⟨j, h1, h2, h3⟩)
      · exact .inr ⟨k + 1, by omega, by omega, h⟩
      · exact .inl h
      · exact .inr ⟨j, h1, by omega, h3⟩
    · rintro (h | ⟨j, h1, h2, h3⟩)
      · exact .inr (.inl h)
      · by_cases e : j = k + 1
        · subst e; exact .inl h3
        · exact .inr (.inr ⟨j, h1, by omega, h3⟩)
/-- The beginnings of words, in order. -/
def nodesL (wss : List (List Int)) : List (List Int) := wss.foldl (fun l w => putW l w w.length) [[]]
theorem nodesL_snoc (wss : List (List Int)) (w : List Int) : nodesL (wss ++ [w]) = putW (nodesL wss) w w.length := by simp [nodesL, List.foldl_append]
theorem nodesL_srt (wss : List (List Int)) : SrtS (nodesL wss) := by
  refine snoc_ind (P := fun wss => SrtS (nodesL wss)) (by simp [nodesL]) (fun l x ih => ?_) wss
  rw [nodesL_snoc]; exact putW_srt ih _
theorem mem_nodesL {x : List Int} (wss : List (List Int)) : x ∈ nodesL wss ↔ IsBeg wss x := by
  refine snoc_ind (P := fun wss => x ∈ nodesL wss ↔ IsBeg wss x) (by simp [nodesL, IsBeg]) (fun l w ih => ?_) wss
  rw [nodesL_snoc, mem_putW, ih]
  unfold IsBeg
  constructor
  · rintro ((h | ⟨v, hv, r⟩) | ⟨j, h1, h2, h3⟩)
    · exact .inl h
    · exact .inr ⟨v, by simp [hv], r⟩
    · exact .inr ⟨w, by simp, j, h1, h2, h3⟩
  · rintro (h | ⟨v, hv, r⟩)
    · exact .inl (.inl h)
    · rcases List.mem_append.1 hv with hv | hv
      · exact .inl (.inr ⟨v, hv, r⟩)
      · simp at hv; subst hv; exact .inr r
theorem nodesL_unique {wss l : List (List Int)} (h1 : SrtS l) (h2 : ∀ x, x ∈ l ↔ IsBeg wss x) : l = nodesL wss := srtS_unique h1 (nodesL_srt wss) fun x => (h2 x).trans (mem_nodesL wss).symm
theorem nodesL_ne (wss : List (List Int)) : nodesL wss ≠ [] := fun e => by
  have := (mem_nodesL (x := []) wss).2 (.inl rfl)
  rw [e] at this; cases this
theorem nodesL_head (wss : List (List Int)) : (nodesL wss)[0]? = some [] := by
  have h1 := nodesL_srt wss
  have h2 := (mem_nodesL (x := []) wss).2 (.inl rfl)
  revert h1 h2
  cases nodesL wss with
  | nil => intro _ h; cases h
  | cons a l =>
    intro h1 h2
    rw [SrtS, List.pairwise_cons] at h1
    rcases List.mem_cons.1 h2 with e | h
    · simp [e]
    · have := ltS_len (h1.1 _ h)
      simp at this
      simp [this]

/-- Where a text stands in a list; -1: nowhere. -/
def placeS (l : List (List Int)) (b : List Int) : Int := if b ∈ l then (l.idxOf b : Int) else -1
theorem placeS_at {l : List (List Int)} (hn : l.Nodup) {i : Nat} {b : List Int} (h : l[i]? = some b) : placeS l b = i := by
  have hi := (List.getElem?_eq_some_iff.1 h).1
  unfold placeS
  rw [if_pos (List.mem_of_getElem? h)]
  have := List.Nodup.idxOf_getElem hn i hi
  rw [(List.getElem?_eq_some_iff.1 h).2] at this
  rw [this]
theorem placeS_no {l : List (List Int)} {b : List Int} (h : b ∉ l) : placeS l b = -1 := by unfold placeS; rw [if_neg h]
def lastB (x : List Int) : Int := (x.getLast?).getD 0
structure TrieT where
  up : List Int
  dep : List Int
  wrd : List Int
  byt : List Int
/-- The trie of words. -/
def trieP (wss : List (List Int)) : TrieT :=
  ⟨(nodesL wss).map fun x => placeS (nodesL wss) x.dropLast, (nodesL wss).map fun x => (x.length : Int), (nodesL wss).map fun x => placeS wss x, (nodesL wss).map lastB⟩

end Go.Proofs.YtjfhefffbkpgkaaGreat

/- Plain laws of layer 7: which tries may be; a trie read. -/

namespace Go.Proofs.YtjfhefffbkpgkaaGreat
set_option linter.unusedVariables false

theorem whichL_neg {fold : Bool} {x : List Int} {acc : List (List Int)} : whichL fold x acc < 0 ↔ ∀ y ∈ acc, foldL fold y ≠ foldL fold x := by
  unfold whichL whichO
  cases e : acc.findIdx? (fun w => sameL fold x w) with
  | none =>
    rw [List.findIdx?_eq_none_iff] at e
    constructor
    · intro _ y hy h
      have := e y hy
      unfold sameL at this
      simp at this
      exact this h.symm
    · intro _; dsimp only; omega
  | some k =>
    constructor
    · intro h; dsimp only at h; omega
    · intro h
      obtain ⟨hk, h1, _⟩ := List.findIdx?_eq_some_iff_getElem.1 e
      unfold sameL at h1
      simp at h1
      exact absurd h1.symm (h _ (List.getElem_mem hk))
theorem makeL_spec (fold : Bool) (l : List (List Int)) : (makeL fold l).Nodup ∧ ∀ y ∈ makeL fold l, foldL fold y = y := by
  refine snoc_ind (P := fun l => (makeL fold l).Nodup ∧ ∀ y ∈ makeL fold l, foldL fold y = y) (by simp [makeL]) (fun l x ⟨h1, h2⟩ => ?_) l
  rw [makeL_snoc]
  unfold addW
  by_cases h : whichL fold x (makeL fold l) < 0
  · rw [if_pos h]
    have hn := whichL_neg.1 h
    refine ⟨?_, fun y hy => ?_⟩
    · rw [List.nodup_append]
      refine ⟨h1, by simp, fun a ha b hb e => ?_⟩
      simp at hb
      subst hb
      subst e
      exact hn _ ha (foldL_foldL _ _)
    · rcases List.mem_append.1 hy with hy | hy
      · exact h2 y hy
      · simp at hy; subst hy; exact foldL_foldL _ _
  · rw [if_neg h]; exact ⟨h1, h2⟩
theorem makeL_self : ∀ (l : List (List Int)), l.Nodup → makeL false l = l := by
  refine snoc_ind (P := fun l => l.Nodup → makeL false l = l) (by simp [makeL]) (fun l x ih h => ?_)
  rw [List.nodup_append] at h
  rw [makeL_snoc, ih h.1]
  unfold addW
  rw [if_pos (whichL_neg.2 fun y hy e => ?_)]
  · simp [foldL]
  · simp [foldL] at e
    exact h.2.2 y hy x (by simp) e
theorem right_spec {fold : Bool} {wss : List (List Int)} (h : rightP fold wss = true) : wss.length ≤ 64 ∧ wss ≠ [] ∧ (∀ x ∈ wss, x.length ≠ 0 ∧ x.length ≤ 32) ∧ bsum wss ≤ 600 ∧ nodesR fold wss ≤ 400 ∧ makeL fold wss = wss := by
  rw [right_eq] at h
  unfold rightR at h
  rw [Bool.and_eq_true] at h
  have h1 : checkR fold wss = 0 := of_decide_eq_true h.1
  have h2 : makeL fold wss = wss := of_decide_eq_true h.2
  unfold checkR at h1
  by_cases a1 : wss.length = 0
  · rw [if_pos a1] at h1; cases h1
  · rw [if_neg a1] at h1
    by_cases a2 : wss.length > 64
    · rw [if_pos a2] at h1; cases h1
    · rw [if_neg a2] at h1
      by_cases a3 : ∃ x ∈ wss, x.length = 0
      · rw [if_pos a3] at h1; cases h1
      · rw [if_neg a3] at h1
        by_cases a4 : ∃ x ∈ wss, x.length > 32
        · rw [if_pos a4] at h1; cases h1
        · rw [if_neg a4] at h1
          by_cases a5 : bsum wss > 600
          · rw [if_pos a5] at h1; cases h1
          · rw [if_neg a5] at h1
            by_cases a6 : nodesR fold wss > 400
            · rw [if_pos a6] at h1; cases h1
            · exact ⟨by omega, fun e => a1 (by rw [e]; rfl), fun x hx => ⟨fun e => a3 ⟨x, hx, e⟩, Nat.not_lt.1 fun e => a4 ⟨x, hx, e⟩⟩, by omega, by omega, h2⟩

theorem right_nodup {fold : Bool} {wss : List (List Int)} (h : rightP fold wss = true) : wss.Nodup ∧ ∀ w ∈ wss, foldL fold w = w := by
  have := makeL_spec fold wss
  rwa [(right_spec h).2.2.2.2.2] at this
/-- How many nodes there are. -/
theorem nodesL_count (fold : Bool) {wss : List (List Int)} (hf : ∀ w ∈ wss, foldL fold w = w) : ((nodesL wss).length : Int) = nodesR fold wss := by
  obtain ⟨h1, h2⟩ := count_eq fold wss
  have hp : (nodesL wss).Perm (prun (begL fold wss)).1 := by
    rw [List.perm_ext_iff_of_nodup (nodesL_srt wss).nodup (rep_run (begL fold wss)).nodup]
    intro x
    rw [mem_nodesL, h2, IsBeg.iff]
    unfold Begs
    constructor
    · rintro (h | ⟨h0, w, hw, hp⟩)
      · exact .inl h
      · exact .inr ⟨w, hw, by rw [hf w hw]; exact hp⟩
    · rintro (h | ⟨w, hw, hp⟩)
      · exact .inl h
      · by_cases e : x = []
        · exact .inl e
        · exact .inr ⟨e, w, hw, by rw [hf w hw] at hp; exact hp⟩
  rw [hp.length_eq]
  exact h1

theorem right_false {fold : Bool} {wss : List (List Int)} (h : rightP fold wss = true) : rightP false wss = true := by
  obtain ⟨h1, h2, h3, h4, h5, h6⟩ := right_spec h
  obtain ⟨g1, g2⟩ := right_nodup h
  have e1 : nodesR false wss = nodesR fold wss := by rw [← nodesL_count fold g2, ← nodesL_count false (fun w _ => by simp [foldL])]
  rw [right_eq]
  unfold rightR
  rw [Bool.and_eq_true]
  refine ⟨decide_eq_true ?_, decide_eq_true (makeL_self wss g1)⟩
  unfold checkR
  rw [if_neg (fun e => h2 (List.eq_nil_of_length_eq_zero e)), if_neg (by omega), if_neg (fun ⟨x, hx, e⟩ => (h3 x hx).1 e), if_neg (fun ⟨x, hx, e⟩ => by have := (h3 x hx).2; omega), if_neg (by omega), if_neg (by rw [e1]; omega)]

/-! ### a trie read -/
/-- The bytes of the first nodes. -/
def spTo (T : TrieT) : Nat → Option (List (List Int))
  | 0 => none
  | 1 => some [[]]
  | i + 2 => (spTo T (i + 1)).bind fun l => match T.up[i + 1]?, T.byt[i + 1]? with
    | some u, some c => if 0 ≤ u ∧ u < (i : Int) + 1 then (l[u.toNat]?).map fun p => l ++ [p ++ [c]] else none
    | _, _ => none
def spO (T : TrieT) : Option (List (List Int)) :=
  if 1 ≤ T.up.length ∧ T.up.length ≤ 400 ∧ T.byt.length = T.up.length ∧ T.dep.length = T.up.length ∧ T.wrd.length = T.up.length then spTo T T.up.length else none
theorem spTo_length {T : TrieT} : ∀ {i : Nat} {l : List (List Int)}, spTo T i = some l → l.length = i
  | 0, l, h => by cases h
  | 1, l, h => by simp [spTo] at h; simp [← h]
  | i + 2, l, h => by
    unfold spTo at h
    obtain ⟨l0, h0, h⟩ := Option.bind_eq_some_iff.1 h
    have ih := spTo_length h0
    split at h
    · split at h
      · obtain ⟨p, hp, rfl⟩ := Option.map_eq_some_iff.1 h
        simp [ih]
      · cases h
    · cases h
/-- What is numbered: of each word's number its node (0: none yet), how many. -/
def nuTo (T : TrieT) (n : Nat) : Nat → Option (List Int × Int)
  | 0 => some (List.replicate n 0, 0)
  | i + 1 => (nuTo T n i).bind fun s => match T.wrd[i]? with
    | some w => if w = -1 then some s else if w < 0 ∨ (n : Int) ≤ w ∨ i = 0 ∨ (s.1[w.toNat]?).getD 0 ≠ 0 then none else some (s.1.set w.toNat i, s.2 + 1)
    | none => none
def wdTo (sp : List (List Int)) (at_ : List Int) : Nat → Option (List (List Int))
  | 0 => some []
  | k + 1 => (wdTo sp at_ k).bind fun l => match at_[k]? with
    | some i => if i = 0 then none else (sp[i.toNat]?).map fun x => l ++ [x]
    | none => none
def nuO (T : TrieT) (sp : List (List Int)) : Option (List (List Int)) := (nuTo T sp.length T.wrd.length).bind fun s => wdTo sp s.1 s.2.toNat
def eqT (T U : TrieT) : Bool := decide (T.up = U.up) && decide (T.dep = U.dep) && decide (T.wrd = U.wrd) && decide (T.byt = U.byt)
theorem eqT_iff {T U : TrieT} : eqT T U = true ↔ T = U := by
  obtain ⟨a, b, c, d⟩ := T
  obtain ⟨a', b', c', d'⟩ := U
  simp [eqT, and_assoc]
def readP (T : TrieT) : Option (List (List Int) × List (List Int)) :=
  (spO T).bind fun sp => (nuO T sp).bind fun ws => if (rightP false ws && eqT (trieP ws) T) = true then some (sp, ws) else none

section
variable {ws : List (List Int)}
theorem foldL_false (w : List Int) : foldL false w = w := by simp [foldL]
theorem right_nodes (h : rightP false ws = true) : 1 ≤ (nodesL ws).length ∧ (nodesL ws).length ≤ 400 := by
  have h1 := (right_spec h).2.2.2.2.1
  have h2 := nodesL_count false (wss := ws) (fun w _ => foldL_false w)
  have h3 : (nodesL ws).length ≠ 0 := fun e => nodesL_ne ws (List.eq_nil_of_length_eq_zero e)
  omega
/-- The node above stands ahead. -/
theorem up_lt {i : Nat} {x : List Int} (h : (nodesL ws)[i]? = some x) (h0 : x ≠ []) : ∃ j, j < i ∧ (nodesL ws)[j]? = some x.dropLast ∧ placeS (nodesL ws) x.dropLast = j := by
  have hs := nodesL_srt ws
  have hm : x.dropLast ∈ nodesL ws := (mem_nodesL ws).2 ((mem_nodesL ws).1 (List.mem_of_getElem? h)).up
  obtain ⟨j, hj⟩ := List.getElem?_of_mem hm
  refine ⟨j, ?_, hj, placeS_at hs.nodup hj⟩
  have hlen : x.dropLast.length < x.length := by
    rw [List.length_dropLast]
    have : x.length ≠ 0 := fun e => h0 (List.eq_nil_of_length_eq_zero e)
    omega
  have hi' := (List.getElem?_eq_some_iff.1 h)
  have hj' := (List.getElem?_eq_some_iff.1 hj)
  rcases Nat.lt_or_ge j i with hlt | hge
  · exact hlt
  · exfalso
    rcases Nat.lt_or_ge i j with hlt | hge2
    · have hp := List.pairwise_iff_getElem.1 hs i j hi'.1 hj'.1 hlt
      rw [hi'.2, hj'.2] at hp
      have := ltS_len hp
      omega
    · have e : i = j := by omega
      subst e
      rw [h] at hj
      have := congrArg List.length (Option.some.inj hj)
      omega
theorem dropLast_lastB {x : List Int} (h : x ≠ []) : x.dropLast ++ [lastB x] = x := by
  unfold lastB
  rw [List.getLast?_eq_some_getLast h, Option.getD_some]
  exact List.dropLast_concat_getLast h
theorem nodes_ne {i : Nat} {x : List Int} (h : (nodesL ws)[i + 1]? = some x) : x ≠ [] := by
  intro e
  subst e
  have h0 := nodesL_head ws
  have hn := (nodesL_srt ws).nodup
  have := nodup_at hn h0 h
  omega
theorem spTo_trie : ∀ i, 1 ≤ i → i ≤ (nodesL ws).length → spTo (trieP ws) i = some ((nodesL ws).take i)
  | 0, h, _ => by omega
  | 1, _, _ => by
    have h0 := nodesL_head ws
    revert h0
    cases nodesL ws with
    | nil => intro h; cases h
    | cons a l => intro h; simp at h; simp [spTo, h]
  | i + 2, _, h => by
    have ih := spTo_trie (i + 1) (by omega) (by omega)
    obtain ⟨x, hx⟩ : ∃ x, (nodesL ws)[i + 1]? = some x := ⟨(nodesL ws)[i + 1]'(by omega), by simp⟩
    have h0 := nodes_ne hx
    obtain ⟨j, hj, hjx, hpl⟩ := up_lt hx h0
    unfold spTo
    rw [ih, Option.bind_some]
    have e1 : (trieP ws).up[i + 1]? = some (j : Int) := by simp [trieP, hx, hpl]
    have e2 : (trieP ws).byt[i + 1]? = some (lastB x) := by simp [trieP, hx]
    rw [e1, e2]
    dsimp only
    rw [if_pos ⟨by omega, by omega⟩, Int.toNat_natCast, List.getElem?_take, if_pos hj, hjx, Option.map_some, dropLast_lastB h0, take_step hx]
theorem spO_trie (h : rightP false ws = true) : spO (trieP ws) = some (nodesL ws) := by
  obtain ⟨h1, h2⟩ := right_nodes h
  unfold spO
  have e : (trieP ws).up.length = (nodesL ws).length := by simp [trieP]
  rw [if_pos ⟨by rw [e]; exact h1, by rw [e]; exact h2, by simp [trieP], by simp [trieP], by simp [trieP]⟩, e, spTo_trie _ h1 (Nat.le_refl _), List.take_length]

/-- The word's node, if it stands ahead of i. -/
def atW (ws : List (List Int)) (i w : Nat) : Int := match ws[w]? with
  | some x => if (nodesL ws).idxOf x < i then ((nodesL ws).idxOf x : Int) else 0
  | none => 0
theorem word_node {w : Nat} {x : List Int} (hx : ws[w]? = some x) (h0 : x ≠ []) : ∃ j, 1 ≤ j ∧ (nodesL ws)[j]? = some x ∧ (nodesL ws).idxOf x = j := by
  have hm : x ∈ nodesL ws := (mem_nodesL ws).2 (IsBeg.iff.2 (.inr ⟨h0, x, List.mem_of_getElem? hx, List.prefix_refl _⟩))
  obtain ⟨j, hj⟩ := List.getElem?_of_mem hm
  refine ⟨j, ?_, hj, ?_⟩
  · by_cases e : j = 0
    · subst e
      rw [nodesL_head] at hj
      exact absurd (Option.some.inj hj).symm h0
    · omega
  · have := List.Nodup.idxOf_getElem (nodesL_srt ws).nodup j (List.getElem?_eq_some_iff.1 hj).1
    rwa [(List.getElem?_eq_some_iff.1 hj).2] at this
/-- How many words' nodes stand ahead of i. -/
def manyW (ws : List (List Int)) (i : Nat) : Int := ((ws.filter fun x => decide ((nodesL ws).idxOf x < i)).length : Int)
theorem words_lt (h : rightP false ws = true) : ws.length < (nodesL ws).length := by
  obtain ⟨g1, _⟩ := right_nodup h
  have h3 := (right_spec h).2.2.1
  have hp : ([] :: ws).Nodup := by
    rw [List.nodup_cons]
    exact ⟨fun hm => (h3 _ hm).1 rfl, g1⟩
  have hs : ([] :: ws) ⊆ nodesL ws := fun x hx => by
    rw [mem_nodesL, IsBeg.iff]
    rcases List.mem_cons.1 hx with e | hx
    · exact .inl e
    · exact .inr ⟨fun e => by subst e; exact (h3 _ hx).1 rfl, x, hx, List.prefix_refl _⟩
  have := hp.length_le_of_subset hs
  rw [List.length_cons] at this
  omega
theorem atW_at {i w : Nat} (hw : w < ws.length) (h : rightP false ws = true) : ∃ j x, 1 ≤ j ∧ ws[w]? = some x ∧ (nodesL ws)[j]? = some x ∧ atW ws i w = if j < i then (j : Int) else 0 := by
  obtain ⟨x, hx⟩ : ∃ x, ws[w]? = some x := ⟨ws[w]'hw, by simp⟩
  have h3 := ((right_spec h).2.2.1 x (List.mem_of_getElem? hx)).1
  obtain ⟨j, hj, hjx, hid⟩ := word_node hx (fun e => h3 (by rw [e]; rfl))
  refine ⟨j, x, hj, hx, hjx, ?_⟩
  unfold atW
  rw [hx]
  dsimp only
  rw [hid]
theorem nuTo_trie (h : rightP false ws = true) : ∀ i, i ≤ (nodesL ws).length → nuTo (trieP ws) (nodesL ws).length i = some ((List.range (nodesL ws).length).map (fun w => atW ws i w), manyW ws i)
  | 0, _ => by
    unfold nuTo
    have e1 : (fun w => atW ws 0 w) = fun _ => 0 := by
      funext w
      unfold atW
      split <;> simp
    have e2 : manyW ws 0 = 0 := by simp [manyW]
    rw [e1, e2]
    simp [List.map_const']
  | i + 1, hi => by
    have ih := nuTo_trie h i (by omega)
    obtain ⟨g1, _⟩ := right_nodup h
    have hns := (nodesL_srt ws).nodup
    obtain ⟨x, hx⟩ : ∃ x, (nodesL ws)[i]? = some x := ⟨(nodesL ws)[i]'(by omega), by simp⟩
    have hidx : (nodesL ws).idxOf x = i := by
      have := List.Nodup.idxOf_getElem hns i (by omega)
      rwa [(List.getElem?_eq_some_iff.1 hx).2] at this
    unfold nuTo
    rw [ih, Option.bind_some]
    have ew : (trieP ws).wrd[i]? = some (placeS ws x) := by simp [trieP, hx]
    rw [ew]
    dsimp only
    have hidx2 : ∀ y ∈ ws, (nodesL ws).idxOf y = i → y = x := fun y hy e => by
      have hym : y ∈ nodesL ws := by
        rw [mem_nodesL, IsBeg.iff]
        exact .inr ⟨fun e => by subst e; exact ((right_spec h).2.2.1 _ hy).1 rfl, y, hy, List.prefix_refl _⟩
      have h1 := List.getElem_idxOf (List.idxOf_lt_length_of_mem hym)
      have h2 := (List.getElem?_eq_some_iff.1 hx).2
      rw [← h1, ← h2]
      congr 1
    by_cases hm : x ∈ ws
    · obtain ⟨w, hw⟩ := List.getElem?_of_mem hm
      have hwl := (List.getElem?_eq_some_iff.1 hw).1
      have hwn := words_lt h
      have hp := placeS_at g1 hw
      have hx0 : x ≠ [] := fun e => by subst e; exact ((right_spec h).2.2.1 _ hm).1 rfl
      have hi0 : i ≠ 0 := fun e => by
        subst e
        rw [nodesL_head] at hx
        exact hx0 (Option.some.inj hx).symm
      rw [hp, if_neg (by omega), Int.toNat_natCast]
      have ea : atW ws i w = 0 := by unfold atW; rw [hw]; dsimp only; rw [hidx, if_neg (by omega)]
      have eg : (((List.range (nodesL ws).length).map (fun w => atW ws i w))[w]?).getD 0 = 0 := by
        rw [List.getElem?_map, List.getElem?_range (by omega)]
        simpa using ea
      rw [if_neg (by rw [eg]; omega)]
      congr 1
      refine Prod.ext ?_ ?_
      · dsimp only
        apply List.ext_getElem?
        intro v
        rw [List.getElem?_set]
        by_cases e : w = v
        · subst e
          have hwn' : w < (nodesL ws).length := by omega
          have e1 : atW ws (i + 1) w = i := by unfold atW; rw [hw]; dsimp only; rw [hidx, if_pos (by omega)]
          simp [hwn', e1]
        · rw [if_neg e, List.getElem?_map, List.getElem?_map]
          by_cases hv : v < (nodesL ws).length
          · rw [List.getElem?_range hv]
            simp only [Option.map_some, Option.some.injEq]
            unfold atW
            cases ev : ws[v]? with
            | none => rfl
            | some y =>
              dsimp only
              have hne : (nodesL ws).idxOf y ≠ i := fun e2 => by
                have := hidx2 y (List.mem_of_getElem? ev) e2
                subst this
                exact e (nodup_at g1 hw ev)
              by_cases hlt : (nodesL ws).idxOf y < i
              · rw [if_pos hlt, if_pos (by omega)]
              · rw [if_neg hlt, if_neg (by omega)]
          · rw [List.getElem?_eq_none (by simpa using hv)]; rfl
      · dsimp only
        unfold manyW
        have key : ∀ (l : List (List Int)), l.Nodup → x ∈ l → (∀ y ∈ l, (nodesL ws).idxOf y = i → y = x) → (l.filter fun y => decide ((nodesL ws).idxOf y < i + 1)).length = (l.filter fun y => decide ((nodesL ws).idxOf y < i)).length + 1 := by
          intro l
          induction l with
          | nil => intro _ h; cases h
          | cons y l ihl =>
            intro hn hxm hu
            rw [List.nodup_cons] at hn
            by_cases e : y = x
            · subst e
              have hrest : ∀ z ∈ l, (decide ((nodesL ws).idxOf z < i + 1)) = decide ((nodesL ws).idxOf z < i) := fun z hz => by
                have hne : (nodesL ws).idxOf z ≠ i := fun e2 => by
                  have := hu z (by simp [hz]) e2
                  subst this
                  exact hn.1 hz
                rw [decide_eq_decide]; omega
              rw [List.filter_cons, List.filter_cons, if_pos (by rw [hidx]; simp), if_neg (by rw [hidx]; simp), List.length_cons, List.filter_congr hrest]
            · have hxl : x ∈ l := (List.mem_cons.1 hxm).resolve_left (fun e2 => e e2.symm)
              have hne : (nodesL ws).idxOf y ≠ i := fun e2 => e (hu y (by simp) e2)
              have ih2 := ihl hn.2 hxl (fun z hz => hu z (by simp [hz]))
              rw [List.filter_cons, List.filter_cons]
              by_cases hlt : (nodesL ws).idxOf y < i
              · rw [if_pos (by simp; omega), if_pos (by simpa using hlt), List.length_cons, List.length_cons, ih2]
              · rw [if_neg (by simp; omega), if_neg (by simpa using hlt), ih2]
        rw [key ws g1 hm hidx2]
        omega
    · rw [placeS_no hm, if_pos rfl]
      congr 1
      have hne : ∀ y ∈ ws, (nodesL ws).idxOf y ≠ i := fun y hy e => hm (hidx2 y hy e ▸ hy)
      refine Prod.ext ?_ ?_
      · dsimp only
        apply List.map_congr_left
        intro v _
        unfold atW
        cases ev : ws[v]? with
        | none => rfl
        | some y =>
          dsimp only
          have := hne y (List.mem_of_getElem? ev)
          by_cases hlt : (nodesL ws).idxOf y < i
          · rw [if_pos hlt, if_pos (by omega)]
          · rw [if_neg hlt, if_neg (by omega)]
      · dsimp only
        have ef : (ws.filter fun y => decide ((nodesL ws).idxOf y < i + 1)) = ws.filter fun y => decide ((nodesL ws).idxOf y < i) := List.filter_congr (fun y hy => by have := hne y hy; rw [decide_eq_decide]; omega)
        unfold manyW
        rw [ef]
theorem manyW_all (h : rightP false ws = true) : manyW ws (nodesL ws).length = ws.length := by
  unfold manyW
  rw [List.filter_eq_self.2]
  intro y hy
  have hym : y ∈ nodesL ws := by
    rw [mem_nodesL, IsBeg.iff]
    exact .inr ⟨fun e => by subst e; exact ((right_spec h).2.2.1 _ hy).1 rfl, y, hy, List.prefix_refl _⟩
  simpa using List.idxOf_lt_length_of_mem hym
theorem wdTo_trie (h : rightP false ws = true) : ∀ k, k ≤ ws.length → wdTo (nodesL ws) ((List.range (nodesL ws).length).map (fun w => atW ws (nodesL ws).length w)) k = some (ws.take k)
  | 0, _ => rfl
  | k + 1, hk => by
    have ih := wdTo_trie h k (by omega)
    obtain ⟨j, x, hj, hx, hjx, ha⟩ := atW_at (i := (nodesL ws).length) (w := k) (by omega) h
    have hjl := (List.getElem?_eq_some_iff.1 hjx).1
    rw [if_pos hjl] at ha
    unfold wdTo
    rw [ih, Option.bind_some, List.getElem?_map, List.getElem?_range (by have := words_lt h; omega)]
    simp only [Option.map_some, ha]
    rw [if_neg (by omega), Int.toNat_natCast, hjx, Option.map_some, take_step hx]
theorem nuO_trie (h : rightP false ws = true) : nuO (trieP ws) (nodesL ws) = some ws := by
  unfold nuO
  have e : (trieP ws).wrd.length = (nodesL ws).length := by simp [trieP]
  rw [e, nuTo_trie h _ (Nat.le_refl _), Option.bind_some]
  dsimp only
  rw [manyW_all h, Int.toNat_natCast, wdTo_trie h _ (Nat.le_refl _), List.take_length]
theorem readP_trie (h : rightP false ws = true) : readP (trieP ws) = some (nodesL ws, ws) := by
  unfold readP
  rw [spO_trie h, Option.bind_some, nuO_trie h, Option.bind_some, if_pos (by rw [h, eqT_iff.2 rfl]; rfl)]
end
/-- What is read of a trie: just what it is made of. -/
theorem readP_iff {T : TrieT} {sp ws : List (List Int)} : readP T = some (sp, ws) ↔ rightP false ws = true ∧ T = trieP ws ∧ sp = nodesL ws := by
  constructor
  · intro h
    unfold readP at h
    obtain ⟨sp0, h1, h⟩ := Option.bind_eq_some_iff.1 h
    obtain ⟨ws0, h2, h⟩ := Option.bind_eq_some_iff.1 h
    split at h
    · rename_i hc
      rw [Bool.and_eq_true] at hc
      have hc : rightP false ws0 = true ∧ T = trieP ws0 := ⟨hc.1, (eqT_iff.1 hc.2).symm⟩
      injection h with h
      injection h with e1 e2
      subst e1 e2
      refine ⟨hc.1, hc.2, ?_⟩
      rw [hc.2, spO_trie hc.1] at h1
      exact (Option.some.inj h1).symm
    · cases h
  · rintro ⟨h1, rfl, rfl⟩
    exact readP_trie h1

end Go.Proofs.YtjfhefffbkpgkaaGreat

/- Bytes that are told apart (layer 10): plain. -/

namespace Go.Proofs.YtjfhefffbkpgkaaGreat
set_option linter.unusedVariables false
set_option linter.unusedSimpArgs false

/-- A small letter. -/
def smallI (c : Int) : Bool := decide (97 ≤ c ∧ c ≤ 122)
/-- Is a byte one of a set's? -/
def inB (fold : Bool) (ws : List (List Int)) (c : Int) : Bool := ws.any fun w => w.any fun x => decide (x = c) || (fold && smallI x && decide (x - 32 = c))
/-- The classes of the first bytes, and how many there are. -/
def clsN (p : Int → Bool) (fold : Bool) : Nat → List Int × Nat
  | 0 => ([], 1)
  | i + 1 => if p i = false then ((clsN p fold i).1 ++ [0], (clsN p fold i).2)
    else if (fold && smallI i) = true then ((clsN p fold i).1 ++ [((clsN p fold i).1[i - 32]?).getD 0], (clsN p fold i).2)
    else ((clsN p fold i).1 ++ [((clsN p fold i).2 : Int)], (clsN p fold i).2 + 1)
theorem clsN_succ (p : Int → Bool) (fold : Bool) (i : Nat) : clsN p fold (i + 1) = if p i = false then ((clsN p fold i).1 ++ [0], (clsN p fold i).2)
    else if (fold && smallI i) = true then ((clsN p fold i).1 ++ [((clsN p fold i).1[i - 32]?).getD 0], (clsN p fold i).2)
    else ((clsN p fold i).1 ++ [((clsN p fold i).2 : Int)], (clsN p fold i).2 + 1) := rfl
theorem clsN_len (p : Int → Bool) (fold : Bool) : ∀ i, (clsN p fold i).1.length = i
  | 0 => rfl
  | i + 1 => by
    have ih := clsN_len p fold i
    unfold clsN
    split
    · simp [ih]
    · split <;> simp [ih]
theorem clsN_many (p : Int → Bool) (fold : Bool) : ∀ i, 1 ≤ (clsN p fold i).2 ∧ (clsN p fold i).2 ≤ i + 1
  | 0 => ⟨Nat.le_refl _, Nat.le_refl _⟩
  | i + 1 => by
    have ih := clsN_many p fold i
    unfold clsN
    split
    · exact ⟨ih.1, by show (clsN p fold i).2 ≤ _; omega⟩
    · split
      · exact ⟨ih.1, by show (clsN p fold i).2 ≤ _; omega⟩
      · exact ⟨by show 1 ≤ (clsN p fold i).2 + 1; omega, by show (clsN p fold i).2 + 1 ≤ _; omega⟩
theorem clsN_old (p : Int → Bool) (fold : Bool) {j : Nat} : ∀ {i}, j < i → (clsN p fold i).1[j]? = (clsN p fold (j + 1)).1[j]?
  | 0, h => absurd h (Nat.not_lt_zero _)
  | i + 1, h => by
    by_cases hj : j = i
    · subst hj; rfl
    · have ih := clsN_old p fold (j := j) (i := i) (by omega)
      rw [← ih]
      have hl := clsN_len p fold i
      conv => lhs; unfold clsN
      split
      · exact List.getElem?_append_left (by omega)
      · split
        · exact List.getElem?_append_left (by omega)
        · exact List.getElem?_append_left (by omega)
def clsP (fold : Bool) (ws : List (List Int)) : List Int := (clsN (inB fold ws) fold 256).1
def manyP (fold : Bool) (ws : List (List Int)) : Nat := (clsN (inB fold ws) fold 256).2
theorem clsP_len (fold : Bool) (ws : List (List Int)) : (clsP fold ws).length = 256 := clsN_len _ _ _
/-- The class of a byte. -/
theorem cls_at (p : Int → Bool) (fold : Bool) {j i : Nat} (h : j < i) : (clsN p fold i).1[j]? = some (if p j = false then 0 else if (fold && smallI j) = true then ((clsN p fold j).1[j - 32]?).getD 0 else ((clsN p fold j).2 : Int)) := by
  rw [clsN_old p fold h, clsN_succ]
  have hl := clsN_len p fold j
  split
  · rw [List.getElem?_append_right (by omega), hl, Nat.sub_self]; rfl
  · split
    · rw [List.getElem?_append_right (by omega), hl, Nat.sub_self]; rfl
    · rw [List.getElem?_append_right (by omega), hl, Nat.sub_self]; rfl
theorem clsN_congr {p q : Int → Bool} (fold : Bool) : ∀ {i : Nat}, (∀ j : Nat, j < i → p j = q j) → clsN p fold i = clsN q fold i
  | 0, _ => rfl
  | i + 1, h => by
    have ih := clsN_congr fold (i := i) (fun j hj => h j (by omega))
    unfold clsN
    rw [ih, h i (by omega)]
/-- The document's word: a byte is one of a set's, folded. -/
theorem inB_fold {fold : Bool} {ws : List (List Int)} (hw : ∀ w ∈ ws, foldL fold w = w) (hb : ∀ w ∈ ws, ∀ x ∈ w, 0 ≤ x ∧ x ≤ 255) (c : Int) :
    inB fold ws c = ws.any fun w => w.any fun x => sameL fold [x] [c] := by
  unfold inB
  rw [Bool.eq_iff_iff, List.any_eq_true, List.any_eq_true]
  have key : ∀ w ∈ ws, ∀ x ∈ w, (decide (x = c) || (fold && smallI x && decide (x - 32 = c))) = sameL fold [x] [c] := by
    intro w hwm x hx
    unfold sameL
    cases fold with
    | false =>
      rw [foldL_false, foldL_false, Bool.false_and, Bool.false_and, Bool.or_false]
      congr 1
      simp
    | true =>
      have hfx : foldI x = x := by
        have h := hw w hwm
        unfold foldL at h
        rw [if_pos rfl] at h
        obtain ⟨i, hi⟩ := List.getElem?_of_mem hx
        have h2 := congrArg (fun l => l[i]?) h
        simp only [List.getElem?_map, hi, Option.map_some] at h2
        exact Option.some.inj h2
      have hnb : ¬ (65 ≤ x ∧ x ≤ 90) := fun h => by unfold foldI at hfx; rw [if_pos h] at hfx; omega
      unfold foldL smallI
      rw [if_pos rfl, if_pos rfl, Bool.true_and, List.map_cons, List.map_nil, List.map_cons, List.map_nil, hfx]
      rw [Bool.eq_iff_iff, Bool.or_eq_true, Bool.and_eq_true, decide_eq_true_iff, decide_eq_true_iff, decide_eq_true_iff, decide_eq_true_iff]
      unfold foldI
      have := hb w hwm x hx
      constructor
      · rintro (h | ⟨h1, h2⟩)
        · rw [if_neg (by omega), h]
        · rw [if_pos (by omega), ← h2, show x - 32 + 32 = x by omega]
      · intro h
        have h := (List.cons.inj h).1
        split at h
        · right; omega
        · left; exact h
  constructor
  · rintro ⟨w, hw1, hw2⟩
    refine ⟨w, hw1, ?_⟩
    rw [List.any_eq_true] at hw2 ⊢
    obtain ⟨x, h1, h2⟩ := hw2
    exact ⟨x, h1, by rw [← key w hw1 x h1]; exact h2⟩
  · rintro ⟨w, hw1, hw2⟩
    refine ⟨w, hw1, ?_⟩
    rw [List.any_eq_true] at hw2 ⊢
    obtain ⟨x, h1, h2⟩ := hw2
    exact ⟨x, h1, by rw [key w hw1 x h1]; exact h2⟩
end Go.Proofs.YtjfhefffbkpgkaaGreat

/- The sort of texts by a function, laid at this program: numbers, and the bodies held against those of the library. -/



namespace Go.Proofs.YtjfhefffbkpgkaaGreat
open Go.Shelf
def sortStr_ren : Go.Shelf.Ren := ⟨fun | 6 => 54 | 15 => 75 | 14 => 74 | 28 => 92 | 29 => 93 | 20 => 84 | 21 => 85 | 22 => 86 | 23 => 87 | 24 => 88 | 25 => 89 | 26 => 90 | 27 => 91 | 46 => 108 | 47 => 109 | 48 => 110 | 49 => 111 | 50 => 112 | 57 => 117 | n => n, fun | 22 => 73 | 24 => 9 | 25 => 102 | 3 => 3 | 39 => 121 | 0 => 0 | 53 => 148 | 55 => 150 | 4 => 4 | 46 => 142 | 45 => 141 | 50 => 36 | 5 => 5 | 9 => 9 | 66 => 160 | 70 => 164 | 76 => 177 | 77 => 178 | n => n, fun | n => n⟩
theorem sortStr : Go.Proofs.SlLaysF.n6 Tryz.prog sortStr_ren := {
  mixed := by kernel_rfl
  f6 := ⟨Tryz.f54.name, by decide, Tryz.func54.trans (congrArg some (by kernel_rfl))⟩
  f14 := ⟨Tryz.f74.name, by decide, Tryz.func74.trans (congrArg some (by kernel_rfl))⟩
  f15 := Tryz.func75.trans (congrArg some (by kernel_rfl))
  f20 := ⟨Tryz.f84.name, by decide, Tryz.func84.trans (congrArg some (by kernel_rfl))⟩
  f21 := ⟨Tryz.f85.name, by decide, Tryz.func85.trans (congrArg some (by kernel_rfl))⟩
  f22 := ⟨Tryz.f86.name, by decide, Tryz.func86.trans (congrArg some (by kernel_rfl))⟩
  f23 := ⟨Tryz.f87.name, by decide, Tryz.func87.trans (congrArg some (by kernel_rfl))⟩
  f24 := ⟨Tryz.f88.name, by decide, Tryz.func88.trans (congrArg some (by kernel_rfl))⟩
  f25 := ⟨Tryz.f89.name, by decide, Tryz.func89.trans (congrArg some (by kernel_rfl))⟩
  f26 := ⟨Tryz.f90.name, by decide, Tryz.func90.trans (congrArg some (by kernel_rfl))⟩
  f27 := ⟨Tryz.f91.name, by decide, Tryz.func91.trans (congrArg some (by kernel_rfl))⟩
  f28 := Tryz.func92.trans (congrArg some (by kernel_rfl))
  f29 := Tryz.func93.trans (congrArg some (by kernel_rfl))
  f46 := ⟨Tryz.f108.name, by decide, Tryz.func108.trans (congrArg some (by kernel_rfl))⟩
  f47 := Tryz.func109.trans (congrArg some (by kernel_rfl))
  f48 := Tryz.func110.trans (congrArg some (by kernel_rfl))
  f49 := ⟨Tryz.f111.name, by decide, Tryz.func111.trans (congrArg some (by kernel_rfl))⟩
  f50 := ⟨Tryz.f112.name, by decide, Tryz.func112.trans (congrArg some (by kernel_rfl))⟩
  f57 := ⟨Tryz.f117.name, by decide, Tryz.func117.trans (congrArg some (by kernel_rfl))⟩
  t0 := Tryz.underlying0
  a0 := Tryz.isAgg0
  z0 := Tryz.sizeOf0
  v0 := Tryz.zeroValue0
  t3 := Tryz.underlying3
  a3 := Tryz.isAgg3
  z3 := Tryz.sizeOf3
  v3 := Tryz.zeroValue3
  t4 := Tryz.underlying4
  a4 := Tryz.isAgg4
  z4 := Tryz.sizeOf4
  v4 := Tryz.zeroValue4
  t5 := Tryz.underlying5
  a5 := Tryz.isAgg5
  z5 := Tryz.sizeOf5
  v5 := Tryz.zeroValue5
  t9 := Tryz.underlying9
  a9 := Tryz.isAgg9
  z9 := Tryz.sizeOf9
  v9 := Tryz.zeroValue9
  t22 := Tryz.underlying73
  a22 := Tryz.isAgg73
  z22 := Tryz.sizeOf73
  v22 := Tryz.zeroValue73
  a24 := Tryz.isAgg9
  z24 := Tryz.sizeOf9
  t25 := Tryz.underlying102
  a25 := Tryz.isAgg102
  z25 := Tryz.sizeOf102
  v25 := Tryz.zeroValue102
  t39 := Tryz.underlying121
  a39 := Tryz.isAgg121
  z39 := Tryz.sizeOf121
  v39 := Tryz.zeroValue121
  t45 := Tryz.underlying141
  a45 := Tryz.isAgg141
  z45 := Tryz.sizeOf141
  v45 := Tryz.zeroValue141
  t46 := Tryz.underlying142
  a46 := Tryz.isAgg142
  z46 := Tryz.sizeOf142
  v46 := Tryz.zeroValue142
  t50 := Tryz.underlying36
  a50 := Tryz.isAgg36
  z50 := Tryz.sizeOf36
  v50 := Tryz.zeroValue36
  t53 := Tryz.underlying148
  a53 := Tryz.isAgg148
  z53 := Tryz.sizeOf148
  v53 := Tryz.zeroValue148
  t55 := Tryz.underlying150
  a55 := Tryz.isAgg150
  z55 := Tryz.sizeOf150
  v55 := Tryz.zeroValue150
  t66 := Tryz.underlying160
  a66 := Tryz.isAgg160
  z66 := Tryz.sizeOf160
  v66 := Tryz.zeroValue160
  t70 := Tryz.underlying164
  a70 := Tryz.isAgg164
  z70 := Tryz.sizeOf164
  v70 := Tryz.zeroValue164
  t76 := Tryz.underlying177
  a76 := Tryz.isAgg177
  z76 := Tryz.sizeOf177
  v76 := Tryz.zeroValue177
  t77 := Tryz.underlying178
  a77 := Tryz.isAgg178
  z77 := Tryz.sizeOf178
  v77 := Tryz.zeroValue178 }
end Go.Proofs.YtjfhefffbkpgkaaGreat

/- Texts compared by length, then by their bytes (layer 7): walked; the sort's order. -/





namespace Go.Proofs.YtjfhefffbkpgkaaGreat
open Go.RowKit Go.Sort Go.Shelf
set_option linter.unusedVariables false

def cmpStr_ren : Go.Shelf.Ren := ⟨fun | 106 => 58 | 213 => 77 | 265 => 94 | n => n, fun | 3 => 3 | 9 => 9 | n => n, fun | n => n⟩
theorem cmpStr : Go.Proofs.Lays.n106 Tryz.prog cmpStr_ren := {
  mixed := by kernel_rfl
  f106 := Tryz.func58.trans (congrArg some (by kernel_rfl))
  f213 := Tryz.func77.trans (congrArg some (by kernel_rfl))
  f265 := Tryz.func94.trans (congrArg some (by kernel_rfl))
  t3 := Tryz.underlying3
  a3 := Tryz.isAgg3
  z3 := Tryz.sizeOf3
  v3 := Tryz.zeroValue3
  t9 := Tryz.underlying9
  a9 := Tryz.isAgg9
  z9 := Tryz.sizeOf9
  v9 := Tryz.zeroValue9 }
theorem scmp_any (a b : ByteArray) (w : World) : Calls Tryz.prog 58 #[.string a, .string b] w fun e w' => e = .returned (.int .i64 (Lib.compareBytes a.data.toList b.data.toList)) ∧ w = w' :=
  (Any.strings_Compare (P := Tryz.prog) (ρ := cmpStr_ren) cmpStr a b w).mono fun e w' ⟨h1, h2⟩ => ⟨h1, h2.symm⟩

abbrev Byt := List UInt8
def strB (l : Byt) : ByteArray := ⟨l.toArray⟩
abbrev strV (l : Byt) : Value := .string (strB l)
def toI (l : Byt) : List Int := l.map fun b => (b.toNat : Int)
theorem toI_length (l : Byt) : (toI l).length = l.length := by simp [toI]
theorem toI_inj : ∀ {x y : Byt}, toI x = toI y → x = y
  | [], [], _ => rfl
  | [], _ :: _, h => by simp [toI] at h
  | _ :: _, [], h => by simp [toI] at h
  | a :: x, b :: y, h => by
    simp only [toI, List.map_cons, List.cons.injEq] at h
    have h1 : a = b := UInt8.toNat_inj.1 (by omega)
    rw [h1, toI_inj h.2]
def cfS (a b : Byt) : Int := orL [cmpI a.length b.length, Lib.compareBytes a b]
theorem compare_lex : ∀ {x y : Byt}, x.length = y.length → (decide (Lib.compareBytes x y < 0) = lexB (toI x) (toI y))
  | [], [], _ => rfl
  | [], _ :: _, h => by simp at h
  | _ :: _, [], h => by simp at h
  | a :: x, b :: y, h => by
    have ih := compare_lex (x := x) (y := y) (by simpa using h)
    have e1 : (a < b) = ((a.toNat : Int) < b.toNat) := by rw [UInt8.lt_iff_toNat_lt]; exact propext (by omega)
    have e2 : (b < a) = ((b.toNat : Int) < a.toNat) := by rw [UInt8.lt_iff_toNat_lt]; exact propext (by omega)
    have h1 : toI (a :: x) = (a.toNat : Int) :: toI x := rfl
    have h2 : toI (b :: y) = (b.toNat : Int) :: toI y := rfl
    rw [h1, h2]
    unfold Lib.compareBytes lexB
    simp only [e1, e2]
    by_cases g1 : (a.toNat : Int) < b.toNat
    · simp [g1]
    · by_cases g2 : (b.toNat : Int) < a.toNat
      · simp [g1, g2]
      · rw [if_neg g1, if_neg g2, if_neg g1, if_neg g2]
        exact ih
theorem ltOf_cfS (x y : Byt) : ltOf cfS x y = ltS (toI x) (toI y) := by
  unfold ltOf cfS ltS
  rw [toI_length, toI_length]
  by_cases h1 : x.length < y.length
  · rw [if_pos h1]
    have : cmpI (x.length : Int) (y.length : Int) = -1 := by unfold cmpI; rw [if_pos (by omega)]
    simp [orL, this]
  · rw [if_neg h1]
    by_cases h2 : y.length < x.length
    · rw [if_pos h2]
      have : cmpI (x.length : Int) (y.length : Int) = 1 := by unfold cmpI; rw [if_neg (by omega), if_pos (by omega)]
      simp [orL, this]
    · rw [if_neg h2, ← compare_lex (by omega)]
      have : cmpI (x.length : Int) (y.length : Int) = 0 := by unfold cmpI; rw [if_neg (by omega), if_neg (by omega)]
      rw [this]
      by_cases e : Lib.compareBytes x y = 0
      · simp [orL, e]
      · simp [orL, e]
theorem cfS_swo : SWO (ltOf cfS) where
  irrefl x := by rw [ltOf_cfS, ltS_irrefl]
  trans x y z h1 h2 := by rw [ltOf_cfS] at h1 h2 ⊢; exact ltS_trans h1 h2
  ntrans x y z h1 h2 := by
    rw [ltOf_cfS] at h1 h2 ⊢
    cases e : ltS (toI x) (toI z) with
    | false => rfl
    | true =>
      exfalso
      cases e1 : ltS (toI y) (toI x) with
      | true => rw [ltS_trans e1 e] at h2; cases h2
      | false => rw [ltS_total h1 e1] at e; rw [e] at h2; cases h2
theorem cfS_total (x y : Byt) (h1 : ltOf cfS x y = false) (h2 : ltOf cfS y x = false) : x = y := by
  rw [ltOf_cfS] at h1 h2
  exact toI_inj (ltS_total h1 h2)

theorem begCmp_any (a b : Byt) (w : World) :
    Calls Tryz.prog 55 #[strV a, strV b] w fun e w' => e = .returned (.int .i64 (cfS a b)) ∧ ∃ q os, w' = grow (w.drewN q) os := by
  have HE : Hid (cfS a b = orL [cmpI a.length b.length, Lib.compareBytes a b]) := rfl
  have hsz1 : (strB a).size = a.length := by simp [strB, ByteArray.size]
  have hsz2 : (strB b).size = b.length := by simp [strB, ByteArray.size]
  have hc := scmp_any (strB a) (strB b)
  have e1 : (strB a).data.toList = a := by simp [strB]
  have e2 : (strB b).data.toList = b := by simp [strB]
  rw [e1, e2] at hc
  obtain ⟨sa, hsa⟩ : ∃ s, strB a = s := ⟨_, rfl⟩
  obtain ⟨sb, hsb⟩ : ∃ s, strB b = s := ⟨_, rfl⟩
  unfold strV
  rw [hsa] at hsz1 hc ⊢
  rw [hsb] at hsz2 hc ⊢
  have HC := Lib.hid hc
  have H1 := Lib.hid hsz1
  have H2 := Lib.hid hsz2
  clear hc hsz1 hsz2 e1 e2 hsa hsb
  go_enter Tryz.func55, Tryz.ntmps55
  go_wp2_with fail
  refine (compare_any _ _ _).mono ?_
  rintro e w1 ⟨rfl, rfl⟩
  go_wp2_with fail
  refine (HC.out _).mono ?_
  rintro e w1 ⟨rfl, rfl⟩
  go_wp2_with fail
  rw [H1.out, H2.out]
  refine (or_any _ _ _ [cmpI a.length b.length, Lib.compareBytes a b] _ (Sl1.lay _ _ [cmpI a.length b.length, Lib.compareBytes a b] _ _ (by simp)) (by simp)).mono ?_
  rintro e w3 ⟨rfl, rfl⟩
  go_wp2
  go_ret
  exact ⟨by rw [HE.out]; rfl, 0, #[_], rfl⟩

end Go.Proofs.YtjfhefffbkpgkaaGreat
