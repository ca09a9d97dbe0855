/- Parts of the proof, one behind the other: K1, K2, K3, K4, K5, K6, V2, G1, G2. No condition but what each theorem states. -/
import Derived.Maps.Own
import Derived.Maps.OwnOps
import Derived.Maps.OwnSet
import Derived.Maps.Views
import Derived.DeepKeys5
import Derived.Deep.CutBlock
import Derived.Test.YtglfdclpjmhoiaaGreatZK5
import Derived.Test.YtglfdclpjmhoiaaGreatZK6
set_option linter.unusedVariables false
set_option linter.unusedSimpArgs false

/- Maps of edges to nodes that a call makes (layer 8): how they are asked and written. -/

namespace Go.Proofs.YtglfdclpjmhoiaaGreat
open Go.RowKit Go.Sort Go.Maps Go.WideAt Go.WideMaps

theorem laidOut8 : laidOutB Tryz.prog = true := by kernel_rfl
theorem fedge_law : Keyed Tryz.prog 116 := Keyed.of_law (deep_law_laid laidOut8 (m := Tryz.prog.types.size + 1) (of_decide_eq_true (by kernel_rfl)) (of_decide_eq_true (by kernel_rfl)) (by kernel_rfl) (by kernel_rfl))
theorem fkey (n c : Int) (hn : -9223372036854775808 ≤ n ∧ n ≤ 9223372036854775807) (hc : 0 ≤ c ∧ c ≤ 255) : ∃ kl, keyOf Tryz.prog 116 (.agg #[.int .i64 n, .int .u8 c]) = some kl := by
 have hk : Tryz.prog.keyType 116 = true := by kernel_rfl
 have h0 : 0 < Tryz.prog.types.size := of_decide_eq_true (by kernel_rfl)
 obtain ⟨m, hm⟩ : ∃ m, Tryz.prog.types.size + 1 = m + 1 + 1 := ⟨Tryz.prog.types.size - 1, by omega⟩
 have e1 : Tryz.prog.cellsOf 116 = 2 := by kernel_rfl
 have e2 : Tryz.prog.cellsOf 3 = 1 := by kernel_rfl
 have e3 : Tryz.prog.cellsOf 5 = 1 := by kernel_rfl
 have w1 : (Lit.int .i64 n).wf = true := by simp [Lit.wf, IntKind.min, IntKind.max, IntKind.signed, IntKind.bits]; omega
 have w2 : (Lit.int .u8 c).wf = true := by simp [Lit.wf, IntKind.min, IntKind.max, IntKind.signed, IntKind.bits]; omega
 unfold keyOf
 rw [Tryz.underlying116, hm]
 refine ⟨.string (keyBytes [.int .i64 n, .int .u8 c]), ?_⟩
 simp [hk, Value.formed, Value.cells, Program.keyLits, Tryz.underlying116, Tryz.underlying3, Tryz.underlying5, e1, e2, e3, w1, w2]

/-- What a map of edges says. -/
def FK (D : DataW Unit) (f : Int × Int → Option Int) : Prop := IsMap D ∧ ∀ n c kl, keyOf Tryz.prog 116 (.agg #[.int .i64 n, .int .u8 c]) = some kl →
 Maps.has D kl = (f (n, c)).isSome ∧ D.atKey kl (.lit (.int .i64 0)) = .lit (.int .i64 ((f (n, c)).getD 0))
theorem FK.start : FK (.map []) (fun _ => none) := ⟨isMap_empty, fun n c kl _ => ⟨rfl, rfl⟩⟩
theorem FK.put {D : DataW Unit} {f : Int × Int → Option Int} (h : FK D f) {n c m : Int} {kl : Lit} (hk : keyOf Tryz.prog 116 (.agg #[.int .i64 n, .int .u8 c]) = some kl) :
  FK (D.put kl (.lit (.int .i64 m))) (fun q => if q = (n, c) then some m else f q) := by
 have hkk := fedge_law.key hk
 refine ⟨h.1.put _ _, fun n' c' kl' hk' => ?_⟩
 by_cases e : kl' = kl
 ·
  subst e
  have := fedge_law.inj hk' hk
  simp only [Value.agg.injEq, Array.mk.injEq, List.cons.injEq, Value.int.injEq, true_and, and_true] at this
  obtain ⟨rfl, rfl⟩ := this
  refine ⟨by rw [has_put_same h.1 hkk]; simp, ?_⟩
  rw [atKey_put_same h.1 hkk]
  simp
 ·
  have hne : ¬ ((n', c') = (n, c)) := by
   intro e2
   simp only [Prod.mk.injEq] at e2
   obtain ⟨rfl, rfl⟩ := e2
   rw [hk] at hk'
   exact e (Option.some.inj hk').symm
  simp only [if_neg hne]
  obtain ⟨h1, h2⟩ := h.2 n' c' kl' hk'
  exact ⟨by rw [has_put_other e, h1], by rw [atKey_put_other e, h2]⟩
/-- A map of edges in memory. -/
def FM (W : World) (b n : Nat) (f : Int × Int → Option Int) : Prop := ∃ D : DataW Unit, W.ownsMap Tryz.prog 116 (plainElem Tryz.prog 3) b n D ∧ FK D f
theorem FM.start (w : World) : FM (w.alloc (.map #[] 0)) w.heap.size 0 (fun _ => none) := ⟨_, World.ownsMap_made w Tryz.prog 116 (plainElem Tryz.prog 3), FK.start⟩
theorem FM.lt {W : World} {b n : Nat} {f : Int × Int → Option Int} (h : FM W b n f) : b < W.heap.size := by
 obtain ⟨D, h1, _⟩ := h
 exact h1.lt
theorem FM.kept {W W' : World} {b n : Nat} {f : Int × Int → Option Int} {row : Option Nat} (h : FM W b n f) (hg : W.grownBy W' row) (hne : row ≠ some b) : FM W' b n f := by
 obtain ⟨D, h1, h2⟩ := h
 exact ⟨D, h1.kept hg (fun e => hne e.symm), h2⟩
theorem FM.below {W W' : World} {b n : Nat} {f : Int × Int → Option Int} (h : FM W b n f) (hb : Below W.heap.size W W') : FM W' b n f := h.kept (grownBy_of_below hb) (by simp)
theorem FM.alloc {W : World} {b n : Nat} {f : Int × Int → Option Int} (h : FM W b n f) (o : Obj) : FM (W.alloc o) b n f := h.below (below_alloc W o)
theorem FM.set {w : World} {b n m i : Nat} {f : Int × Int → Option Int} (h : FM w b n f) (hm : m ≠ b) (u : Value) : FM (w.setCell ⟨m, i, none⟩ u) b n f := h.kept (grown_set2 w m i u) (by intro e; injection e with e; exact hm e)
theorem zero_int8 (w : World) : (zeroValue 3).run Tryz.prog w = .ok (.int .i64 0) w := by kernel_rfl
/-- 'v, ok := m[k]': its run. -/
theorem FM.look {W : World} {b n : Nat} {f : Int × Int → Option Int} (h : FM W b n f) {z c : Int} (hz : -9223372036854775808 ≤ z ∧ z ≤ 9223372036854775807) (hc : 0 ≤ c ∧ c ≤ 255) :
  Sem.run Tryz.prog (Instr.lookup 86 (.map (some b)) (.agg #[.int .i64 z, .int .u8 c]) true) W = .ok (.tuple #[.int .i64 ((f (z, c)).getD 0), .bool (f (z, c)).isSome]) W := by
 obtain ⟨D, h1, h2, h3⟩ := h
 obtain ⟨kl, hkl⟩ := fkey z c hz hc
 obtain ⟨h4, h5⟩ := h3 z c kl hkl
 obtain ⟨v, ps, hrun, hv⟩ := h1.look_ok fedge_law Tryz.underlying86 (zero_int8 W) (zd := .lit (.int .i64 0)) (zp := []) (plainElem_int Tryz.underlying3 (by decide)) hkl
 obtain ⟨q, rfl, hq, _⟩ := plainElem_int_inv Tryz.underlying3 hv
 have h6 : D.atKey kl (.lit (.int .i64 0)) = .lit (.int .i64 q) := congrArg Prod.fst hq
 rw [h5] at h6
 have h7 : (f (z, c)).getD 0 = q := by simpa using h6
 rw [hrun, h4, h7]

section
variable {w : World} {ops : Array Oper} {rest : List Oper} {o : Oper} {a : Act} {Q : Exit → Act → World → Prop} {b n : Nat} {f : Int × Int → Option Int}
theorem wpList_fm_put (hg : o.guard = none) (m x y : Operand) (hop : o.op = Op.mapUpdate 86 m x y) (hm : a.eval m = .map (some b)) (hown : FM w b n f) (hn : n < maxLen) (z c : Int) (v : Int) (hv : (Lit.int .i64 v).wf = true) (hz : -9223372036854775808 ≤ z ∧ z ≤ 9223372036854775807) (hc : 0 ≤ c ∧ c ≤ 255) (hx : a.eval x = .agg #[.int .i64 z, .int .u8 c]) (hy : a.eval y = .int .i64 v)
  (hK : ∀ w', FM w' b (n + 1) (fun q => if q = (z, c) then some v else f q) → w.grownBy w' (some b) → wpList Tryz.prog ops Q rest (a.put o.dst undef) w') : wpList Tryz.prog ops Q (o :: rest) a w := by
 obtain ⟨D, h1, h2⟩ := hown
 obtain ⟨kl, hkl⟩ := fkey z c hz hc
 refine wpList_mapUpdate_own _ hg m x y 86 hop 116 3 fedge_law Tryz.underlying86 _ b n D hm h1 hn _ _ _ hx hy hkl _ [] (plainElem_int Tryz.underlying3 hv) ?_
 intro w' hw hgr
 exact hK w' ⟨_, hw, h2.put hkl⟩ hgr
end

end Go.Proofs.YtglfdclpjmhoiaaGreat

/- A node's chain (layer 8): the iterator, walked. -/

namespace Go.Proofs.YtglfdclpjmhoiaaGreat
open Go.RowKit Go.Sort
attribute [local go_sem] Oper.semAt_some
attribute [local simp] wide_fn wide_depth
attribute [local go_sem] wide_fn wide_depth

abbrev ChP := { z : Nat // z ≤ 1000000 }
def chEnc (z : ChP) : Array Value := #[.int .i64 (z.1 : Int)]
theorem chN_len (L : List Int) : ∀ (f z : Nat), (chN L f z).length ≤ f + 1 ∧ 1 ≤ (chN L f z).length
 | 0, z => by simp [chN]
 | f + 1, z => by
  unfold chN
  split
  · simp
  ·
   have := chN_len L f ((L[z]?).getD 0).toNat
   simp
   omega

theorem chN_succ (L : List Int) (f z : Nat) : chN L (f + 1) z = if z = 0 then [z] else z :: chN L f ((L[z]?).getD 0).toNat := rfl
theorem chN_zero (L : List Int) (f : Nat) : chN L f 0 = [0] := by cases f <;> simp [chN]
theorem chN_head (L : List Int) (f z : Nat) : ∃ r, chN L f z = z :: r := by
 cases f with
 | zero => exact ⟨[], rfl⟩
 | succ f =>
  unfold chN
  split
  · exact ⟨[], rfl⟩
  · exact ⟨_, rfl⟩

theorem chain8_any (g : Nat) (node : Int) (w : World) :
  Calls Tryz.prog 87 #[.pointer (some ⟨g, 0, none⟩), .int .i64 node] w fun e w' => e = .returned (.func (.func 109) #[] #[.pointer (some ⟨w.heap.size + 1, 0, none⟩), .pointer (some ⟨w.heap.size, 0, none⟩)]) ∧
   w' = (w.alloc (.cells #[.pointer (some ⟨g, 0, none⟩)] 83)).alloc (.cells #[.int .i64 node] 3) := by
 go_enter Tryz.func87, Tryz.ntmps87
 go_wp2
 go_ret
 exact ⟨rfl, rfl⟩

def numAt (p : Nat) (w : World) : Nat := match w.cell? ⟨p, 0, none⟩ with | some v => (intOf v).toNat | none => 0

theorem numAt_box {w : World} {p z : Nat} {t : TypeId} (h : Boxed w p t (.int .i64 (z : Int))) : numAt p w = z := by
 unfold numAt
 rw [h.cell]
 simp [intOf]

set_option maxRecDepth 100000 in
set_option maxHeartbeats 4000000 in
theorem chain_stops (g p1 p2 q n : Nat) (L : List Int) (node : Nat) (cs : Array Value) (S : Nat → Prop) (m : Nat) (w : World)
  (hg : w.heap[g]? = some (.cells cs 88 (0, 0))) (hcs : cs[5]? = some (.slice (some ⟨q, 0, none⟩) n n)) (hq : IntRow q L w) (hL : L.length = n) (hn : n ≤ 1000000)
  (h1 : Boxed w p1 83 (.pointer (some ⟨g, 0, none⟩))) (h2 : Boxed w p2 3 (.int .i64 (node : Int)))
  (hS : S g ∧ S q ∧ S p1 ∧ S p2) (hSw : ∀ k, S k → k < w.heap.size) (hp : p2 ≠ g ∧ p2 ≠ q ∧ p2 ≠ p1)
  (hnode : node < n) (hlk : ∀ j, 1 ≤ j → j ≤ node → ∃ k : Nat, L[j]? = some (k : Int) ∧ k < j) :
  SeqStopsW Fence.wide m Tryz.prog 109 #[.pointer (some ⟨p2, 0, none⟩), .pointer (some ⟨p1, 0, none⟩)] chEnc (keepOn S) (fun r => r = p2) (fun zs => zs.map Subtype.val = chN L node node) (fun pre => ∃ r, chN L node node = pre.map Subtype.val ++ r) (node + 2) w := by
 intro l J Jx W hW hJ hJx hY h0
 obtain ⟨s1, s2, s3, s4⟩ := hS
 obtain ⟨p3, p4, p5⟩ := hp
 have cells : ∀ v : World, (∀ k, S k → k ≠ p2 → v.heap[k]? = w.heap[k]?) → v.cell? ⟨p1, 0, none⟩ = some (.pointer (some ⟨g, 0, none⟩)) ∧ v.cell? ⟨g, 5, none⟩ = some (.slice (some ⟨q, 0, none⟩) n n) ∧ ∀ (j : Nat) (x : Int), L[j]? = some x → v.cell? ⟨q, j, none⟩ = some (.int .i64 x) := by
  intro v hv
  have e1 : v.heap[p1]? = some (.cells #[.pointer (some ⟨g, 0, none⟩)] 83 (0, 0)) := (hv p1 s3 (Ne.symm p5)).trans h1
  have e2 : v.heap[g]? = _ := (hv g s1 (Ne.symm p3)).trans hg
  have e3 : v.heap[q]? = some (.cells (L.map (Value.int .i64)).toArray 3 (0, 0)) := (hv q s2 (Ne.symm p4)).trans hq
  refine ⟨by simp [World.cell?, e1], by simp [World.cell?, e2, hcs], fun j x hx => ?_⟩
  rw [cell_of_row v q j _ _ _ e3]
  simp [hx]
 have HC := Lib.hid cells
 have hkW : ∀ k, S k → k ≠ p2 → W.heap[k]? = w.heap[k]? := fun k hk _ => hW.block k (hSw k hk)
 have hbW : Boxed W p2 3 (.int .i64 (node : Int)) := (hW.block p2 h2.lt).trans h2
 have HLK := Lib.hid hlk
 have HS4 := Lib.hid s4
 have HSW := Lib.hid hSw
 clear hg hcs hq h1 h2 cells hlk hSw
 refine callsIn_of_wp Tryz.func109 rfl trivial ?_ rfl
 simp only [Tryz.ntmps109, List.size_toArray, List.length_cons, List.length_nil, Nat.reduceAdd, Nat.reduceSub, Array.replicate_succ, Array.replicate_zero, List.push_toArray, List.append_toArray, List.nil_append, List.cons_append]
 gi_wp2
 gi_loopw [4] (fun s4 wr => ∃ (z f : Nat) (pre : List ChP), z ≤ f ∧ z ≤ node ∧ Hid (chN L node node = pre.map Subtype.val ++ chN L f z) ∧ Boxed wr p2 3 (.int .i64 (z : Int)) ∧ J pre wr ∧ Hid (∀ k, S k → k ≠ p2 → wr.heap[k]? = w.heap[k]?)) (fun _ wr => numAt p2 wr)
 case atStart => exact ⟨node, node, [], Nat.le_refl _, Nat.le_refl _, rfl, hbW, h0, hkW⟩
 case round =>
  obtain ⟨z, f, pre, hzf, hzn, HP, hbz, hj, HK⟩ := hrel
  have cz := hbz.cell
  have HNU := Lib.hid (numAt_box hbz)
  have hlen : pre.length < node + 2 := by
   have h1 := congrArg List.length HP.out
   rw [List.length_append, List.length_map] at h1
   have h2 := chN_len L node node
   omega
  obtain ⟨fn, tmps, assign, body, hyl, hRo⟩ := hY pre ⟨z, by omega⟩ wr hj hlen
  dsimp only [chEnc] at hyl
  gi_wp2
  refine hRo.mono ?_
  rintro e W4 (⟨rfl, hJ4, hk4⟩ | ⟨rfl, hJx4⟩)
  ·
   have hbz4 : Boxed W4 p2 3 (.int .i64 (z : Int)) := (hk4 p2 HS4.out).trans hbz
   have HK4 : Hid (∀ k, S k → k ≠ p2 → W4.heap[k]? = w.heap[k]?) := fun k h1 h2 => (hk4 k h1).trans (HK.out k h1 h2)
   have cz4 := hbz4.cell
   by_cases hz : z = 0
   ·
    subst hz
    have HF : Hid (chN L node node = (pre ++ [(⟨0, by omega⟩ : ChP)]).map Subtype.val) := by have := HP.out; rw [chN_zero] at this; rw [Hid, this]; simp
    clear cz hbz hRo hyl
    gi_wp2
    go_end0
    exact ⟨⟨_, rfl⟩, .inl ⟨_, HF.out.symm, hJ4⟩⟩
   ·
    obtain ⟨k, hk, hkz⟩ := HLK.out z (by omega) hzn
    obtain ⟨f, rfl⟩ : ∃ f', f = f' + 1 := ⟨f - 1, by omega⟩
    have hzm : z ≤ 1000000 := by omega
    have HF : Hid (chN L node node = (pre ++ [(⟨z, hzm⟩ : ChP)]).map Subtype.val ++ chN L f k) := by
     have := HP.out
     rw [chN_succ, if_neg hz, hk, Option.getD_some, Int.toNat_natCast] at this
     rw [Hid, this]
     simp
    obtain ⟨c1, c2, c3⟩ := HC.out W4 HK4.out
    have c4 := c3 z k hk
    have hne : ((z : Int) != 0) = true := by simp; omega
    have i1 : (0 : Int) ≤ (z : Int) := by omega
    have i2 : (z : Int) < (n : Int) := by omega
    have hlt4 := hbz4.lt
    have fz4 := hbz4.frozen
    clear cz hbz hRo hyl c3 hk
    gi_wp2
    refine regionR_drawn_tail (wideF _ _) 7 mixed (by kernel_rfl) (by kernel_rfl) ?_
    dsimp only [List.take_succ_cons, List.take_zero, List.drop_succ_cons, List.drop_zero]
    repeat (go_big_quiet_step (fail))
    refine wpQuiet_nil ?_
    rintro _ ⟨nq, rfl⟩
    have hb0 : Below W4.heap.size W4 (W4.drewN nq) := ⟨rfl, rfl, rfl, Nat.le_refl _, fun _ _ => rfl⟩
    have hJ5 := abides_w hJ hJ4 hb0
    have hJ6 := abides_p hJ hJ5 (p := p2) rfl 0 (.int .i64 (k : Int))
    have hbz5 : Boxed (W4.drewN nq) p2 3 (.int .i64 (z : Int)) := hbz4
    have hbz6 := hbz5.set (.int .i64 (k : Int))
    have HNW := Lib.hid (numAt_box hbz6)
    have HK6 : Hid (∀ j, S j → j ≠ p2 → ((W4.drewN nq).setCell ⟨p2, 0, none⟩ (.int .i64 (k : Int))).heap[j]? = w.heap[j]?) := fun j h1 h2 => (Below.heap_setCell _ _ _ _ (by show j ≠ p2; exact h2)).trans (HK4.out j h1 h2)
    have d1 := hbz5.cell
    have d2 := hbz5.frozen
    have d3 := hbz5.lt
    clear c1 c2 c4 cz4 fz4 HK4 hJ5 hJ4
    gi_wp2
    go_roundw
    case rel => exact ⟨k, f, _, by omega, by omega, HF, hbz6, hJ6, HK6⟩
    case measure => rw [HNU.out, HNW.out]; exact hkz
  ·
   have hzm : z ≤ 1000000 := by omega
   have HF : Hid (∃ r, chN L node node = (pre ++ [(⟨z, hzm⟩ : ChP)]).map Subtype.val ++ r) := by
    obtain ⟨r, hr⟩ := chN_head L f z
    exact ⟨r, by rw [HP.out, hr]; simp⟩
   gi_wp2
   go_end0
   exact ⟨⟨_, rfl⟩, .inr ⟨_, HF.out, hJx4⟩⟩

end Go.Proofs.YtglfdclpjmhoiaaGreat

/- One step (layer 8): walked. -/

namespace Go.Proofs.YtglfdclpjmhoiaaGreat
open Go.RowKit Go.Sort
attribute [local go_sem] Oper.semAt_some
attribute [local simp] wide_fn wide_depth
attribute [local go_sem] wide_fn wide_depth

theorem results_cell1 {fn : Func} {p : Tmp} {tmps : Array Value} {W : World} {B : Nat} (h : fn.results = #[.cell p 3]) (hp : tmps.getD p undef = .pointer (some ⟨B, 0, none⟩)) {v : Int} (hB : Boxed W B 3 (.int .i64 v)) :
  (results fn tmps).run Tryz.prog W = .ok (.int .i64 v) W := by
 have hp' : tmps[p]?.getD undef = .pointer (some ⟨B, 0, none⟩) := by simpa using hp
 have hc := hB.cell
 simp [results, h, hp', asAddr, hc, go_sem, loadVar]

abbrev edgesW (ws : List (List Int)) : Int × Int → Option Int := edgeF (trieP ws).up (trieP ws).byt ((nodesL ws).length - 1)

set_option maxRecDepth 100000 in
set_option maxHeartbeats 4000000 in
theorem step8_any (g mb q n nm i z : Nat) (ws : List (List Int)) (L : List Int) (cs : Array Value) (x : List Int) (c : Int) (w : World)
  (hg : w.heap[g]? = some (.cells cs 88 (0, 0))) (hcs4 : cs[4]? = some (.map (some mb))) (hcs : cs[5]? = some (.slice (some ⟨q, 0, none⟩) n n)) (hm : FM w mb nm (edgesW ws)) (hq : IntRow q L w) (hL : L.length = n) (hN : (nodesL ws).length = n) (hn : n ≤ 1000000)
  (hOK : LinkOK ws L i) (hi : i ≤ n) (hz : z < i) (hx : (nodesL ws)[z]? = some x) (hc : 0 ≤ c ∧ c ≤ 255) :
  Calls Tryz.prog 65 #[.pointer (some ⟨g, 0, none⟩), .int .i64 (z : Int), .int .u8 c] w fun e w' => e = .returned (.int .i64 (placeS (nodesL ws) (lsf (nodesL ws) (x ++ [c])))) ∧ Below w.heap.size w w' := by
 obtain ⟨W3, hW⟩ : ∃ W, W = ((w.alloc (.cells #[.pointer (some ⟨g, 0, none⟩)] 83)).alloc (.cells #[.int .u8 c] 5)).alloc (.cells #[.int .i64 0] 3) := ⟨_, rfl⟩
 have hB : Below w.heap.size w W3 := by rw [hW]; exact ((below_alloc _ _).alloc (by simp only [World.size_alloc]; omega) _).alloc (by simp only [World.size_alloc]; omega) _
 have hO : Bx w.heap.size [.cells #[.pointer (some ⟨g, 0, none⟩)] 83, .cells #[.int .u8 c] 5, .cells #[.int .i64 0] 3] W3 := by
  rw [hW]; exact (((Bx.nil _ w).snoc _ rfl).snoc _ (by simp)).snoc _ (by simp)
 have hs3 : W3.heap.size = w.heap.size + 1 + 1 + 1 := by rw [hW]; simp
 have bG : Boxed W3 w.heap.size 83 (.pointer (some ⟨g, 0, none⟩)) := hO 0 _ rfl
 have bC : Boxed W3 (w.heap.size + 1) 5 (.int .u8 c) := hO 1 _ rfl
 have bR : Boxed W3 (w.heap.size + 1 + 1) 3 (.int .i64 0) := hO 2 _ rfl
 have c0 := bG.cell
 clear hO
 refine calls_of_wp_M Tryz.func65 rfl ?_
 simp only [Tryz.ntmps65, List.size_toArray, List.length_cons, List.length_nil, Nat.reduceAdd, Nat.reduceSub, Array.replicate_succ, Array.replicate_zero, List.push_toArray, List.append_toArray, List.nil_append, List.cons_append]
 go_upto_region 1 with fail
 rw [← hW]
 clear hW
 go_wp2_with (go_at_call 87; refine (chain8_any g z W3).mono ?_; rintro e w' ⟨rfl, rfl⟩)
 obtain ⟨W5, hW5⟩ : ∃ W, W = (W3.alloc (.cells #[.pointer (some ⟨g, 0, none⟩)] 83)).alloc (.cells #[.int .i64 (z : Int)] 3) := ⟨_, rfl⟩
 have hB35 : Below W3.heap.size W3 W5 := by rw [hW5]; exact (below_alloc _ _).alloc (by simp) _
 have h1 : Boxed W5 W3.heap.size 83 (.pointer (some ⟨g, 0, none⟩)) := by rw [hW5]; exact (Boxed.new W3 83 _).alloc _
 have h2 : Boxed W5 (W3.heap.size + 1) 3 (.int .i64 (z : Int)) := by
  rw [hW5]
  have := Boxed.new (W3.alloc (.cells #[.pointer (some ⟨g, 0, none⟩)] 83)) 3 (.int .i64 (z : Int))
  rwa [World.size_alloc] at this
 rw [← hW5]
 clear hW5 c0
 have hB5 : Below w.heap.size w W5 := hB.trans (hB35.mono hB.size)
 have bG5 : Boxed W5 w.heap.size 83 (.pointer (some ⟨g, 0, none⟩)) := (hB35.block _ bG.lt).trans bG
 have bC5 : Boxed W5 (w.heap.size + 1) 5 (.int .u8 c) := (hB35.block _ bC.lt).trans bC
 have bR5 : Boxed W5 (w.heap.size + 1 + 1) 3 (.int .i64 0) := (hB35.block _ bR.lt).trans bR
 have hgl : g < w.heap.size := (Array.getElem?_eq_some_iff.1 hg).1
 have hql : q < w.heap.size := (Array.getElem?_eq_some_iff.1 (show w.heap[q]? = _ from hq)).1
 have hmbl := hm.lt
 have hg5 : W5.heap[g]? = _ := (hB5.block g hgl).trans hg
 have hq5 : IntRow q L W5 := (hB5.block q hql).trans hq
 have hlk : ∀ j, 1 ≤ j → j ≤ z → ∃ k : Nat, L[j]? = some (k : Int) ∧ k < j := fun j h1 h2 => by
  obtain ⟨y, hy⟩ : ∃ y, (nodesL ws)[j]? = some y := ⟨(nodesL ws)[j]'(by omega), by simp⟩
  obtain ⟨k, e1, e2, _⟩ := hOK.at_ (by omega) hy (by omega)
  exact ⟨k, e1, e2⟩
 have hs5 := h2.lt
 rw [hs3] at h1 h2 hs5
 have hps := chain_stops g (w.heap.size + 1 + 1 + 1) (w.heap.size + 1 + 1 + 1 + 1) q n L z cs (fun k => k < W5.heap.size) 8 W5 hg5 hcs hq5 hL hn h1 h2 ⟨by omega, by omega, by omega, by omega⟩ (fun k hk => hk) ⟨by omega, by omega, by omega⟩ (by omega) hlk
 clear bG bC bR hB hB35 hlk hg5 hq5
 apply rangeW rfl (enters_of Tryz.func109 (by kernel_rfl) rfl) hps (fun r hr => by rw [hr]; exact h2.lt) keepOn_t (keepOn_b fun _ h => h) (fun _ => rfl)
  (fun pre W => Boxed W w.heap.size 83 (.pointer (some ⟨g, 0, none⟩)) ∧ Boxed W (w.heap.size + 1) 5 (.int .u8 c) ∧ Boxed W (w.heap.size + 1 + 1) 3 (.int .i64 0) ∧ Below w.heap.size w W ∧ W5.heap.size ≤ W.heap.size ∧ ∀ y ∈ pre.map Subtype.val, edgesW ws ((y : Int), c) = none)
  (fun c' pre W => ∃ k : Int, Boxed W (w.heap.size + 1 + 1) 3 (.int .i64 k) ∧ Below w.heap.size w W ∧ (c' = .ret ∧ ∃ (p : List Nat) (y : Nat), pre.map Subtype.val = p ++ [y] ∧ (∀ y ∈ p, edgesW ws ((y : Int), c) = none) ∧ edgesW ws ((y : Int), c) = some k))
 case hI => exact OwnsW.and (OwnsW.box _ _ _ _ _ (by show ¬ (_ = _); omega)) (OwnsW.and (OwnsW.box _ _ _ _ _ (by show ¬ (_ = _); omega)) (OwnsW.and (OwnsW.box _ _ _ _ _ (by show ¬ (_ = _); omega)) (OwnsW.and (OwnsW.below (by omega) (Nat.le_refl _) (fun r hr => by rw [hr]; omega)) (OwnsW.and (OwnsW.size _ _ _) (OwnsW.pure _ _ _)))))
 case hIx =>
  intro c' s A C row ⟨k, hs⟩ hg hr
  have h : OwnsW W5.heap.size (fun r => r = w.heap.size + 1 + 1 + 1 + 1) (fun (s : List ChP) (W : World) => Boxed W (w.heap.size + 1 + 1) 3 (.int .i64 k) ∧ Below w.heap.size w W ∧ (c' = .ret ∧ ∃ (p : List Nat) (y : Nat), s.map Subtype.val = p ++ [y] ∧ (∀ y ∈ p, edgesW ws ((y : Int), c) = none) ∧ edgesW ws ((y : Int), c) = some k)) :=
   OwnsW.and (OwnsW.box _ _ _ _ _ (by show ¬ (_ = _); omega)) (OwnsW.and (OwnsW.below (by omega) (Nat.le_refl _) (fun r hr => by rw [hr]; omega)) (OwnsW.pure _ _ _))
  exact ⟨k, h s A C row hs hg hr⟩
 case h0 => exact ⟨bG5, bC5, bR5, hB5, Nat.le_refl _, by simp⟩
 case hassign =>
  intro l x W K hK
  unfold chEnc
  gi_wp2
  exact hK
 case hbody =>
  rintro l pre ⟨y, hy⟩ W ⟨hG, hC, hR, hBw, hs, hall⟩ hlen
  have q0 := hR.cell
  have q1 := hR.frozen
  have hgW : ∀ d os, (grow (redrawn W d) os).cell? ⟨g, 4, none⟩ = some (.map (some mb)) := fun d os => by
   have : (grow (redrawn W d) os).heap[g]? = some (.cells cs 88 (0, 0)) := ((below_regrown W d os).block g (by have := hBw.size; omega)).trans ((hBw.block g hgl).trans hg)
   simp [World.cell?, this, hcs4]
  have hG2 : ∀ d os, (grow (redrawn W d) os).cell? ⟨w.heap.size, 0, none⟩ = some (.pointer (some ⟨g, 0, none⟩)) := fun d os => ((below_regrown W d os).cell (p := ⟨w.heap.size, 0, none⟩) hG.lt).trans hG.cell
  have hC2 : ∀ d os, (grow (redrawn W d) os).cell? ⟨w.heap.size + 1, 0, none⟩ = some (.int .u8 c) := fun d os => ((below_regrown W d os).cell (p := ⟨w.heap.size + 1, 0, none⟩) hC.lt).trans hC.cell
  obtain ⟨O, hO⟩ : ∃ O, edgesW ws ((y : Int), c) = O := ⟨_, rfl⟩
  have hlook : ∀ d os, Sem.run Tryz.prog (Instr.lookup 86 (.map (some mb)) (.agg #[.int .i64 (y : Int), .int .u8 c]) true) (grow (redrawn W d) os) = .ok (.tuple #[.int .i64 (O.getD 0), .bool O.isSome]) (grow (redrawn W d) os) := fun d os => by
   have := ((hm.below hBw).below (below_regrown W d os)).look (z := (y : Int)) (c := c) (by omega) hc
   rwa [hO] at this
  have HALL := Lib.hid hall
  have HO := Lib.hid hO
  clear hall hO
  cases O with
  | none =>
   have HF : Hid (∀ v ∈ (pre ++ [(⟨y, hy⟩ : ChP)]).map Subtype.val, edgesW ws ((v : Int), c) = none) := fun v hv => by
    rw [List.map_append, List.mem_append] at hv
    rcases hv with hv | hv
    · exact HALL.out v hv
    · simp at hv; rw [hv]; exact HO.out
   dsimp only
   gi_wp2
   refine regionR_below (wideR _ _ _) mixed (by kernel_rfl) (by kernel_rfl) ?_
   repeat (go_big_quiet_step (fail))
   refine wpQuiet_nil ?_
   rintro _ ⟨⟨dq, osq⟩, rfl⟩
   have hb0 := below_regrown W dq osq
   gi_wp2
   exact ⟨keepsFrom_of_below hb0, keepOn_of_below hb0 (fun k hk => by omega), (hb0.block _ hG.lt).trans hG, (hb0.block _ hC.lt).trans hC, (hb0.block _ hR.lt).trans hR, hBw.trans (hb0.mono hBw.size), Nat.le_trans hs hb0.size, HF.out⟩
  | some v =>
   have HF : Hid (∃ (p : List Nat) (t : Nat), (pre ++ [(⟨y, hy⟩ : ChP)]).map Subtype.val = p ++ [t] ∧ (∀ y ∈ p, edgesW ws ((y : Int), c) = none) ∧ edgesW ws ((t : Int), c) = some v) := ⟨_, y, by simp, HALL.out, HO.out⟩
   dsimp only
   gi_wp2
   refine regionR_below (wideR _ _ _) mixed (by kernel_rfl) (by kernel_rfl) ?_
   repeat (go_big_quiet_step (fail))
   refine wpQuiet_nil ?_
   rintro _ ⟨⟨dq, osq⟩, rfl⟩
   have hb0 := below_regrown W dq osq
   have hR5 : Boxed (grow (redrawn W dq) osq) (w.heap.size + 1 + 1) 3 (.int .i64 0) := (hb0.block _ hR.lt).trans hR
   have d1 := hR5.cell
   have d2 := hR5.frozen
   have d3 := hR5.lt
   have hB6 := hBw.trans (hb0.mono hBw.size)
   have kO := (keepsFrom_of_below (B := W5.heap.size) hb0).trans ((KeepsOthers.setCell (grow (redrawn W dq) osq) ⟨w.heap.size + 1 + 1, 0, none⟩ (.int .i64 v)).from W5.heap.size)
   have bR6 := hR5.set (.int .i64 v)
   gi_wp2
   exact ⟨kO, v, bR6, hB6.setCell (by show w.heap.size ≤ w.heap.size + 1 + 1; omega) _, rfl, HF.out⟩
 case hdone =>
  rintro D zs W hD hS ⟨hG, hC, hR, hBw, hs, hall⟩ hD2
  rw [hS] at hall
  have HZ := Lib.hid (step_none hOK hz (Nat.le_refl _) hx hall)
  have q1 := hR.cell
  have q2 := hR.frozen
  go_wp2
  have bR2 : Boxed ((W.setCell ⟨w.heap.size + 1 + 1, 0, none⟩ (.int .i64 0)).putObj D (.deferred none)) (w.heap.size + 1 + 1) 3 (.int .i64 0) := (World.putObj_heap_other (by omega)).trans (hR.set _)
  have hD3 : (W.setCell ⟨w.heap.size + 1 + 1, 0, none⟩ (.int .i64 0)).heap[D]? = some (.deferred (some [])) := (Below.heap_setCell _ _ _ _ (by simp; omega)).trans hD2
  refine endM rfl hD3 (results_cell1 rfl rfl bR2) ⟨by rw [← HZ.out], put_below (hBw.setCell (by simp; omega) _) (by omega) (Nat.le_refl _) _⟩
 case hstop =>
  rintro D c' pre W hD ⟨r, hS⟩ ⟨k, hR, hBw, rfl, p, y, hpe, hall, hk⟩ hD2
  rw [hpe] at hS
  have HZ := Lib.hid (step_some hOK hz (Nat.le_refl _) hx hS hall hk)
  go_wp2
  have bT : Boxed (W.putObj D (.deferred none)) (w.heap.size + 1 + 1) 3 (.int .i64 k) := (World.putObj_heap_other (by omega)).trans hR
  refine endM rfl hD2 (results_cell1 rfl rfl bT) ⟨by rw [← HZ.out], put_below hBw (by omega) (Nat.le_refl _) _⟩

end Go.Proofs.YtglfdclpjmhoiaaGreat

/- A trie's links (layer 8): walked. -/

namespace Go.Proofs.YtglfdclpjmhoiaaGreat
open Go.RowKit Go.Sort

abbrev lkCells (t : TV) (mb q n : Nat) : Array Value := #[.slice t.ua t.un t.uc, .slice t.da t.dn t.dc, .slice t.xa t.xn t.xc, .slice t.ba t.bn t.bc, .map (some mb), .slice (some ⟨q, 0, none⟩) n n]
/-- A trie with its links, in memory of a call's own. -/
structure LkAt (W : World) (base g : Nat) (t : TV) (ws : List (List Int)) (L : List Int) (E : Int × Int → Option Int) : Prop where
 ex : ∃ mb q nm : Nat, W.heap[g]? = some (.cells (lkCells t mb q (nodesL ws).length) 88 (0, 0)) ∧ FM W mb nm E ∧ IntRow q L W ∧ L.length = (nodesL ws).length ∧ base ≤ g ∧ base ≤ mb ∧ base ≤ q ∧ g ≠ mb ∧ g ≠ q ∧ mb ≠ q ∧ nm ≤ 1000000
theorem LkAt.below {W V : World} {base g : Nat} {t : TV} {ws : List (List Int)} {L : List Int} {E : Int × Int → Option Int} (h : LkAt W base g t ws L E) (hb : Below W.heap.size W V) : LkAt V base g t ws L E := by
 obtain ⟨mb, q, nm, h1, h2, h3, h4⟩ := h.ex
 exact ⟨mb, q, nm, (hb.block g (Array.getElem?_eq_some_iff.1 h1).1).trans h1, h2.below hb, (hb.block q (Array.getElem?_eq_some_iff.1 (show W.heap[q]? = _ from h3)).1).trans h3, h4⟩

/-- Links that are filled in one by one. -/
def lkTo (ws : List (List Int)) (n j : Nat) : List Int := (linksP ws).take j ++ List.replicate (n - j) 0
theorem linksP_len (ws : List (List Int)) : (linksP ws).length = (nodesL ws).length := by simp [linksP]
theorem lkTo_len {ws : List (List Int)} {n j : Nat} (hn : (nodesL ws).length = n) (hj : j ≤ n) : (lkTo ws n j).length = n := by
 unfold lkTo
 rw [List.length_append, List.length_take, List.length_replicate, linksP_len]
 omega
theorem lkTo_at {ws : List (List Int)} {n j i : Nat} (hi : i < j) (hj : j ≤ n) (hn : (nodesL ws).length = n) : (lkTo ws n j)[i]? = (linksP ws)[i]? := by
 unfold lkTo
 rw [List.getElem?_append_left (by rw [List.length_take, linksP_len]; omega), List.getElem?_take, if_pos hi]
theorem lkTo_OK {ws : List (List Int)} {n j : Nat} (hj : j ≤ n) (hn : (nodesL ws).length = n) : LinkOK ws (lkTo ws n j) j := fun i x hi hx => by
 rw [lkTo_at hi hj hn]; exact linksP_at hx
theorem linksP_one {ws : List (List Int)} {n : Nat} (hn : (nodesL ws).length = n) (h1 : 1 ≤ n) : lkTo ws n 1 = List.replicate n 0 := by
 obtain ⟨m, rfl⟩ : ∃ m, n = m + 1 := ⟨n - 1, by omega⟩
 have h0 := linksP_at (nodesL_head ws)
 have hz : linkI ws [] = 0 := placeS_at (nodesL_srt ws).nodup (nodesL_head ws)
 rw [hz] at h0
 have hs := take_step h0
 unfold lkTo
 rw [hs, List.replicate_succ]
 simp
theorem lkTo_set {ws : List (List Int)} {n j : Nat} {v : Int} (hn : (nodesL ws).length = n) (hj : j < n) (hv : (linksP ws)[j]? = some v) : (lkTo ws n j).set j v = lkTo ws n (j + 1) := by
 unfold lkTo
 obtain ⟨m, hm⟩ : ∃ m, n - j = m + 1 := ⟨n - j - 1, by omega⟩
 have hl : ((linksP ws).take j).length = j := by rw [List.length_take, linksP_len]; omega
 rw [List.set_append_right _ _ (by omega), hl, Nat.sub_self, hm, List.replicate_succ, List.set_cons_zero, take_step hv, show n - (j + 1) = m by omega, List.append_assoc]
 rfl
theorem lkTo_zero {ws : List (List Int)} {n j : Nat} (hn : (nodesL ws).length = n) (hj : j < n) (hv : (linksP ws)[j]? = some 0) : lkTo ws n j = lkTo ws n (j + 1) := by
 rw [← lkTo_set hn hj hv]
 unfold lkTo
 obtain ⟨m, hm⟩ : ∃ m, n - j = m + 1 := ⟨n - j - 1, by omega⟩
 have hl : ((linksP ws).take j).length = j := by rw [List.length_take, linksP_len]; omega
 rw [List.set_append_right _ _ (by omega), hl, Nat.sub_self, hm, List.replicate_succ, List.set_cons_zero]
theorem FM.mono {W : World} {b n m : Nat} {f : Int × Int → Option Int} (h : FM W b n f) (hm : n ≤ m) : FM W b m f := by
 obtain ⟨D, h1, h2⟩ := h
 exact ⟨D, h1.mono hm, h2⟩
theorem IntRow.set {g j : Nat} {l : List Int} {W : World} (h : IntRow g l W) (v : Int) : IntRow g (l.set j v) (W.setCell ⟨g, j, none⟩ (.int .i64 v)) := by
 have := set_at (i := j) h (.int .i64 v)
 unfold IntRow
 simpa [List.map_set] using this

set_option maxRecDepth 100000 in
set_option maxHeartbeats 8000000 in
theorem link8_yes (t : TV) (T : TrieT) (sp ws : List (List Int)) (w : World) (hT : Tri w t T) (hb : t.un ≤ 140737488351232) (hr : readP T = some (sp, ws)) :
  Calls Tryz.prog 45 #[.agg t.cells] w fun e w' => ∃ g, e = .returned (.tuple #[.pointer (some ⟨g, 0, none⟩), .bool true]) ∧ LkAt w' w.heap.size g t ws (linksP ws) (edgesW ws) ∧ Below w.heap.size w w' := by
 obtain ⟨r1, rfl, rfl⟩ := readP_iff.1 hr
 obtain ⟨ua, un, uc, da, dn, dc, xa, xn, xc, ba, bn, bc⟩ := t
 dsimp only at hb
 have hn : un = (nodesL ws).length := by have := hT.up.1; simp [trieP] at this; exact this.symm
 have hbn : bn = (nodesL ws).length := by have := hT.byt.1.1; simp [trieP] at this; exact this.symm
 have hn400 : (nodesL ws).length ≤ 400 := (readP_len hr).1
 have hn0 : 1 ≤ (nodesL ws).length := by
  have := nodesL_ne ws
  have : (nodesL ws).length ≠ 0 := fun e => this (List.eq_nil_of_length_eq_zero e)
  omega
 obtain ⟨n, hnn⟩ : ∃ n, (nodesL ws).length = n := ⟨_, rfl⟩
 rw [hnn] at hn hbn hn400 hn0
 replace hn := hn.symm
 subst hn
 replace hbn := hbn.symm
 subst hbn
 have HNN := Lib.hid hnn
 obtain ⟨W, hW⟩ : ∃ W, W = w.alloc (.cells #[.slice ua n uc, .slice da dn dc, .slice xa xn xc, .slice ba n bc] 34) := ⟨_, rfl⟩
 have hB : Below w.heap.size w W := by rw [hW]; exact below_alloc _ _
 have hO : Bx w.heap.size [.cells #[.slice ua n uc, .slice da dn dc, .slice xa xn xc, .slice ba n bc] 34] W := by rw [hW]; exact (Bx.nil _ w).snoc _ rfl
 have c0 : W.cell? ⟨w.heap.size, 0, none⟩ = some (.slice ua n uc) := hO.cell (i := 0) rfl rfl
 have c1 : W.cell? ⟨w.heap.size, 1, none⟩ = some (.slice da dn dc) := hO.cell (i := 0) rfl rfl
 have c2 : W.cell? ⟨w.heap.size, 2, none⟩ = some (.slice xa xn xc) := hO.cell (i := 0) rfl rfl
 have c3 : W.cell? ⟨w.heap.size, 3, none⟩ = some (.slice ba n bc) := hO.cell (i := 0) rfl rfl
 have HR : Hid (rightT (trieP ws) = true) := by unfold Hid rightT; rw [hr]; rfl
 have HC := Lib.hid (tright_any _ (trieP ws) W (hT.below hB) hb)
 have HT := Lib.hid hT
 have hmm := @run_makeMap Tryz.prog
 have hmk : ∀ V : World, (Instr.makeSlice 32 (.int .i64 n) (.int .i64 n)).run Tryz.prog V = .ok (.slice (some ⟨V.heap.size, 0, none⟩) n n) (V.alloc (.cells (intsNil n) 3)) := fun V => by
  obtain ⟨i0, hi, hz0, hz1, hz2⟩ := info_parts i64_info7
  have h := run_makeSlice (P := Tryz.prog) (w := V) 32 3 i0 (.int .i64 0) Tryz.underlying32 hi hz0 .i64 .i64 (n : Int) (n : Int) (by omega) (by omega) (by rw [hz1]; omega) (by rw [hz2]; omega) (by omega)
  rw [hz1] at h
  have e1 : (n : Int).toNat * 1 = n := by omega
  rw [e1, made_ints, Int.toNat_natCast] at h
  exact h
 clear hT hr r1 hnn
 go_enter Tryz.func45, Tryz.ntmps45
 go_upto_region 1 with fail
 rw [← hW]
 clear hW
 go_wp2_with fail
 refine HC.out.mono ?_
 rintro e w1 ⟨rfl, hb1⟩
 rw [HR.out]
 have hB1 : Below w.heap.size w w1 := hB.trans (hb1.mono hB.size)
 have hO1 := hO.below hb1
 have k0 : w1.heap[w.heap.size]? = some (.cells #[.slice ua n uc, .slice da dn dc, .slice xa xn xc, .slice ba n bc] 34 (0, 0)) := hO1 0 _ rfl
 clear c0 c1 c2 c3
 have c0 : w1.cell? ⟨w.heap.size, 0, none⟩ = some (.slice ua n uc) := hO1.cell (i := 0) rfl rfl
 have c1 : w1.cell? ⟨w.heap.size, 1, none⟩ = some (.slice da dn dc) := hO1.cell (i := 0) rfl rfl
 have c2 : w1.cell? ⟨w.heap.size, 2, none⟩ = some (.slice xa xn xc) := hO1.cell (i := 0) rfl rfl
 have c3 : w1.cell? ⟨w.heap.size, 3, none⟩ = some (.slice ba n bc) := hO1.cell (i := 0) rfl rfl
 have hlt0 : w.heap.size < w1.heap.size := (Array.getElem?_eq_some_iff.1 k0).1
 have hlt1 : w.heap.size < w1.heap.size + 1 := by omega
 have hne0 : w.heap.size ≠ w1.heap.size := by omega
 have hne1 : w.heap.size ≠ w1.heap.size + 1 := by omega
 go_upto_region 3 with fail
 go_cut [4] (fun s4 wx => ∃ g mb q : Nat, s4 = .pointer (some ⟨g, 0, none⟩) ∧ wx.heap[g]? = some (.cells #[.slice ua n uc, .slice da dn dc, .slice xa xn xc, .slice ba n bc, .map (some mb), .slice (some ⟨q, 0, none⟩) n n] 88 (0, 0)) ∧ FM wx mb 0 (fun _ => none) ∧ IntRow q (List.replicate n 0) wx ∧ g ≠ mb ∧ g ≠ q ∧ mb ≠ q ∧ w.heap.size < mb ∧ w.heap.size < g ∧ w.heap.size < q ∧ Below w1.heap.size w1 wx)
 case first =>
  go_wp2
  go_region
  ·
   go_wp2_with fail
   go_meet
   refine ⟨_, w1.heap.size, w1.heap.size + 1, rfl, alloc_at (by simp) _, ?_, ?_, by omega, by omega, by omega, by omega, by omega, by omega, ?_⟩
   · exact (((FM.start w1).alloc _).alloc _).below ⟨rfl, rfl, rfl, Nat.le_refl _, fun _ _ => rfl⟩
   ·
    have h := IntRow.new (w1.alloc (.map #[] 0)) n
    rw [World.size_alloc] at h
    exact (Below.heap_alloc _ _ _ (by simp)).trans h
   · exact (((below_alloc w1 _).alloc (by simp) _).alloc (by simp; omega) _).trans ⟨rfl, rfl, rfl, Nat.le_refl _, fun _ _ => rfl⟩
  ·
   go_wp2_with fail
   go_meet
   refine ⟨_, w1.heap.size + 1, w1.heap.size, rfl, alloc_at (by simp) _, ?_, ?_, by omega, by omega, by omega, by omega, by omega, by omega, ?_⟩
   ·
    have h := FM.start (w1.alloc (.cells (intsNil n) 3))
    rw [World.size_alloc] at h
    exact (h.alloc _).below ⟨rfl, rfl, rfl, Nat.le_refl _, fun _ _ => rfl⟩
   · exact (Below.heap_alloc _ _ _ (by simp; omega)).trans ((Below.heap_alloc _ _ _ (by simp)).trans (IntRow.new w1 n))
   · exact (((below_alloc w1 _).alloc (by simp) _).alloc (by simp; omega) _).trans ⟨rfl, rfl, rfl, Nat.le_refl _, fun _ _ => rfl⟩
 case rest =>
  obtain ⟨g, mb, q, rfl, hg0, hm0, hq0, hgm, hgq, hmq, hwm, hwg, hwq, hB0⟩ := hcut
  clear hmm hmk c0 c1 c2 c3 hlt1 hne0 hne1
  have HB1 := Lib.hid hB1
  have hB0' := hB1.trans (hB0.mono hB1.size)
  have HK0 := Lib.hid k0
  clear hB1
  have kw : wc.heap[w.heap.size]? = some (.cells #[.slice ua n uc, .slice da dn dc, .slice xa xn xc, .slice ba n bc] 34 (0, 0)) := (hB0.block _ hlt0).trans k0
  clear hB0 HK0 k0
  have hgl : g < wc.heap.size := (Array.getElem?_eq_some_iff.1 hg0).1
  have hql : q < wc.heap.size := (Array.getElem?_eq_some_iff.1 (show wc.heap[q]? = _ from hq0)).1
  have hmbl : mb < wc.heap.size := hm0.lt
  go_upto_region 4 with fail
  go_wp2
  go_loopw [5] (fun s5 wr => ∃ j : Nat, 1 ≤ j ∧ j ≤ n ∧ s5 = .int .i64 j ∧ FM wr mb j (edgeF (trieP ws).up (trieP ws).byt (j - 1)) ∧ wr.heap[g]? = some (.cells #[.slice ua n uc, .slice da dn dc, .slice xa xn xc, .slice ba n bc, .map (some mb), .slice (some ⟨q, 0, none⟩) n n] 88 (0, 0)) ∧ IntRow q (List.replicate n 0) wr ∧ wr.heap[w.heap.size]? = some (.cells #[.slice ua n uc, .slice da dn dc, .slice xa xn xc, .slice ba n bc] 34 (0, 0)) ∧ Below w.heap.size w wr) (fun s5 _ => n - (intOf s5).toNat)
  case atStart => exact ⟨1, Nat.le_refl _, hn0, rfl, (show FM wc mb 1 (fun _ => none) from hm0.mono (by omega)), hg0, hq0, kw, hB0'⟩
  case round =>
   clear hm0 hg0 hq0 kw hB0'
   obtain ⟨j, hj1, hjn, rfl, hm, hg, hq, kw, hBe⟩ := hrel
   have k0 : wr.cell? ⟨w.heap.size, 0, none⟩ = some (.slice ua n uc) := by simp [World.cell?, kw]
   have k3 : wr.cell? ⟨w.heap.size, 3, none⟩ = some (.slice ba n bc) := by simp [World.cell?, kw]
   have g4 : wr.cell? ⟨g, 4, none⟩ = some (.map (some mb)) := by simp [World.cell?, hg]
   by_cases hjl : j < n
   ·
    have hd : decide ((j : Int) < n) = true := by simp; omega
    obtain ⟨y, hy⟩ : ∃ y, (nodesL ws)[j]? = some y := ⟨(nodesL ws)[j]'(by have := HNN.out; omega), by simp⟩
    obtain ⟨b0, o0, u, e0, hl0, cu, hu⟩ := sl1_at (HT.out.below hBe).up hjl
    obtain ⟨b3, o3, c, e3, hl3, cb, hc⟩ := sl1_at (HT.out.below hBe).byt.1 hjl
    dsimp only at e0 e3
    subst e0 e3
    have hcr := HT.out.byt.2 c (List.mem_of_getElem? hc)
    obtain ⟨t1, t2, _⟩ := trie_row hy
    obtain ⟨k, hk⟩ := List.getElem?_of_mem (up_mem (List.mem_of_getElem? hy))
    have hkk := placeS_at (nodesL_srt ws).nodup hk
    have hkn : k < n := by have := (List.getElem?_eq_some_iff.1 hk).1; have := HNN.out; omega
    rw [t1, hkk] at hu
    obtain rfl : (k : Int) = u := Option.some.inj hu
    have HE : Hid ((fun p => if p = ((k : Int), c) then some (j : Int) else edgeF (trieP ws).up (trieP ws).byt (j - 1) p) = edgeF (trieP ws).up (trieP ws).byt (j + 1 - 1)) := by
     obtain ⟨i, rfl⟩ : ∃ i, j = i + 1 := ⟨j - 1, by omega⟩
     funext p
     show _ = edgeF _ _ (i + 1) p
     conv => rhs; unfold edgeF
     rw [t1, hkk, hc]
     simp
    have i1 : (0 : Int) ≤ (j : Int) := by omega
    have i2 : (j : Int) < (n : Int) := by omega
    clear t1 t2 hk hkk hy hu hc
    go_upto_region 7 with fail
    refine region_drawn_tail 16 mixed (by kernel_rfl) ?_
    dsimp only [List.take_succ_cons, List.take_zero, List.drop_succ_cons, List.drop_zero]
    repeat (go_big_quiet_step (fail))
    refine wpQuiet_nil ?_
    rintro _ ⟨nq, rfl⟩
    have hbn := bel_drewN wr nq
    refine wpList_fm_put rfl _ _ _ rfl rfl (hm.below hbn) (by unfold maxLen; omega) (k : Int) c j (by simp [Lit.wf, IntKind.min, IntKind.max, IntKind.signed, IntKind.bits]; omega) (by omega) hcr rfl rfl ?_
    intro w5 hm5 hg5
    rw [HE.out] at hm5
    have gg : w5.heap[g]? = _ := (hg5.block g (Array.getElem?_eq_some_iff.1 hg).1 (by intro e; injection e with e; exact hgm e)).trans hg
    have gq : IntRow q (List.replicate n 0) w5 := (hg5.block q (Array.getElem?_eq_some_iff.1 (show wr.heap[q]? = _ from hq)).1 (by intro e; injection e with e; exact hmq e.symm)).trans hq
    have gw : w5.heap[w.heap.size]? = _ := (hg5.block _ (Array.getElem?_eq_some_iff.1 kw).1 (by intro e; injection e with e; omega)).trans kw
    have hB5 : Below w.heap.size w w5 := (hBe.trans (hbn.mono hBe.size)).grown hg5 hBe.size (fun k e => by cases e; omega)
    go_wp2
    go_roundw
    case rel => exact ⟨j + 1, by omega, by omega, by go_num, hm5, gg, gq, gw, hB5⟩
    case measure => simp [intOf]; omega
   ·
    obtain rfl : j = n := by omega
    have hd : decide ((j : Int) < j) = false := by simp
    have hqz : IntRow q (lkTo ws j 1) wr := by rw [linksP_one HNN.out hj1]; exact hq
    have HE : Hid (edgeF (trieP ws).up (trieP ws).byt (j - 1) = edgesW ws) := by unfold Hid edgesW; rw [HNN.out]
    rw [HE.out] at hm
    clear hq hjn hd k3 g4
    go_upto_region 8 with fail
    clear k0
    go_wp2
    go_loopw [6] (fun s6 wr => ∃ i : Nat, 1 ≤ i ∧ i ≤ j ∧ s6 = .int .i64 i ∧ FM wr mb j (edgesW ws) ∧ wr.heap[g]? = some (.cells #[.slice ua j uc, .slice da dn dc, .slice xa xn xc, .slice ba j bc, .map (some mb), .slice (some ⟨q, 0, none⟩) j j] 88 (0, 0)) ∧ IntRow q (lkTo ws j i) wr ∧ wr.heap[w.heap.size]? = some (.cells #[.slice ua j uc, .slice da dn dc, .slice xa xn xc, .slice ba j bc] 34 (0, 0)) ∧ Below w.heap.size w wr) (fun s6 _ => j - (intOf s6).toNat)
    case atStart => exact ⟨1, Nat.le_refl _, hj1, rfl, hm, hg, hqz, kw, hBe⟩
    case round =>
     clear hm hg hqz kw hBe
     obtain ⟨i, hi1, hij, rfl, hm, hg, hq, kw, hBe⟩ := hrel
     have k0 : wr.cell? ⟨w.heap.size, 0, none⟩ = some (.slice ua j uc) := by simp [World.cell?, kw]
     by_cases hil : i < j
     ·
      have hd : decide ((i : Int) < j) = true := by simp; omega
      obtain ⟨y, hy⟩ : ∃ y, (nodesL ws)[i]? = some y := ⟨(nodesL ws)[i]'(by have := HNN.out; omega), by simp⟩
      obtain ⟨b0, o0, u, e0, hl0, cu, hu⟩ := sl1_at HT.out.up hil
      obtain ⟨b3, o3, c, e3, hl3, cb, hc⟩ := sl1_at HT.out.byt.1 hil
      dsimp only at e0 e3
      subst e0 e3
      have hcr := HT.out.byt.2 c (List.mem_of_getElem? hc)
      obtain ⟨t1, t2, _⟩ := trie_row hy
      obtain ⟨k, hk⟩ := List.getElem?_of_mem (up_mem (List.mem_of_getElem? hy))
      have hkk := placeS_at (nodesL_srt ws).nodup hk
      rw [t1, hkk] at hu
      obtain rfl : (k : Int) = u := Option.some.inj hu
      obtain ⟨v, hv1, hv2, hv3, hv4, hv5, hv6⟩ := linkI_up hy (by omega) (show (trieP ws).up[i]? = some (k : Int) by rw [t1, hkk])
      rw [t2] at hc hv3
      obtain rfl : lastB y = c := Option.some.inj hc
      have HP := Lib.hid (linksP_at hy)
      have i1 : (0 : Int) ≤ (i : Int) := by omega
      have i2 : (i : Int) < (j : Int) := by omega
      have c1 : wr.cell? ⟨b0, o0 + i, none⟩ = some (.int .i64 (k : Int)) := (hBe.cell (p := ⟨b0, o0 + i, none⟩) hl0).trans cu
      clear t1 t2 hkk hu hk hc hv3 hv4
      by_cases hz : k = 0
      ·
       subst hz
       have HS : Hid (lkTo ws j i = lkTo ws j (i + 1)) := lkTo_zero HNN.out hil (by rw [HP.out, hv5 rfl])
       clear hv5 hv6 hv1 hy
       rw [HS.out] at hq
       go_wp2
       go_roundw
       case rel => exact ⟨i + 1, by omega, by omega, by go_num, hm, hg, hq, kw, hBe⟩
       case measure => simp [intOf]; omega
      ·
       obtain ⟨p, s, hp1, hp2, hp3⟩ := hv6 hz
       obtain ⟨p2, e1, e2, e3⟩ := (linksOK ws (k + 1)).at_ (Nat.lt_succ_self k) hv1 hz
       have hpl := linksP_at hv1
       rw [hp1] at hpl
       have hpp : p < k := by rw [hpl] at e1; have := Option.some.inj e1; omega
       have hrow : (lkTo ws j i)[k]? = some (p : Int) := by rw [lkTo_at hv2 hij HNN.out]; exact hpl
       obtain ⟨V, hV⟩ : ∃ V, linkI ws y = V := ⟨_, rfl⟩
       have HP2 : Hid ((linksP ws)[i]? = some V) := by rw [Hid, ← hV]; exact HP.out
       have hll := lkTo_len (ws := ws) (j := i) HNN.out hij
       have hgl2 : g < wr.heap.size := (Array.getElem?_eq_some_iff.1 hg).1
       have hql2 : q < wr.heap.size := (Array.getElem?_eq_some_iff.1 (show wr.heap[q]? = _ from hq)).1
       have hwl2 : w.heap.size < wr.heap.size := (Array.getElem?_eq_some_iff.1 kw).1
       have row : ∀ d os, IntRow q (lkTo ws j i) (grow (redrawn wr d) os) := fun d os => ((below_regrown wr d os).block q hql2).trans hq
       have hST : ∀ d os, Calls Tryz.prog 65 #[.pointer (some ⟨g, 0, none⟩), .int .i64 (p : Int), .int .u8 (lastB y)] (grow (redrawn wr d) os) fun e w' => e = .returned (.int .i64 V) ∧ Below (grow (redrawn wr d) os).heap.size (grow (redrawn wr d) os) w' := fun d os => by
        have hb := below_regrown wr d os
        have := step8_any g mb q j j i p ws (lkTo ws j i) _ s (lastB y) (grow (redrawn wr d) os) ((hb.block g hgl2).trans hg) rfl rfl (hm.below hb) (row d os) hll HNN.out (by omega) (lkTo_OK hij HNN.out) hij (by omega) hp2 hcr
        rwa [← hp3, hV] at this
       have HST := Lib.hid hST
       have g5 : ∀ d os, (grow (redrawn wr d) os).cell? ⟨g, 5, none⟩ = some (.slice (some ⟨q, 0, none⟩) j j) := fun d os => by
        have : (grow (redrawn wr d) os).heap[g]? = _ := ((below_regrown wr d os).block g hgl2).trans hg
        simp [World.cell?, this]
       have k3 : ∀ d os, (grow (redrawn wr d) os).cell? ⟨w.heap.size, 3, none⟩ = some (.slice (some ⟨b3, o3, none⟩) j bc) := fun d os => by
        have : (grow (redrawn wr d) os).heap[w.heap.size]? = _ := ((below_regrown wr d os).block _ hwl2).trans kw
        simp [World.cell?, this]
       have rq : ∀ d os, (grow (redrawn wr d) os).cell? ⟨q, k, none⟩ = some (.int .i64 (p : Int)) := fun d os => by
        rw [cell_of_row _ q k _ _ _ (row d os)]
        simp [hrow]
       have cbb : ∀ d os, (grow (redrawn wr d) os).cell? ⟨b3, o3 + i, none⟩ = some (.int .u8 (lastB y)) := fun d os => by
        have h1 := hBe.cell (p := ⟨b3, o3 + i, none⟩) hl3
        exact ((below_regrown wr d os).cell (p := ⟨b3, o3 + i, none⟩) (by show b3 < wr.heap.size; have := hBe.size; omega)).trans (h1.trans cb)
       have ROW := Lib.hid row
       have hne : ((k : Int) != 0) = true := by simp; omega
       have i3 : (0 : Int) ≤ (k : Int) := by omega
       have i4 : (k : Int) < (j : Int) := by omega
       clear hST hp1 hp2 hp3 hV hrow e1 e2 e3 hpl row hv1 hv5 hy
       go_upto_region 13 with fail
       refine region_below_tail 20 mixed (by kernel_rfl) ?_
       dsimp only [List.take_succ_cons, List.take_zero, List.drop_succ_cons, List.drop_zero]
       repeat (go_big_quiet_step (exact grown_below (HST.out _ _)))
       refine wpQuiet_nil ?_
       rintro _ ⟨⟨dq, osq⟩, rfl⟩
       have hbq := below_regrown wr dq osq
       have hI := ROW.out dq osq
       have fq : (grow (redrawn wr dq) osq).frozen? ⟨q, i, none⟩ = false := by simp [World.frozen?, show (grow (redrawn wr dq) osq).heap[q]? = _ from hI]
       have cq : ∃ z : Int, (grow (redrawn wr dq) osq).cell? ⟨q, i, none⟩ = some (.int .i64 z) := by
        refine ⟨(lkTo ws j i)[i]'(by omega), ?_⟩
        rw [cell_of_row _ q i _ _ _ hI]
        simp
       obtain ⟨z, cq⟩ := cq
       have hI2 := hI.set (j := i) V
       rw [lkTo_set HNN.out hil HP2.out] at hI2
       have gg : ((grow (redrawn wr dq) osq).setCell ⟨q, i, none⟩ (.int .i64 V)).heap[g]? = _ := (Below.heap_setCell _ _ _ _ (by show g ≠ q; exact hgq)).trans ((hbq.block g hgl2).trans hg)
       have gw : ((grow (redrawn wr dq) osq).setCell ⟨q, i, none⟩ (.int .i64 V)).heap[w.heap.size]? = _ := (Below.heap_setCell _ _ _ _ (by show w.heap.size ≠ q; omega)).trans ((hbq.block _ hwl2).trans kw)
       have gm : FM ((grow (redrawn wr dq) osq).setCell ⟨q, i, none⟩ (.int .i64 V)) mb j (edgesW ws) := (hm.below hbq).set (Ne.symm hmq) _
       have hB6 : Below w.heap.size w ((grow (redrawn wr dq) osq).setCell ⟨q, i, none⟩ (.int .i64 V)) := (hBe.trans (hbq.mono hBe.size)).setCell (by show w.heap.size ≤ q; omega) _
       clear g5 k3 rq cbb
       go_wp2
       go_roundw
       case rel => exact ⟨i + 1, by omega, by omega, by go_num, gm, gg, hI2, gw, hB6⟩
       case measure => simp [intOf]; omega
     ·
      obtain rfl : i = j := by omega
      have hd : decide ((i : Int) < i) = false := by simp
      have HF : Hid (lkTo ws i i = linksP ws) := by
       unfold Hid lkTo
       rw [Nat.sub_self, List.replicate_zero, List.append_nil, List.take_of_length_le (by rw [linksP_len, HNN.out]; exact Nat.le_refl _)]
      rw [HF.out] at hq
      go_wp2
      go_ret2
      exact ⟨g, rfl, ⟨⟨mb, q, i, by rw [HNN.out]; exact hg, hm, hq, by rw [linksP_len], by omega, by omega, by omega, hgm, hgq, hmq, by omega⟩⟩, hBe⟩

end Go.Proofs.YtglfdclpjmhoiaaGreat

/- Links, steps, the deepest node, chains (layer 8): walked. -/

namespace Go.Proofs.YtglfdclpjmhoiaaGreat
open Go.RowKit Go.Sort
attribute [local go_sem] Oper.semAt_some
attribute [local simp] wide_fn wide_depth
attribute [local go_sem] wide_fn wide_depth

theorem links8_yes (t : TV) (T : TrieT) (sp ws : List (List Int)) (w : World) (hT : Tri w t T) (hb : t.un ≤ 140737488351232) (hr : readP T = some (sp, ws)) :
  Calls Tryz.prog 27 #[.agg t.cells] w fun e w' => ∃ q, e = .returned (.tuple #[.slice (some ⟨q, 0, none⟩) (nodesL ws).length (nodesL ws).length, .int .i64 0]) ∧ IntRow q (linksP ws) w' ∧ w.heap.size ≤ q ∧ Below w.heap.size w w' := by
 obtain ⟨ua, un, uc, da, dn, dc, xa, xn, xc, ba, bn, bc⟩ := t
 have hB := below_alloc w (.cells #[.slice ua un uc, .slice da dn dc, .slice xa xn xc, .slice ba bn bc] 34)
 have HC := Lib.hid (link8_yes _ T sp ws _ (hT.below hB) hb hr)
 clear hT hr
 go_enter Tryz.func27, Tryz.ntmps27
 go_wp2_with fail
 refine HC.out.mono ?_
 rintro e w1 ⟨g, rfl, hLk, hb1⟩
 obtain ⟨mb, q, nm, h1, h2, h3, h4, h5, h6, h7, _⟩ := hLk.ex
 have c5 : w1.cell? ⟨g, 5, none⟩ = some (.slice (some ⟨q, 0, none⟩) (nodesL ws).length (nodesL ws).length) := by simp [World.cell?, h1]
 simp only [World.size_alloc] at h7
 clear h1 h2 h4
 go_wp2
 go_ret2
 exact ⟨q, rfl, h3, by omega, hB.trans (hb1.mono hB.size)⟩

end Go.Proofs.YtglfdclpjmhoiaaGreat

/- The deepest node, a step, links that are right (layer 8): walked. -/

namespace Go.Proofs.YtglfdclpjmhoiaaGreat
open Go.RowKit Go.Sort

def deepT (T : TrieT) (b : List Int) : Int × Bool := match readP T with | some r => (placeS (nodesL r.2) (lsf (nodesL r.2) b), true) | none => (0, false)
theorem LkAt.step {W : World} {base g : Nat} {t : TV} {ws : List (List Int)} (h : LkAt W base g t ws (linksP ws) (edgesW ws)) {z : Nat} {x : List Int} {c : Int} (hx : (nodesL ws)[z]? = some x) (hn : (nodesL ws).length ≤ 1000000) (hc : 0 ≤ c ∧ c ≤ 255) :
  Calls Tryz.prog 65 #[.pointer (some ⟨g, 0, none⟩), .int .i64 (z : Int), .int .u8 c] W fun e w' => e = .returned (.int .i64 (placeS (nodesL ws) (lsf (nodesL ws) (x ++ [c])))) ∧ Below W.heap.size W w' := by
 obtain ⟨mb, q, nm, h1, h2, h3, h4, _⟩ := h.ex
 exact step8_any g mb q _ nm (nodesL ws).length z ws _ _ x c W h1 rfl rfl h2 h3 h4 rfl hn (linksOK ws _) (Nat.le_refl _) ((List.getElem?_eq_some_iff.1 hx).1) hx hc
theorem read_n {T : TrieT} {sp ws : List (List Int)} (hr : readP T = some (sp, ws)) : (nodesL ws).length ≤ 400 := by
 obtain ⟨_, _, h⟩ := readP_iff.1 hr
 rw [← h]
 exact (readP_len hr).1

theorem IntRow.sl1 {g : Nat} {l : List Int} {W : World} (h : IntRow g l W) : Sl1 (Value.int .i64) W (some ⟨g, 0, none⟩) l.length l :=
 ⟨rfl, .inr ⟨g, 0, rfl, (Array.getElem?_eq_some_iff.1 (show W.heap[g]? = _ from h)).1, fun i x hx => by
  rw [cell_of_row W g (0 + i) _ _ _ h]
  simp [hx]⟩⟩

end Go.Proofs.YtglfdclpjmhoiaaGreat

/- Lists of numbers, tries that are the same, as the document has them (layer 7): walked. -/

namespace Go.Proofs.YtglfdclpjmhoiaaGreat
open Go.RowKit Go.Sort

set_option maxHeartbeats 2000000 in
theorem rints_any (a b : Option Addr) (la ca lb cb : Nat) (l m : List Int) (w : World) (hA : Sl1 (Value.int .i64) w a la l) (hB : Sl1 (Value.int .i64) w b lb m) (hla : la ≤ 4611686018427387904) :
  Calls Tryz.prog 90 #[.slice a la ca, .slice b lb cb] w fun e w' => e = .returned (.bool (decide (l = m))) ∧ Below w.heap.size w w' := by
 have HA := Lib.hid hA.1
 have HB := Lib.hid hB.1
 by_cases hl : la = lb
 ·
  subst hl
  go_enter Tryz.func90, Tryz.ntmps90
  go_wp2
  go_loopw [5] (fun i wr => ∃ k : Nat, k ≤ la ∧ i = .int .i64 k ∧ Hid (l.take k = m.take k) ∧ Below w.heap.size w wr) (fun i _ => la - (intOf i).toNat)
  case atStart => exact ⟨0, Nat.zero_le _, rfl, by simp [Hid], Below.refl _ _⟩
  case round =>
   obtain ⟨k, hk, rfl, HK, hBe⟩ := hrel
   by_cases hlt : k < la
   ·
    obtain ⟨b1, o1, x, rfl, hb1, x0, hx⟩ := sl1_at (hA.below hBe) hlt
    obtain ⟨b2, o2, y, rfl, hb2, y0, hy⟩ := sl1_at (hB.below hBe) hlt
    have HX := Lib.hid hx
    have HY := Lib.hid hy
    clear hx hy
    have hd : decide ((k : Int) < la) = true := by simp; omega
    by_cases h : x = y
    ·
     have HS : Hid (l.take (k + 1) = m.take (k + 1)) := by rw [take_step HX.out, take_step HY.out, HK.out, h]; rfl
     have hdd : ((x : Int) != y) = false := by simp [h]
     clear h
     go_wp2
     go_quiet (fail)
     go_wp2
     go_roundw
     case rel => exact ⟨k + 1, by omega, by go_num, HS, hBe.trans ⟨rfl, rfl, rfl, Nat.le_refl _, fun _ _ => rfl⟩⟩
     case measure => simp [intOf]; omega
    ·
     have HS : Hid (decide (l = m) = false) := by
      have : l ≠ m := fun e => by
       have h1 := HX.out
       rw [e, HY.out] at h1
       exact h (Option.some.inj h1).symm
      simp [Hid, this]
     have hdd : ((x : Int) != y) = true := by simp [h]
     clear h
     go_wp2
     go_quiet (fail)
     go_wp2
     go_ret
     exact ⟨by rw [HS.out]; rfl, hBe.trans ⟨rfl, rfl, rfl, Nat.le_refl _, fun _ _ => rfl⟩⟩
   ·
    obtain rfl : k = la := by omega
    have HS : Hid (decide (l = m) = true) := by
     have h := HK.out
     rw [List.take_of_length_le (by rw [HA.out]; exact Nat.le_refl _), List.take_of_length_le (by rw [HB.out]; exact Nat.le_refl _)] at h
     simp [Hid, h]
    go_wp2
    go_ret
    exact ⟨by rw [HS.out]; rfl, hBe⟩
 ·
  have HS : Hid (decide (l = m) = false) := by
   have : l ≠ m := fun e => hl (by rw [← HA.out, ← HB.out, e])
   simp [Hid, this]
  have hne : ((la : Int) != (lb : Int)) = true := by simp; omega
  go_enter Tryz.func90, Tryz.ntmps90
  go_wp2
  go_ret
  exact ⟨by rw [HS.out]; rfl, Below.refl _ _⟩

set_option maxHeartbeats 4000000 in
theorem rsame7_any (t v : TV) (T U : TrieT) (w : World) (hT : Tri w t T) (hU : Tri w v U) (hb : t.un ≤ 4611686018427387904 ∧ t.dn ≤ 4611686018427387904 ∧ t.xn ≤ 4611686018427387904 ∧ t.bn ≤ 4611686018427387904) :
  Calls Tryz.prog 77 #[.agg t.cells, .agg v.cells] w fun e w' => e = .returned (.bool (eqT T U)) ∧ Below w.heap.size w w' := by
 obtain ⟨ua, un, uc, da, dn, dc, xa, xn, xc, ba, bn, bc⟩ := t
 obtain ⟨va, vn, vc, ea, en, ec, ya, yn, yc, ca, cn, cc⟩ := v
 dsimp only at hb
 obtain ⟨h1, h2, h3, h4⟩ := hb
 have hB2 : Below w.heap.size w ((w.alloc (.cells #[.slice ua un uc, .slice da dn dc, .slice xa xn xc, .slice ba bn bc] 34)).alloc (.cells #[.slice va vn vc, .slice ea en ec, .slice ya yn yc, .slice ca cn cc] 34)) := ((Below.refl _ _).alloc (Nat.le_refl _) _).alloc (by simp) _
 have hO : Bx w.heap.size [.cells #[.slice ua un uc, .slice da dn dc, .slice xa xn xc, .slice ba bn bc] 34, .cells #[.slice va vn vc, .slice ea en ec, .slice ya yn yc, .slice ca cn cc] 34] ((w.alloc (.cells #[.slice ua un uc, .slice da dn dc, .slice xa xn xc, .slice ba bn bc] 34)).alloc (.cells #[.slice va vn vc, .slice ea en ec, .slice ya yn yc, .slice ca cn cc] 34)) :=
  ((Bx.nil _ w).snoc _ rfl).snoc _ (by simp)
 have hT2 := hT.below hB2
 have hU2 := hU.below hB2
 obtain ⟨TU, TD, TX, TB⟩ := T
 obtain ⟨UU, UD, UX, UB⟩ := U
 have HE : Hid (eqT ⟨TU, TD, TX, TB⟩ ⟨UU, UD, UX, UB⟩ = (decide (TU = UU) && decide (TD = UD) && decide (TX = UX) && decide (TB = UB))) := rfl
 have k1 := fun (V : World) (hV : Below ((w.alloc (.cells #[.slice ua un uc, .slice da dn dc, .slice xa xn xc, .slice ba bn bc] 34)).alloc (.cells #[.slice va vn vc, .slice ea en ec, .slice ya yn yc, .slice ca cn cc] 34)).heap.size _ V) => rints_any ua va un uc vn vc TU UU V (hT2.up.below hV) (hU2.up.below hV) h1
 have k2 := fun (V : World) (hV : Below ((w.alloc (.cells #[.slice ua un uc, .slice da dn dc, .slice xa xn xc, .slice ba bn bc] 34)).alloc (.cells #[.slice va vn vc, .slice ea en ec, .slice ya yn yc, .slice ca cn cc] 34)).heap.size _ V) => rints_any da ea dn dc en ec TD UD V (hT2.dep.below hV) (hU2.dep.below hV) h2
 have k3 := fun (V : World) (hV : Below ((w.alloc (.cells #[.slice ua un uc, .slice da dn dc, .slice xa xn xc, .slice ba bn bc] 34)).alloc (.cells #[.slice va vn vc, .slice ea en ec, .slice ya yn yc, .slice ca cn cc] 34)).heap.size _ V) => rints_any xa ya xn xc yn yc TX UX V (hT2.wrd.below hV) (hU2.wrd.below hV) h3
 have hT4 := hT2.byt
 have hU4 := hU2.byt
 generalize decide (TU = UU) = b1 at k1 HE
 generalize decide (TD = UD) = b2 at k2 HE
 generalize decide (TX = UX) = b3 at k3 HE
 have K1 := Lib.hid k1
 have K2 := Lib.hid k2
 have K3 := Lib.hid k3
 clear k1 k2 k3 hT hU hT2 hU2
 obtain ⟨W, hW⟩ : ∃ W, W = ((w.alloc (.cells #[.slice ua un uc, .slice da dn dc, .slice xa xn xc, .slice ba bn bc] 34)).alloc (.cells #[.slice va vn vc, .slice ea en ec, .slice ya yn yc, .slice ca cn cc] 34)) := ⟨_, rfl⟩
 rw [← hW] at hB2 hO K1 K2 K3 hT4 hU4
 have cells : ∀ V, Below W.heap.size W V → (V.cell? ⟨w.heap.size, 0, none⟩ = some (.slice ua un uc) ∧ V.cell? ⟨w.heap.size, 1, none⟩ = some (.slice da dn dc) ∧ V.cell? ⟨w.heap.size, 2, none⟩ = some (.slice xa xn xc) ∧ V.cell? ⟨w.heap.size, 3, none⟩ = some (.slice ba bn bc)) ∧
   (V.cell? ⟨w.heap.size + 1, 0, none⟩ = some (.slice va vn vc) ∧ V.cell? ⟨w.heap.size + 1, 1, none⟩ = some (.slice ea en ec) ∧ V.cell? ⟨w.heap.size + 1, 2, none⟩ = some (.slice ya yn yc) ∧ V.cell? ⟨w.heap.size + 1, 3, none⟩ = some (.slice ca cn cc)) := fun V hV => by
  have h := hO.below hV
  exact ⟨⟨h.cell (i := 0) rfl rfl, h.cell (i := 0) rfl rfl, h.cell (i := 0) rfl rfl, h.cell (i := 0) rfl rfl⟩, ⟨h.cell (i := 1) rfl rfl, h.cell (i := 1) rfl rfl, h.cell (i := 1) rfl rfl, h.cell (i := 1) rfl rfl⟩⟩
 have HC := Lib.hid cells
 clear cells hO
 have fin : ∀ (V : World) (b : Bool), Below W.heap.size W V → b = eqT ⟨TU, TD, TX, TB⟩ ⟨UU, UD, UX, UB⟩ → Ending.returned (.bool b) = .returned (.bool (eqT ⟨TU, TD, TX, TB⟩ ⟨UU, UD, UX, UB⟩)) ∧ Below w.heap.size w V := fun V b hV hb => ⟨by rw [hb], hB2.trans (hV.mono hB2.size)⟩
 have HFIN := Lib.hid fin
 clear fin hB2
 go_enter Tryz.func77, Tryz.ntmps77
 go_upto_region 1 with fail
 rw [← hW]
 clear hW
 obtain ⟨⟨c0, c1, c2, c3⟩, d0, d1, d2, d3⟩ := HC.out W (Below.refl _ _)
 go_wp2_with fail
 refine (K1.out W (Below.refl _ _)).mono ?_
 rintro e w1 ⟨rfl, hb1⟩
 clear c0 c1 c2 c3 d0 d1 d2 d3
 obtain ⟨⟨c0, c1, c2, c3⟩, d0, d1, d2, d3⟩ := HC.out w1 hb1
 cases b1 with
 | false =>
  go_wp2
  go_ret
  exact HFIN.out w1 false hb1 (by rw [HE.out]; rfl)
 | true =>
  go_wp2_with fail
  refine (K2.out w1 hb1).mono ?_
  rintro e w2 ⟨rfl, hb⟩
  have hb2 := hb1.trans (hb.mono hb1.size)
  clear c0 c1 c2 c3 d0 d1 d2 d3 hb
  obtain ⟨⟨c0, c1, c2, c3⟩, d0, d1, d2, d3⟩ := HC.out w2 hb2
  cases b2 with
  | false =>
   go_wp2
   go_ret
   exact HFIN.out w2 false hb2 (by rw [HE.out]; rfl)
  | true =>
   go_wp2_with fail
   refine (K3.out w2 hb2).mono ?_
   rintro e w3 ⟨rfl, hb⟩
   have hb3 := hb2.trans (hb.mono hb2.size)
   clear c0 c1 c2 c3 d0 d1 d2 d3 hb
   obtain ⟨⟨c0, c1, c2, c3⟩, d0, d1, d2, d3⟩ := HC.out w3 hb3
   cases b3 with
   | false =>
    go_wp2
    go_ret
    exact HFIN.out w3 false hb3 (by rw [HE.out]; rfl)
   | true =>
    have cv1 := conv_bys (hT4.below hb3) bc
    have cv2 := conv_bys (hU4.below hb3) cc
    have HST := Lib.hid (str_beq hT4.2 hU4.2)
    clear hT4 hU4
    go_wp2
    go_ret
    rw [HST.out]
    exact HFIN.out w3 (decide (TB = UB)) hb3 (by rw [HE.out]; rfl)

end Go.Proofs.YtglfdclpjmhoiaaGreat

/- The document's tries (layer 7): less, place; walked. -/

namespace Go.Proofs.YtglfdclpjmhoiaaGreat
open Go.RowKit Go.Sort

set_option maxHeartbeats 2000000 in
theorem rless7_any (a b : Option Addr) (la ca lb cb : Nat) (l m : List Int) (w : World) (hA : Bys w a la l) (hB : Bys w b lb m) (hla : la ≤ 4611686018427387904) :
  Calls Tryz.prog 75 #[.slice a la ca, .slice b lb cb] w fun e w' => e = .returned (.bool (ltS l m)) ∧ Below w.heap.size w w' := by
 have HA := Lib.hid hA.len
 have HB := Lib.hid hB.len
 by_cases hl : la = lb
 ·
  subst hl
  have HL : Hid (ltS l m = lexB l m) := ltS_eq_len (by rw [HA.out, HB.out])
  go_enter Tryz.func75, Tryz.ntmps75
  go_wp2
  go_loopw [5] (fun i wr => ∃ k : Nat, k ≤ la ∧ i = .int .i64 k ∧ Hid (l.take k = m.take k) ∧ Below w.heap.size w wr) (fun i _ => la - (intOf i).toNat)
  case atStart => exact ⟨0, Nat.zero_le _, rfl, by simp [Hid], Below.refl _ _⟩
  case round =>
   obtain ⟨k, hk, rfl, HK, hBe⟩ := hrel
   by_cases hlt : k < la
   ·
    obtain ⟨b1, o1, x, rfl, hb1, x0, hx⟩ := sl1_at (hA.1.below hBe) hlt
    obtain ⟨b2, o2, y, rfl, hb2, y0, hy⟩ := sl1_at (hB.1.below hBe) hlt
    have HX := Lib.hid hx
    have HY := Lib.hid hy
    clear hx hy
    have hd : decide ((k : Int) < la) = true := by simp; omega
    by_cases h : x = y
    ·
     have HS : Hid (l.take (k + 1) = m.take (k + 1)) := by rw [take_step HX.out, take_step HY.out, HK.out, h]; rfl
     have hdd : ((x : Int) != y) = false := by simp [h]
     clear h
     go_wp2
     go_quiet (fail)
     go_wp2
     go_roundw
     case rel => exact ⟨k + 1, by omega, by go_num, HS, hBe.trans ⟨rfl, rfl, rfl, Nat.le_refl _, fun _ _ => rfl⟩⟩
     case measure => simp [intOf]; omega
    ·
     have HS : Hid (ltS l m = decide (x < y)) := by rw [Hid, HL.out]; exact lexB_at HK.out HX.out HY.out h
     have hdd : ((x : Int) != y) = true := by simp [h]
     clear h
     go_wp2
     go_quiet (fail)
     go_wp2
     go_quiet (fail)
     go_wp2
     go_ret
     exact ⟨by rw [HS.out]; rfl, hBe.trans ⟨rfl, rfl, rfl, Nat.le_refl _, fun _ _ => rfl⟩⟩
   ·
    obtain rfl : k = la := by omega
    have HS : Hid (ltS l m = false) := by
     have h := HK.out
     rw [List.take_of_length_le (by rw [HA.out]; exact Nat.le_refl _), List.take_of_length_le (by rw [HB.out]; exact Nat.le_refl _)] at h
     rw [Hid, h, ltS_irrefl]
    go_wp2
    go_ret
    exact ⟨by rw [HS.out]; rfl, hBe⟩
 ·
  have HS : Hid (ltS l m = decide (la < lb)) := by
   rw [Hid, ltS_ne_len (by rw [HA.out, HB.out]; exact hl), HA.out, HB.out]
  have hne : ((la : Int) != (lb : Int)) = true := by simp; omega
  go_enter Tryz.func75, Tryz.ntmps75
  go_wp2
  go_ret
  exact ⟨by rw [HS.out]; rfl, Below.refl _ _⟩

set_option maxHeartbeats 2000000 in
theorem rplace7_any (a b : Option Addr) (la ca lb cb : Nat) (l : List (List Int)) (x : List Int) (w : World) (hA : Wds w a la l) (hB : Bys w b lb x) (hla : la ≤ 1000000) :
  Calls Tryz.prog 37 #[.slice a la ca, .slice b lb cb] w fun e w' => e = .returned (.int .i64 (placeS l x)) ∧ Below w.heap.size w w' := by
 have HL := Lib.hid hA.len
 have HA := Lib.hid hA
 have HB := Lib.hid hB
 clear hA hB
 go_enter Tryz.func37, Tryz.ntmps37
 go_wp2
 go_loopw [5] (fun i wr => ∃ k : Nat, k ≤ la ∧ i = .int .i64 k ∧ Hid (x ∉ l.take k) ∧ Below w.heap.size w wr) (fun i _ => la - (intOf i).toNat)
 case atStart => exact ⟨0, Nat.zero_le _, rfl, by simp [Hid], Below.refl _ _⟩
 case round =>
  obtain ⟨k, hk, rfl, HK, hBe⟩ := hrel
  by_cases hlt : k < la
  ·
   have hd : decide ((k : Int) < la) = true := by simp; omega
   obtain ⟨bb, off, aw, lw, cw, y, hbb, hbl, hcell, hy, hY, hlc⟩ := (HA.out.below hBe).at_ hlt
   subst hbb
   have f2 : ∀ d os, (grow (redrawn wr d) os).cell? ⟨bb, off + k, none⟩ = some (.slice aw lw cw) := fun d os => ((below_regrown wr d os).cell (p := ⟨bb, off + k, none⟩) hbl).trans hcell
   have f4 := fun d os => conv_bys (hY.below (below_regrown wr d os)) cw
   have f5 := fun d os => conv_bys ((HB.out.below hBe).below (below_regrown wr d os)) cb
   have i1 : (0 : Int) ≤ (k : Int) := by omega
   have i2 : (k : Int) < (la : Int) := by omega
   have HY := Lib.hid hy
   have HYB := Lib.hid hY.2
   have HE := Lib.hid (str_beq HYB.out HB.out.2)
   have HBE := Lib.hid hBe
   clear hy hY hcell hlc hBe
   by_cases e : y = x
   ·
    have hq : ((strOfNums y).toList == (strOfNums x).toList) = true := by rw [HE.out]; simpa using e
    have HS : Hid (placeS l x = k) := by rw [← e] at HK ⊢; exact placeS_first HY.out HK.out
    clear e
    go_wp2
    refine wp_region_quiet_below mixed (by kernel_rfl) ?_
    repeat (go_big_quiet_step (fail))
    refine wpQuiet_nil ?_
    rintro _ ⟨⟨dq, osq⟩, rfl⟩
    go_wp2
    go_ret
    exact ⟨by rw [HS.out]; rfl, HBE.out.trans ((below_regrown wr dq osq).mono HBE.out.size)⟩
   ·
    have hq : ((strOfNums y).toList == (strOfNums x).toList) = false := by rw [HE.out]; simpa using e
    have HS : Hid (x ∉ l.take (k + 1)) := by
     rw [Hid, take_step HY.out, List.mem_append, List.mem_singleton]
     exact fun h => h.elim HK.out (fun e2 => e e2.symm)
    clear e
    go_wp2
    refine wp_region_quiet_below mixed (by kernel_rfl) ?_
    repeat (go_big_quiet_step (fail))
    refine wpQuiet_nil ?_
    rintro _ ⟨⟨dq, osq⟩, rfl⟩
    have hBq := HBE.out.trans ((below_regrown wr dq osq).mono HBE.out.size)
    clear f2 f4 f5
    go_wp2
    go_roundw
    case rel => exact ⟨k + 1, by omega, by go_num, HS, hBq⟩
    case measure => simp [intOf]; omega
  ·
   obtain rfl : k = la := by omega
   have HS : Hid (placeS l x = -1) := by
    refine placeS_no ?_
    have h := HK.out
    rwa [List.take_of_length_le (by rw [HL.out]; exact Nat.le_refl _)] at h
   go_wp2
   go_ret
   exact ⟨by rw [HS.out]; rfl, hBe⟩

end Go.Proofs.YtglfdclpjmhoiaaGreat

/- The document's tries (layer 7): one more text among others, in order; the beginnings of words: walked. -/

namespace Go.Proofs.YtglfdclpjmhoiaaGreat
open Go.RowKit Go.Sort

theorem putS_le (l : List (List Int)) (b : List Int) : (putS l b).length ≤ l.length + 1 ∧ l.length ≤ (putS l b).length := by
 induction l with
 | nil => simp [putS]
 | cons x l ih =>
  unfold putS
  split
  · simp; omega
  · split <;> simp
theorem Sl1.take {α : Type} {enc : α → Value} {w : World} {a : Option Addr} {n : Nat} {xs : List α} (h : Sl1 enc w a n xs) {m : Nat} (hm : m ≤ n) : Sl1 enc w a m (xs.take m) := by
 refine ⟨by rw [List.length_take, h.1]; omega, ?_⟩
 by_cases h0 : m = 0
 · exact .inl h0
 ·
  right
  obtain ⟨b, off, rfl, hlt, hcell⟩ := h.2.resolve_left (by omega)
  refine ⟨b, off, rfl, hlt, fun i u hu => hcell i u ?_⟩
  rw [List.getElem?_take] at hu
  split at hu
  · exact hu
  · cases hu
theorem Sl1.rest {α : Type} {enc : α → Value} {w : World} {b : Option Addr} {lb cb n : Nat} {xs : List α} (h : Sl1 enc w b lb xs) (hn : n ≤ lb) (hcb : lb ≤ cb) : Sl1 enc w (if cb = n then b else Option.map (fun x => x.add n) b) (lb - n) (xs.drop n) := by
 split
 ·
  have e : xs.drop n = [] := List.drop_eq_nil_of_le (by rw [h.1]; omega)
  rw [e, show lb - n = 0 by omega]
  exact ⟨rfl, .inl rfl⟩
 ·
  have hc := h.cut (lo := n) (m := lb - n) (by omega)
  rwa [List.take_of_length_le (by rw [List.length_drop, h.1]; exact Nat.le_refl _)] at hc

theorem rows_put {P : Sv → List Int → Prop} {vs : List Sv} {l : List (List Int)} (hl : vs.length = l.length) (h : ∀ (i : Nat) (v : Sv) (x : List Int), vs[i]? = some v → l[i]? = some x → P v x) {v0 : Sv} {x0 : List Int} (h0 : P v0 x0) (k : Nat) :
  ∀ (i : Nat) (v : Sv) (x : List Int), (vs.take k ++ v0 :: vs.drop k)[i]? = some v → (l.take k ++ x0 :: l.drop k)[i]? = some x → P v x := by
 intro i v x hv hx
 have e1 : (vs.take k).length = (l.take k).length := by simp [hl]
 by_cases hi : i < (l.take k).length
 ·
  rw [List.getElem?_append_left (by rw [e1]; exact hi)] at hv
  rw [List.getElem?_append_left hi] at hx
  have hik : i < k := by rw [List.length_take] at hi; omega
  rw [List.getElem?_take, if_pos hik] at hv hx
  exact h i v x hv hx
 ·
  rw [List.getElem?_append_right (by rw [e1]; omega), e1] at hv
  rw [List.getElem?_append_right (by omega)] at hx
  obtain ⟨j, hj⟩ : ∃ j, i - (l.take k).length = j := ⟨_, rfl⟩
  rw [hj] at hv hx
  cases j with
  | zero => simp at hv hx; subst hv hx; exact h0
  | succ j =>
   rw [List.getElem?_cons_succ, List.getElem?_drop] at hv hx
   exact h _ v x hv hx

set_option maxRecDepth 100000 in
set_option maxHeartbeats 4000000 in
theorem rput7_any (a b : Option Addr) (la ca lb cb : Nat) (l : List (List Int)) (x : List Int) (w : World) (hA : Wds w a la l) (hB : Bys w b lb x) (hla : la ≤ 10000000) (hlb : lb ≤ 10000000) (hca : la ≤ ca) (hcb : lb ≤ cb) (hM : ∀ y ∈ l, y.length ≤ 10000000) :
  Calls Tryz.prog 52 #[.slice a la ca, .slice b lb cb] w fun e w' => ∃ a' c', e = .returned (.slice a' (putS l x).length c') ∧ (putS l x).length ≤ c' ∧ Wds w' a' (putS l x).length (putS l x) ∧ Below w.heap.size w w' := by
 obtain ⟨i0, hi, hz0, hz1, hz2⟩ := info_parts sl_info
 have HL := Lib.hid hA.len
 have HA := Lib.hid hA
 have HB := Lib.hid hB
 clear hA hB
 go_enter Tryz.func52, Tryz.ntmps52
 go_upto_block 0 with fail
 go_cut [5] (fun s5 wx => ∃ k : Nat, k ≤ la ∧ s5 = .int .i64 k ∧ Hid (putS l x = if l[k]? = some x then l else l.take k ++ x :: l.drop k) ∧ Below w.heap.size w wx)
 case first =>
  go_wp2_with fail
  go_loopw [5] (fun s5 wr => ∃ k : Nat, k ≤ la ∧ s5 = .int .i64 k ∧ Hid (∀ (i : Nat) (y : List Int), i < k → l[i]? = some y → ltS y x = true) ∧ Below w.heap.size w wr) (fun i _ => la - (intOf i).toNat)
  case atStart => exact ⟨0, Nat.zero_le _, rfl, (fun i y h => absurd h (Nat.not_lt_zero _)), Below.refl _ _⟩
  case round =>
   obtain ⟨k, hk, rfl, HK, hBe⟩ := hrel
   by_cases hlt : k < la
   ·
    have hd : decide ((k : Int) < la) = true := by simp; omega
    obtain ⟨bb, off, aw, lw, cw, y, hbb, hbl, hcell, hy, hY, hlc⟩ := (HA.out.below hBe).at_ hlt
    subst hbb
    have HY := Lib.hid hy
    have i1 : (0 : Int) ≤ (k : Int) := by omega
    have i2 : (k : Int) < (la : Int) := by omega
    have HYB := Lib.hid hY
    have hBy := HB.out.below hBe
    clear hy hY
    have hlw : lw ≤ 4611686018427387904 := by
     have := hM y (List.mem_of_getElem? HY.out)
     rw [HYB.out.len] at this
     omega
    have hless := Lib.hid (rless7_any aw b lw cw lb cb y x wr HYB.out hBy hlw)
    clear HYB hBy hlw
    go_wp2_with fail
    refine hless.out.mono ?_
    rintro e w2 ⟨rfl, hb2⟩
    have hBe2 := hBe.trans (hb2.mono hBe.size)
    cases e2 : ltS y x with
    | true =>
     have HK2 : Hid (∀ (i : Nat) (y : List Int), i < k + 1 → l[i]? = some y → ltS y x = true) := fun i z hi hz => by
      by_cases h : i < k
      · exact HK.out i z h hz
      ·
       obtain rfl : i = k := by omega
       rw [HY.out] at hz
       rw [← Option.some.inj hz]; exact e2
     go_wp2
     go_roundw
     case rel => exact ⟨k + 1, by omega, by go_num, HK2, hBe2⟩
     case measure => simp [intOf]; omega
    | false =>
     have HP : Hid (putS l x = if l[k]? = some x then l else l.take k ++ x :: l.drop k) := putS_at (by rw [HL.out]; omega) HK.out (fun z hz => by
      rw [HY.out] at hz
      rw [← Option.some.inj hz]; exact e2)
     go_wp2_with fail
     go_meet
     exact ⟨k, hk, by go_num, HP, hBe2⟩
   ·
    obtain rfl : k = la := by omega
    have hd : decide ((k : Int) < k) = false := by simp
    have HP : Hid (putS l x = if l[k]? = some x then l else l.take k ++ x :: l.drop k) := putS_at (by rw [HL.out]; omega) HK.out (fun z hz => by
      rw [List.getElem?_eq_none (by rw [HL.out]; exact Nat.le_refl _)] at hz
      cases hz)
    go_wp2_with fail
    go_meet
    exact ⟨k, hk, by go_num, HP, hBe⟩
 case rest =>
  obtain ⟨k, hk, rfl, HP, hBe⟩ := hcut
  go_upto_region 4 with fail
  go_cut [34] (fun s34 wx => s34 = .bool (decide (l[k]? = some x)) ∧ Below w.heap.size w wx)
  case first =>
   by_cases hkl : k < la
   ·
    have hd : decide ((k : Int) < la) = true := by simp; omega
    obtain ⟨bb, off, aw, lw, cw, y, hbb, hbl, hcell, hy, hY, hlc⟩ := (HA.out.below hBe).at_ hkl
    subst hbb
    have f2 : ∀ d os, (grow (redrawn wc d) os).cell? ⟨bb, off + k, none⟩ = some (.slice aw lw cw) := fun d os => ((below_regrown wc d os).cell (p := ⟨bb, off + k, none⟩) hbl).trans hcell
    have f4 := fun d os => conv_bys (hY.below (below_regrown wc d os)) cw
    have f5 := fun d os => conv_bys ((HB.out.below hBe).below (below_regrown wc d os)) cb
    have i1 : (0 : Int) ≤ (k : Int) := by omega
    have i2 : (k : Int) < (la : Int) := by omega
    have HY := Lib.hid hy
    have HYB := Lib.hid hY.2
    have hq := str_beq HYB.out HB.out.2
    have HBE := Lib.hid hBe
    have HS : Hid (decide (l[k]? = some x) = decide (y = x)) := by rw [Hid, HY.out]; simp
    obtain ⟨B, hB⟩ : ∃ B, decide (y = x) = B := ⟨_, rfl⟩
    rw [hB] at hq
    have HSB : Hid (decide (l[k]? = some x) = B) := by rw [Hid, HS.out, hB]
    clear hy hY hcell hlc hBe HS hB
    go_wp2
    refine wp_region_quiet_below mixed (by kernel_rfl) ?_
    repeat (go_big_quiet_step (fail))
    refine wpQuiet_nil ?_
    rintro _ ⟨⟨dq, osq⟩, rfl⟩
    have hBq := HBE.out.trans ((below_regrown wc dq osq).mono HBE.out.size)
    clear f2 f4 f5
    go_wp2_with fail
    go_meet
    exact ⟨by rw [HSB.out], hBq⟩
   ·
    have hd : decide ((k : Int) < la) = false := by simp; omega
    have HS : Hid (decide (l[k]? = some x) = false) := by rw [Hid, List.getElem?_eq_none (by rw [HL.out]; omega)]; simp
    have HBE := Lib.hid hBe
    clear hBe
    go_wp2
    refine wp_region_quiet_below mixed (by kernel_rfl) ?_
    repeat (go_big_quiet_step (fail))
    refine wpQuiet_nil ?_
    rintro _ ⟨⟨dq, osq⟩, rfl⟩
    have hBq := HBE.out.trans ((below_regrown wc dq osq).mono HBE.out.size)
    go_wp2_with fail
    go_meet
    exact ⟨by rw [HS.out], hBq⟩
  case rest =>
   clear hBe
   obtain ⟨rfl, hBe⟩ := hcut
   by_cases hc : l[k]? = some x
   ·
    have HS : Hid (putS l x = l) := by rw [Hid, HP.out, if_pos hc]
    rw [decide_eq_true hc]
    clear hc
    go_wp2
    go_ret
    rw [HS.out, HL.out]
    exact ⟨a, ca, rfl, hca, HA.out.below hBe, hBe⟩
   have HS : Hid (putS l x = l.take k ++ x :: l.drop k) := by rw [Hid, HP.out, if_neg hc]
   rw [decide_eq_false hc]
   clear hc
   obtain ⟨vs, hs0, hvl, hrow⟩ := HA.out
   have HV := Lib.hid hvl
   have HRW := Lib.hid hrow
   have HS0 := Lib.hid hs0
   clear hvl hrow hs0
   have hsT := (HS0.out.below hBe).take hk
   go_upto_region 8 with (at_builtin; refine wpList_append_sl1 rfl _ _ 22 rfl (enc := svV) (fun _ => rfl) w.heap.size 25 i0 (.slice none 0 0) 24 Tryz.underlying22 hi hz0 hz1 hz2 rfl _ _ _ rfl (World.ownsRow_nil wc w.heap.size 25 1) a k ca (vs.take k) rfl hsT (by unfold maxLen; omega) (by omega) hBe.size ?_; intro v1 w3 hown1 hgrow1 hat1)
   simp only [Nat.zero_add, List.nil_append] at hown1
   have hB3 : Below w.heap.size w w3 := hBe.grown hgrow1 hBe.size (fun j hj => by cases hj)
   have hs3 := hB3.size
   go_upto_region 9 with (at_builtin; refine wpList_append_own _ rfl _ _ 22 rfl w.heap.size 25 i0 (.slice none 0 0) 1 24 Tryz.underlying22 hi hz0 hz1 hz2 rfl (by decide) _ _ _ rfl (hown1.alloc _) ⟨w3.heap.size, 0, none⟩ 1 1 [svV (b, lb, cb)] rfl rfl (cells_new _ _ (by simp)) (by simp [Value.oneCell']) (by unfold maxLen; omega) (by omega) (by simp; omega) ?_; intro v2 w4 hown2 hgrow2 hnil2)
   have hB4 : Below w.heap.size w w4 := below_append (base := 0) hB3 hown1 hgrow2
   have hsR := (HS0.out.below hB4).rest hk hca
   have hs4 := hB4.size
   clear hgrow1 hgrow2 hsT
   go_wp2_with (at_builtin; refine wpList_append_sl1 rfl _ _ 22 rfl (enc := svV) (fun _ => rfl) w.heap.size 25 i0 (.slice none 0 0) 24 Tryz.underlying22 hi hz0 hz1 hz2 rfl _ _ _ rfl hown2 (if ca = k then a else Option.map (fun x => x.add k) a) (la - k) (ca - k) (vs.drop k) rfl hsR (by unfold maxLen; omega) (by omega) (by omega) ?_; intro v3 w5 hown3 hgrow3 hat3)
   all_goals
    have hB5 : Below w.heap.size w w5 := hB4.grown hgrow3 (by omega) (fun j hj => (hown2.lt j hj).1)
    have hown4 : w5.ownsRow w.heap.size 25 1 v3 (k + 1 + (la - k)) ((vs.take k ++ (b, lb, cb) :: vs.drop k).map svV) := by
     simpa using hown3
    obtain ⟨a', c', rfl, hc', hsl⟩ := own_sl1 (enc := svV) hown4
    have HW : Hid (Wds w5 a' (k + 1 + (la - k)) (putS l x) ∧ (putS l x).length = k + 1 + (la - k)) := by
     have hlen : (putS l x).length = k + 1 + (la - k) := by rw [HS.out, List.length_append, List.length_cons, List.length_take, List.length_drop, HL.out]; omega
     refine ⟨⟨_, hsl, ?_, ?_⟩, hlen⟩
     · rw [hlen]; exact hsl.1
     ·
      rw [HS.out]
      refine rows_put (P := fun v x => Bys w5 v.1 v.2.1 x ∧ v.2.1 ≤ v.2.2) HV.out (fun i v x h1 h2 => ?_) ⟨HB.out.below hB5, hcb⟩ k
      obtain ⟨h3, h4⟩ := HRW.out i v x h1 h2
      exact ⟨h3.below hB5, h4⟩
    go_ret
    rw [HW.out.2]
    exact ⟨a', c', rfl, hc', HW.out.1, hB5⟩

theorem nodes_bd {wss : List (List Int)} {M : Nat} (h : ∀ x ∈ wss, x.length ≤ M) : ∀ y ∈ nodesL wss, y.length ≤ M := fun y hy => by
 rcases (mem_nodesL wss).1 hy with rfl | ⟨w, hw, k, _, _, rfl⟩
 · simp
 · have := h w hw; rw [List.length_take]; omega
theorem putW_le (l : List (List Int)) (w : List Int) : ∀ k, (putW l w k).length ≤ l.length + k
 | 0 => by simp [putW]
 | k + 1 => by
  rw [putW_succ]
  have h1 := putW_le l w k
  have h2 := (putS_le (putW l w k) (w.take (k + 1))).1
  omega
theorem nodes_le {M : Nat} (wss : List (List Int)) (h : ∀ x ∈ wss, x.length ≤ M) : (nodesL wss).length ≤ wss.length * M + 1 := by
 revert h
 refine snoc_ind (P := fun wss => (∀ x ∈ wss, x.length ≤ M) → (nodesL wss).length ≤ wss.length * M + 1) (by simp [nodesL]) (fun l w ih h => ?_) wss
 rw [nodesL_snoc]
 have h1 := putW_le (nodesL l) w w.length
 have h2 := ih fun x hx => h x (by simp [hx])
 have h3 := h w (by simp)
 rw [List.length_append, List.length_singleton, Nat.succ_mul]
 omega
theorem putW_bd {l : List (List Int)} {w : List Int} {M k : Nat} (h1 : ∀ y ∈ l, y.length ≤ M) (h2 : w.length ≤ M) : ∀ y ∈ putW l w k, y.length ≤ M := fun y hy => by
 rcases mem_putW.1 hy with h | ⟨j, _, _, rfl⟩
 · exact h1 y h
 · rw [List.length_take]; omega

set_option maxRecDepth 100000 in
set_option maxHeartbeats 4000000 in
theorem rnodes7_any (a : Option Addr) (la ca : Nat) (wss : List (List Int)) (w : World) (hA : Wds w a la wss) (hla : la ≤ 1000) (hM : ∀ x ∈ wss, x.length ≤ 1000) :
  Calls Tryz.prog 36 #[.slice a la ca] w fun e w' => ∃ a' c', e = .returned (.slice a' (nodesL wss).length c') ∧ (nodesL wss).length ≤ c' ∧ Wds w' a' (nodesL wss).length (nodesL wss) ∧ Below w.heap.size w w' := by
 have HL := Lib.hid hA.len
 have HA := Lib.hid hA
 clear hA
 obtain ⟨W2, hW2⟩ : ∃ W2, W2 = (w.alloc (.cells #[] 5)).alloc (.cells #[.slice (some ⟨w.heap.size, 0, none⟩) 0 0] 25) := ⟨_, rfl⟩
 have hB2 : Below w.heap.size w W2 := by rw [hW2]; exact (below_alloc _ _).alloc (by simp) _
 have hN0 : Wds W2 (some ⟨w.heap.size + 1, 0, none⟩) 1 (nodesL []) := by
  refine ⟨[(some ⟨w.heap.size, 0, none⟩, 0, 0)], ⟨rfl, .inr ⟨_, _, rfl, by rw [hW2]; simp, fun i x hx => ?_⟩⟩, by simp [nodesL], fun i v x hv hx => ?_⟩
  ·
   have := cells_new (w := w.alloc (.cells #[] 5)) #[.slice (some ⟨w.heap.size, 0, none⟩) 0 0] 25 (n := w.heap.size + 1) (by simp) i (svV x) (by
    cases i with
    | zero => simp at hx; subst hx; rfl
    | succ i => simp at hx)
   rw [hW2]
   rw [add_plain] at this
   exact this
  ·
   cases i with
   | zero =>
    simp [nodesL] at hv hx
    subst hv hx
    exact ⟨Bys.nil _ _, Nat.le_refl _⟩
   | succ i => simp at hv
 go_enter Tryz.func36, Tryz.ntmps36
 go_upto_region 2 with fail
 rw [← hW2]
 clear hW2
 go_wp2
 go_loopw [3, 4] (fun s3 s4 wr => ∃ (i : Nat) (aN : Option Addr) (cN : Nat) (N : List (List Int)), i ≤ la ∧ s4 = .int .i64 i ∧ s3 = .slice aN N.length cN ∧ Hid (nodesL (wss.take i) = N) ∧ N.length ≤ cN ∧ Hid (N.length ≤ i * 1000 + 1) ∧ Wds wr aN N.length N ∧ Below w.heap.size w wr) (fun _ s4 _ => la - (intOf s4).toNat)
 case atStart => exact ⟨0, _, 1, nodesL [], Nat.zero_le _, rfl, rfl, rfl, Nat.le_refl _, (by simp [Hid, nodesL]), hN0, hB2⟩
 case round =>
  clear hN0 hB2
  obtain ⟨i, aN, cN, N, hi, rfl, rfl, HN, hcN, HZ, hW, hBe⟩ := hrel
  by_cases hil : i < la
  ·
   have hd : decide ((i : Int) < la) = true := by simp; omega
   obtain ⟨bb, off, aw, lw, cw, x, hbb, hbl, hcell, hx, hX, hlc⟩ := HA.out.at_ hil
   subst hbb
   have HX := Lib.hid hx
   have hlw : lw ≤ 1000 := by have := mem_bd hM hx; rw [hX.len] at this; exact this
   have HXB := Lib.hid hX
   have HND : Hid (∀ y ∈ N, y.length ≤ 1000) := by
    rw [Hid, ← HN.out]
    exact nodes_bd fun z hz => hM z (List.mem_of_mem_take hz)
   have HNS : Hid (nodesL (wss.take (i + 1)) = putW N x lw) := by
    rw [Hid, take_step HX.out, nodesL_snoc, HN.out, HXB.out.len]
   have i1 : (0 : Int) ≤ (i : Int) := by omega
   have i2 : (i : Int) < (la : Int) := by omega
   have hc1 : wr.cell? ⟨bb, off + i, none⟩ = some (.slice aw lw cw) := (hBe.cell (p := ⟨bb, off + i, none⟩) hbl).trans hcell
   clear hx hX
   go_wp2
   clear hc1
   go_loopw [3, 5] (fun s3 s5 wi => ∃ (k : Nat) (aM : Option Addr) (cM : Nat) (M : List (List Int)), k ≤ lw ∧ s5 = .int .i64 (k + 1) ∧ s3 = .slice aM M.length cM ∧ Hid (putW N x k = M) ∧ M.length ≤ cM ∧ Wds wi aM M.length M ∧ Below w.heap.size w wi) (fun _ s5 _ => lw + 1 - (intOf s5).toNat)
   case atStart => exact ⟨0, aN, cN, N, Nat.zero_le _, rfl, rfl, rfl, hcN, hW, hBe⟩
   case round =>
    clear hW hBe
    obtain ⟨k, aM, cM, M, hk, rfl, rfl, HM, hcM, hWM, hBe⟩ := hrel
    have hc1 : wr.cell? ⟨bb, off + i, none⟩ = some (.slice aw lw cw) := (hBe.cell (p := ⟨bb, off + i, none⟩) hbl).trans hcell
    by_cases hkl : k < lw
    ·
     have hd2 : decide ((k : Int) + 1 ≤ (lw : Int)) = true := by simp; omega
     have hMl : M.length ≤ 10000000 := by
      have h1 := putW_le N x k
      have h2 := HZ.out
      rw [HM.out] at h1
      have : i * 1000 ≤ 1000 * 1000 := Nat.mul_le_mul_right _ (by omega)
      omega
     have hT : Bys wr aw (k + 1) (x.take (k + 1)) := (HXB.out.below hBe).take (by omega)
     have hbd : ∀ y ∈ M, y.length ≤ 10000000 := fun y hy => by
      rw [← HM.out] at hy
      have := putW_bd HND.out (w := x) (by rw [HXB.out.len]; exact hlw) y hy
      omega
     have HP := Lib.hid (rput7_any aM aw M.length cM (k + 1) cw M (x.take (k + 1)) wr hWM hT hMl (by omega) hcM (by omega) hbd)
     have HMS : Hid (putW N x (k + 1) = putS M (x.take (k + 1))) := by rw [Hid, putW_succ, HM.out]
     have i3 : (0 : Int) ≤ (k : Int) + 1 := by omega
     have i4 : (k : Int) + 1 ≤ (cw : Int) := by omega
     clear hWM hT hbd
     go_wp2_with fail
     refine HP.out.mono ?_
     rintro e w2 ⟨a', c', rfl, hc', hW', hb2⟩
     have hBe2 := hBe.trans (hb2.mono hBe.size)
     go_wp2
     go_roundw
     case rel => exact ⟨k + 1, a', c', _, by omega, by go_num, rfl, HMS, hc', hW', hBe2⟩
     case measure => simp [intOf]; omega
    ·
     obtain rfl : k = lw := by omega
     have hd2 : decide ((k : Int) + 1 ≤ (k : Int)) = false := by simp; omega
     have HZ2 : Hid (M.length ≤ (i + 1) * 1000 + 1) := by
      have h1 := putW_le N x k
      have h2 := HZ.out
      rw [HM.out] at h1
      rw [Hid, Nat.succ_mul]
      omega
     have HNM : Hid (nodesL (wss.take (i + 1)) = M) := by rw [Hid, HNS.out, HM.out]
     go_wp2
     go_roundw
     case rel => exact ⟨i + 1, aM, cM, M, by omega, by go_num, rfl, HNM, hcM, HZ2, hWM, hBe⟩
     case measure => simp [intOf]; omega
  ·
   obtain rfl : i = la := by omega
   have hd : decide ((i : Int) < i) = false := by simp
   have HF : Hid (nodesL wss = N) := by
    have := HN.out
    rwa [List.take_of_length_le (by rw [HL.out]; exact Nat.le_refl _)] at this
   go_wp2
   go_ret
   rw [HF.out]
   exact ⟨aN, cN, rfl, hcN, hW, hBe⟩

end Go.Proofs.YtglfdclpjmhoiaaGreat
