/- Parts of the proof, one behind the other: P4, Pr, P5, P6, P7, P8, V2. No condition but what each theorem states. -/
import Derived.Deep.RegionHeld3
import Derived.Test.YtifcoalhkcflnaaGreatR1
import Derived.Test.YtifcoalhkcflnaaGreatR7
import Derived.Test.YtifcoalhkcflnaaGreatR10

/- A node's words' nodes, collected (layer 9): walked. -/

namespace Go.Proofs.YtifcoalhkcflnaaGreat
open Go.RowKit Go.Sort
set_option linter.unusedVariables false
set_option linter.unusedSimpArgs false
attribute [local go_sem] Oper.semAt_some
attribute [local simp] wide_fn wide_depth
attribute [local go_sem] wide_fn wide_depth

def chain9I (ws : List (List Int)) (node : Int) : List Int := if 0 ≤ node ∧ node < (nodesL ws).length then (ends9 ws node.toNat).map fun z : Nat => (z : Int) else []
def chain9T (T : TrieT) (node : Int) : List Int := match readP T with | some r => chain9I r.2 node | none => []

set_option maxRecDepth 100000 in
set_option maxHeartbeats 8000000 in
theorem chain9_any (t : TV) (T : TrieT) (node : Int) (w : World) (hT : Tri w t T) (hb : t.un ≤ 140737488351232) :
    Calls Tryz.prog 47 #[.agg t.cells, .int .i64 node] w fun e w' => ∃ v, e = .returned v ∧ OwnI w' w.heap.size v (chain9T T node) ∧ Below w.heap.size w w' := by
  obtain ⟨i0, hi, hz0, hz1, hz2⟩ := info_parts i64_info7
  obtain ⟨ua, un, uc, da, dn, dc, xa, xn, xc, ba, bn, bc⟩ := t
  obtain ⟨W, hW⟩ : ∃ W, W = w.alloc (.cells #[.slice ua un uc, .slice da dn dc, .slice xa xn xc, .slice ba bn bc] 28) := ⟨_, rfl⟩
  have hB : Below w.heap.size w W := by rw [hW]; exact below_alloc _ _
  have hQ : W.heap[w.heap.size]? = some (.cells #[.slice ua un uc, .slice da dn dc, .slice xa xn xc, .slice ba bn bc] 28 (0, 0)) := by rw [hW]; exact World.alloc_heap_new _ _
  have c0 : W.cell? ⟨w.heap.size, 0, none⟩ = some (.slice ua un uc) := by simp [World.cell?, hQ]
  have c1 : W.cell? ⟨w.heap.size, 1, none⟩ = some (.slice da dn dc) := by simp [World.cell?, hQ]
  have c2 : W.cell? ⟨w.heap.size, 2, none⟩ = some (.slice xa xn xc) := by simp [World.cell?, hQ]
  have c3 : W.cell? ⟨w.heap.size, 3, none⟩ = some (.slice ba bn bc) := by simp [World.cell?, hQ]
  refine calls_of_wp_M Tryz.func47 rfl ?_
  simp only [Tryz.ntmps47, List.size_toArray, List.length_cons, List.length_nil, Nat.reduceAdd, Nat.reduceSub, Array.replicate_succ, Array.replicate_zero, List.push_toArray, List.append_toArray, List.nil_append, List.cons_append]
  cases hr : readP T with
  | none =>
    have HC := Lib.hid (read9_no _ T W (hT.below hB) hb hr)
    have HF : Hid (chain9T T node = []) := by unfold Hid chain9T; rw [hr]
    clear hT hr
    go_upto_region 1 with fail
    rw [← hW]
    clear hW
    go_wp2_with fail
    refine HC.out.mono ?_
    rintro e w1 ⟨rfl, hb1⟩
    go_wp2
    refine endN rfl (results_tmp rfl _ _ _) ?_
    rw [HF.out]
    exact ⟨_, rfl, World.ownsRow_nil _ _ _ _, hB.trans (hb1.mono hB.size)⟩
  | some r =>
    obtain ⟨sp, ws⟩ := r
    have HC := Lib.hid (read9_yes _ T sp ws W (hT.below hB) hb hr)
    have HF : Hid (chain9T T node = chain9I ws node) := by unfold Hid chain9T; rw [hr]
    have HN : Hid ((nodesL ws).length ≤ 400) := read_n hr
    obtain ⟨_, hTe, _⟩ := readP_iff.1 hr
    have HWD : Hid (Sl1 (Value.int .i64) w xa xn (trieP ws).wrd) := by rw [Hid, ← hTe]; exact hT.wrd
    clear hT hr hTe
    go_upto_region 1 with fail
    rw [← hW]
    clear hW
    go_wp2_with fail
    refine HC.out.mono ?_
    rintro e w1 ⟨g, rfl, hAl, hb1⟩
    have hB1 := hB.trans (hb1.mono hB.size)
    have HI := Lib.hid (is9_any _ g _ ws node w1 hAl)
    obtain ⟨B, hBd⟩ : ∃ B, decide (0 ≤ node ∧ node < ((nodesL ws).length : Int)) = B := ⟨_, rfl⟩
    rw [hBd] at HI
    have HBD := Lib.hid hBd
    clear hBd c0 c1 c2 c3 hQ hB hb1
    go_wp2_with fail
    refine HI.out.mono ?_
    rintro e w2 ⟨rfl, rfl⟩
    cases B with
    | false =>
      have HZ : Hid (chain9I ws node = []) := by
        unfold Hid chain9I
        rw [if_neg (of_decide_eq_false HBD.out)]
      go_wp2
      refine endN rfl (results_tmp rfl _ _ _) ?_
      rw [HF.out, HZ.out]
      exact ⟨_, rfl, World.ownsRow_nil _ _ _ _, hB1⟩
    | true =>
      obtain ⟨h0, h1⟩ := of_decide_eq_true HBD.out
      obtain ⟨z, rfl⟩ : ∃ z : Nat, node = z := ⟨node.toNat, by omega⟩
      have hzn : z < (nodesL ws).length := by omega
      have HZ : Hid (chain9I ws (z : Int) = (ends9 ws z).map fun z : Nat => (z : Int)) := by
        unfold Hid chain9I
        rw [if_pos ⟨h0, h1⟩, Int.toNat_natCast]
      have hxl : (trieP ws).wrd.length = xn := HWD.out.1
      rw [(wrd_len ws).1] at hxl
      obtain ⟨b0, o0, hxa, hb0, hcw⟩ := HWD.out.2.resolve_left (by omega)
      subst hxa
      clear h0 h1
      obtain ⟨W3, hW3⟩ : ∃ W, W = w1.alloc (.cells #[.slice none 0 0] 25) := ⟨_, rfl⟩
      have hb3 : Below w1.heap.size w1 W3 := by rw [hW3]; exact below_alloc _ _
      have bL : Boxed W3 w1.heap.size 25 (.slice none 0 0) := by rw [hW3]; exact Boxed.new _ _ _
      have hs3 : W3.heap.size = w1.heap.size + 1 := by rw [hW3]; simp
      go_upto_region 5 with fail
      rw [← hW3]
      clear hW3
      go_wp2_with (go_at_call 77; refine (endsc_any g z W3).mono ?_; rintro e w' ⟨rfl, rfl⟩)
      obtain ⟨W5, hW5⟩ : ∃ W, W = (W3.alloc (.cells #[.pointer (some ⟨g, 0, none⟩)] 91)).alloc (.cells #[.int .i64 (z : Int)] 3) := ⟨_, rfl⟩
      have hB35 : Below W3.heap.size W3 W5 := by rw [hW5]; exact (below_alloc _ _).alloc (by simp) _
      have h1' : Boxed W5 W3.heap.size 91 (.pointer (some ⟨g, 0, none⟩)) := by rw [hW5]; exact (Boxed.new W3 91 _).alloc _
      have h2' : Boxed W5 (W3.heap.size + 1) 3 (.int .i64 (z : Int)) := by
        rw [hW5]
        have := Boxed.new (W3.alloc (.cells #[.pointer (some ⟨g, 0, none⟩)] 91)) 3 (.int .i64 (z : Int))
        rwa [World.size_alloc] at this
      rw [← hW5]
      clear hW5
      have bL5 : Boxed W5 w1.heap.size 25 (.slice none 0 0) := (hB35.block _ bL.lt).trans bL
      obtain ⟨q, e1, e2, e3, e4⟩ := (hAl.below (hb3.trans (hB35.mono hb3.size))).ex
      have hB5 : Below w.heap.size w W5 := (hB1.trans (hb3.mono hB1.size)).trans (hB35.mono (hB1.trans (hb3.mono hB1.size)).size)
      obtain ⟨q', f1, f2, _⟩ := hAl.ex
      have hgl : g < w1.heap.size := (Array.getElem?_eq_some_iff.1 f1).1
      have hql : q < w1.heap.size := by
        have h3 : W5.heap[g]? = _ := ((hb3.trans (hB35.mono hb3.size)).block g hgl).trans f1
        rw [e1] at h3
        have h4 : q = q' := by
          injection h3 with h3
          injection h3 with h3
          simpa using h3
        rw [h4]
        exact (Array.getElem?_eq_some_iff.1 (show w1.heap[q']? = _ from f2)).1
      have hsz5 := h2'.lt
      rw [hs3] at h1' h2' hsz5
      have hsw := hB1.size
      have hw5 : ∀ (i : Nat) (v : Int), (trieP ws).wrd[i]? = some v → W5.cell? ⟨b0, o0 + i, none⟩ = some (.int .i64 v) := fun i v hv => (hB5.cell (p := ⟨b0, o0 + i, none⟩) hb0).trans (hcw i v hv)
      rw [← hxl] at e1
      have hps := ends_stops ws g (w1.heap.size + 1) (w1.heap.size + 1 + 1) q (nodesL ws).length b0 o0 xc z _ _ _ (fun k => k < W5.heap.size ∧ k ≠ w1.heap.size) 8 W5 e1 e2 rfl (by have := HN.out; omega) hw5 h1' h2' ⟨⟨by omega, by omega⟩, ⟨by omega, by omega⟩, ⟨by omega, by omega⟩, ⟨by omega, by omega⟩, ⟨by omega, by omega⟩⟩ (fun k hk => hk.1) hzn
      clear e1 e2 e3 e4 f1 f2 h1' h2' hAl hw5 hcw
      have hnl := HN.out
      apply rangeF rfl (enters_of Tryz.func97 (by kernel_rfl) rfl) hps keepOn_t (keepOn_b fun k hk => hk.1) (fun _ => rfl)
        (fun pre W => HoldsX w1.heap.size W5.heap.size (fun _ => False) (pre.map fun z : NdP (nodesL ws).length => (z.1 : Int)) W ∧ Below w.heap.size w W ∧ W5.heap.size ≤ W.heap.size)
        (fun _ _ _ => False)
      case hI => exact OwnFrom.and (holdsX_own _) (OwnFrom.and (ownFrom_below (Nat.le_refl _) (by omega)) (own_size _ _))
      case hIx => exact fun _ _ _ _ _ hs _ _ => hs
      case h0 => exact ⟨⟨_, bL5, World.ownsRow_nil _ _ _ _, fun k h => h.elim⟩, hB5, Nat.le_refl _⟩
      case hassign =>
        intro l x W K hK
        unfold ndEnc
        gi_wp2
        exact hK
      case hbody =>
        rintro l pre ⟨y, hy⟩ W ⟨⟨v, hv, hown, _⟩, hBe, hs⟩ hlen
        dsimp only
        obtain ⟨L, hL⟩ : ∃ L, (pre.map fun z : NdP (nodesL ws).length => (z.1 : Int)) = L := ⟨_, rfl⟩
        have hLl : L.length ≤ 1000 := by rw [← hL, List.length_map]; omega
        rw [hL] at hown
        have HLL : Hid (((pre ++ [(⟨y, hy⟩ : NdP (nodesL ws).length)]).map fun z : NdP (nodesL ws).length => (z.1 : Int)) = L ++ [(y : Int)]) := by rw [Hid, List.map_append, hL]; rfl
        have HOW := Lib.hid hown
        unfold OwnI at hown
        obtain ⟨av, cv, rfl, hcv, _⟩ := own_sl1 (enc := Value.int .i64) hown
        have c2 := hv.cell
        have hbl := hv.lt
        clear hL
        gi_wp2_with (gi_at_builtin; refine wpListIn_append_slK _ rfl _ _ 25 rfl W5.heap.size 3 i0 (.int .i64 0) 1 8 Tryz.underlying25 hi hz0 hz1 hz2 rfl (by decide) _ _ _ rfl (hown.alloc _) (some ⟨W.heap.size, 0, none⟩) 1 1 [.int .i64 (y : Int)] rfl (slk_new W (y : Int)) (by simp [Value.oneCell']) (by unfold maxLen; omega) (by omega) (by simp; omega) ?_; intro v' w5 hown' hgrow hat; obtain ⟨g', cap', rfl⟩ := ownsRow_succ hown'; obtain ⟨b1, b2, b3, b4, b5⟩ := HoldsX.app (ps := fun _ => False) hv HOW.out (fun k h => h.elim) (fun k h => h.elim) (by omega) hs hown' hgrow hat; have d1 := b1.cell; have d2 := b1.frozen; have d3 := b1.lt)
        refine ⟨b3.from _, fun k hk => b4 k (by omega) hk.2 (fun e => by have := (row_lt HOW.out k e).1; omega), ?_, hBe.trans (b5.mono (by omega)), Nat.le_trans hs b5.size⟩
        have h2 := b2
        rw [← HLL.out] at h2
        simpa using h2
      case hdone =>
        rintro D zs W hD hS ⟨⟨v, hv, hown, _⟩, hBe, hs⟩ hD2
        have HZZ : Hid ((zs.map fun z : NdP (nodesL ws).length => (z.1 : Int)) = (ends9 ws z).map fun z : Nat => (z : Int)) := by rw [Hid, ← hS, List.map_map]; rfl
        obtain ⟨m, hm⟩ : ∃ m, (zs.map fun z : NdP (nodesL ws).length => (z.1 : Int)).length = m := ⟨_, rfl⟩
        unfold OwnI at hown
        rw [hm] at hown
        have HMM := Lib.hid hm
        clear hm
        obtain ⟨av, cv, rfl, hcv, _⟩ := own_sl1 (enc := Value.int .i64) hown
        have c2 := hv.cell
        have hrow := ownsRow_putObj hown (.deferred none) hD2 rfl
        clear hown
        go_wp2
        refine endM rfl hD2 (results_tmp rfl _ _ _) ⟨_, rfl, ?_, put_below hBe (by omega) (Nat.le_refl _) _⟩
        rw [HF.out, HZ.out, ← HZZ.out]
        unfold OwnI
        rw [HMM.out]
        exact Go.Joins.ownsRow_le hrow (by omega)
      case hstop => exact fun _ _ _ _ _ _ h _ => h.elim

end Go.Proofs.YtifcoalhkcflnaaGreat

/- A drawn region in a round of the wide fence, walked with held cells. -/



namespace Go.Proofs.YtifcoalhkcflnaaGreat
open Go.RowKit Go.Sort
set_option linter.unusedVariables false
set_option linter.unusedSimpArgs false

section inround
variable {P : Program} {ops : Array Oper} {Q Q' : Exit → Act → World → Prop} {md : Region.Mode} {n l : Nat}

theorem rowsR_of_rows {row : String} {args : Array Value} {w : World} {R : Value → World → Prop} (h : Rows P row args w R) : RowsIn (Fence.wide.inRound l) n P row args w R :=
  fun c cs _ => let ⟨v, w', r, s⟩ := h c cs; ⟨v, w', r, stepsIn_wide.2 s⟩

theorem operR_of_oper {o : Oper} {a : Act} {w : World} {K : Act → World → Prop} (hnd : ∀ c, o.op ≠ .defer c) (hq : ∀ e a w, Q e a w → Q' e a w) (hl : ¬ LetsOut Q)
    (h : o.wp P a w K Q) : o.wpIn (Fence.wide.inRound l) n P a w K Q' := by
  unfold Oper.wp at h
  unfold Oper.wpIn
  refine ⟨fun f _ => trivial, ?_⟩
  rw [Oper.semAt_eq _ _ _ hnd]
  generalize (execOp a.eval o).run P w = r at *
  cases r with
  | ok x w' =>
    cases x <;> simp only [Oper.upon] at h <;> simp only [Oper.uponIn]
    case value u => exact h
    case skip => exact h
    case defer d => exact h
    case enter f args =>
      refine ⟨(fun hd => by cases hd), (callsIn_wide (n := n - 1)).2 (h.mono fun e w'' he => ?_)⟩
      cases e with
      | returned u => exact he
      | panicked c => exact hq _ _ _ he
      | outgrown => exact absurd he hl
    case row row args => exact ⟨(fun hd => by cases hd), rowsR_of_rows h⟩
  | halt x w' =>
    cases x <;> simp only [Oper.upon] at h <;> simp only [Oper.uponIn]
    case panic u => exact hq _ _ _ h

theorem anyR_of_any (hnd : noDefer ops = true) (hq : ∀ e a w, Q e a w → Q' e a w) (hl : ¬ LetsOut Q) : ∀ (fuel : Nat) (listed : Array Bool) (a : Act) (w : World),
    wpAny P md ops Q fuel listed a w → wpAnyIn (Fence.wide.inRound l) n P md ops Q' fuel listed a w
  | 0, _, _, _, h => ⟨h.1, hq _ _ _ h.2⟩
  | fuel + 1, listed, a, w, h => by
    refine ⟨fun h0 => hq _ _ _ (h.1 h0), fun i hi => ?_⟩
    have h1 := wpOp_mono (fun a' w' h' => anyR_of_any hnd hq hl fuel _ a' w' h') (h.2 i hi)
    unfold wpOp at h1
    unfold wpOpIn
    split
    · rename_i ho; simp only [ho] at h1; exact h1
    · rename_i o ho
      simp only [ho] at h1
      split
      · rename_i hw
        simp only [hw, if_true] at h1
        rcases h1 with h1 | ⟨_, h1⟩
        · exact operR_of_oper (noDefer_spec hnd ho) hq hl h1
        · exact absurd h1 hl
      · rename_i hw
        simp only [hw] at h1
        exact ⟨fun f _ => trivial, h1⟩

/-- A region that is shown to come to its end: nothing else is let out. -/
def OnlyN (Q : Exit → Act → World → Prop) : Exit → Act → World → Prop
  | .normal, a, w => Q .normal a w
  | _, _, _ => False
theorem OnlyN.normal {a : Act} {w : World} (h : Q .normal a w) : OnlyN Q .normal a w := h
theorem OnlyN.imp : ∀ (e : Exit) (a : Act) (w : World), OnlyN Q e a w → Q e a w := fun e a w h => by
  cases e <;> first | exact h | exact absurd h id
theorem onlyN_holds : ¬ LetsOut (OnlyN Q) := fun ⟨_, _, h⟩ => h

theorem regionR_held_drew {S : World → Prop} {id : Nat} {a : Act} {w : World} (hm : P.follows .mixedOrders = true) (hnd : noDefer ops = true) (hS : S w.drew)
    (h : S w.drew → wpAnyH P .any ops (OnlyN Q) S ops.size (Array.replicate ops.size false) a w.drew) : (Code.region id ops true).wpIn (Fence.wide.inRound l) n P Q a w :=
  wpIn_region_any hm (anyR_of_any hnd OnlyN.imp onlyN_holds _ _ _ _ (wpAny_of_held _ _ _ _ (h hS)))

theorem oper_append_slK (w : World) {o : Oper} {a : Act} {K : Act → World → Prop} (s x : Operand) (t : TypeId)
    (hop : o.op = .call { callee := .builtin .append, args := #[s, x], argTypes := #[t, t] })
    (base : Nat) (e : TypeId) (i : TypeInfo) (z : Value) (size bytes : Nat) (ht : P.underlying t = some (.slice e)) (hi : P.info? e = some i) (hz : i.zero = some z) (hsize : i.size = size) (hby : i.bytes = bytes) (hzs : z.cells.size = size) (hsz : 0 < size)
    (v : Value) (n : Nat) (xs : List Value) (hs : a.eval s = v) (hown : w.ownsRow base e size v n xs) (A : Option Addr) (m c : Nat) (cs : List Value) (hx : a.eval x = .slice A m c) (hsl : SlK size w A m cs) (hone : ∀ u ∈ cs, u.oneCell' = true)
    (h63 : n + m ≤ maxLen) (hbytes : (n + m) * bytes ≤ 140737488355328) (hbase : base ≤ w.heap.size)
    (h : ∀ v' w', w'.ownsRow base e size v' (n + m) (xs ++ cs) → w.grownBy w' v.ownBlock → (v'.ownBlock = v.ownBlock ∨ v'.ownBlock = some w.heap.size) → K (a.put o.dst v') w') : o.wp P a w K Q := by
  obtain ⟨v', w', hrun, r1, r2, r3⟩ := run_append_slK (P := P) w base t o.type e i z size bytes ht hi hz hsize hby hzs hsz v n xs hown A m c cs hsl hone h63 hbytes hbase
  unfold Oper.wp
  simp [execOp, hop, resolve, invoke, builtin, hs, hx, hrun, Result.andThen]
  exact h v' w' r1 r2 r3
theorem wanted_step {c : Bool} {p q : Prop} (hc : c = true) (h : p) : if c = true then p else q := by rw [if_pos hc]; exact h
end inround
end Go.Proofs.YtifcoalhkcflnaaGreat

/- Nodes' words (layer 9): walked. -/


namespace Go.Proofs.YtifcoalhkcflnaaGreat
open Go.RowKit Go.Sort
set_option linter.unusedVariables false
set_option linter.unusedSimpArgs false
attribute [local go_sem] Oper.semAt_some
attribute [local simp] wide_fn wide_depth
attribute [local go_sem] wide_fn wide_depth

def words9 (ws : List (List Int)) (z : Nat) : List Int := (ends9 ws z).map fun n => ((trieP ws).wrd[n]?).getD 0
/-- What lay there lies as it lay, but for a box. -/
def KeptB (base b : Nat) (w W : World) : Prop := (∀ k, k < base → k ≠ b → W.heap[k]? = w.heap[k]?) ∧ base ≤ W.heap.size
theorem keptB_own {α : Type} {B base b : Nat} {w : World} (hB : base ≤ B) : OwnFrom B (fun (_ : α) W => KeptB base b w W) := fun s W W' row h hg hr =>
  ⟨fun k hk hkb => (hg.block k (Nat.lt_of_lt_of_le hk h.2) (fun e => by obtain ⟨h1, _⟩ := hr k e.symm; omega)).trans (h.1 k hk hkb), Nat.le_trans h.2 hg.size⟩
theorem KeptB.refl {base b : Nat} {w : World} (h : base ≤ w.heap.size) : KeptB base b w w := ⟨fun _ _ _ => rfl, h⟩
theorem KeptB.trans {base b : Nat} {u v w : World} (h : KeptB base b u v) (k : KeptB base b v w) : KeptB base b u w := ⟨fun i h1 h2 => (k.1 i h1 h2).trans (h.1 i h1 h2), k.2⟩
theorem KeptB.of_below {base b : Nat} {v w : World} (h : Below v.heap.size v w) (hb : base ≤ v.heap.size) : KeptB base b v w := ⟨fun k h1 _ => h.block k (by omega), Nat.le_trans hb h.size⟩
theorem keptB_alloc {base b : Nat} {v w : World} (h : KeptB base b v w) (o : Obj) : KeptB base b v (w.alloc o) := ⟨fun k h1 h2 => ((below_alloc w o).block k (Nat.lt_of_lt_of_le h1 h.2)).trans (h.1 k h1 h2), by have := h.2; rw [World.size_alloc]; omega⟩
theorem HoldsX.below {b base : Nat} {ps : Nat → Prop} {l : List Int} {W V : World} (h : HoldsX b base ps l W) (hb : Below W.heap.size W V) : HoldsX b base ps l V := by
  obtain ⟨v, h1, h2, h3⟩ := h
  exact ⟨v, (hb.block b h1.lt).trans h1, row_below h2 hb, h3⟩

set_option maxRecDepth 100000 in
set_option maxHeartbeats 8000000 in
theorem tell9_any (ws : List (List Int)) (g q ab lb base b0 o0 n xc z : Nat) (s0 s1 s3 : Value) (l : List Int) (w : World)
    (hg : w.heap[g]? = some (.cells #[s0, s1, .slice (some ⟨b0, o0, none⟩) n xc, s3, .slice (some ⟨q, 0, none⟩) n n] 95 (0, 0))) (hq : IntRow q (nextsP ws) w) (hN : (nodesL ws).length = n) (hn : n ≤ 1000)
    (hW : ∀ (i : Nat) (v : Int), (trieP ws).wrd[i]? = some v → w.cell? ⟨b0, o0 + i, none⟩ = some (.int .i64 v))
    (ha : Boxed w ab 91 (.pointer (some ⟨g, 0, none⟩))) (hl : HoldsX lb base (fun _ => False) l w)
    (hlt : g < base ∧ q < base ∧ ab < base ∧ b0 < base ∧ lb < base ∧ g ≠ lb ∧ q ≠ lb ∧ ab ≠ lb ∧ b0 ≠ lb ∧ base ≤ w.heap.size) (hz : z < n) (hll : l.length ≤ 1000000) :
    Calls Tryz.prog 76 #[.int .i64 (z : Int), .pointer (some ⟨ab, 0, none⟩), .pointer (some ⟨lb, 0, none⟩)] w fun e w' => e = .returned (.tuple #[]) ∧ HoldsX lb base (fun _ => False) (l ++ words9 ws z) w' ∧ KeptB base lb w w' ∧ Below lb w w' := by
  obtain ⟨i0, hi, hz0, hz1, hz2⟩ := info_parts i64_info7
  obtain ⟨lg, lq, la, l0, ll, ng, nq', na, n0, hbw⟩ := hlt
  have ca := ha.cell
  refine calls_of_wp_M Tryz.func76 rfl ?_
  simp only [Tryz.ntmps76, List.size_toArray, List.length_cons, List.length_nil, Nat.reduceAdd, Nat.reduceSub, Array.replicate_succ, Array.replicate_zero, List.push_toArray, List.append_toArray, List.nil_append, List.cons_append]
  go_wp2_with (go_at_call 77; refine (endsc_any g z w).mono ?_; rintro e w' ⟨rfl, rfl⟩)
  obtain ⟨W5, hW5⟩ : ∃ W, W = (w.alloc (.cells #[.pointer (some ⟨g, 0, none⟩)] 91)).alloc (.cells #[.int .i64 (z : Int)] 3) := ⟨_, rfl⟩
  have hB5 : Below w.heap.size w W5 := by rw [hW5]; exact (below_alloc _ _).alloc (by simp) _
  have h1' : Boxed W5 w.heap.size 91 (.pointer (some ⟨g, 0, none⟩)) := by rw [hW5]; exact (Boxed.new w 91 _).alloc _
  have h2' : Boxed W5 (w.heap.size + 1) 3 (.int .i64 (z : Int)) := by
    rw [hW5]
    have := Boxed.new (w.alloc (.cells #[.pointer (some ⟨g, 0, none⟩)] 91)) 3 (.int .i64 (z : Int))
    rwa [World.size_alloc] at this
  rw [← hW5]
  clear hW5 ca
  have e1 : W5.heap[g]? = _ := (hB5.block g (by omega)).trans hg
  have e2 : IntRow q (nextsP ws) W5 := (hB5.block q (by omega)).trans hq
  have hw5 : ∀ (i : Nat) (v : Int), (trieP ws).wrd[i]? = some v → W5.cell? ⟨b0, o0 + i, none⟩ = some (.int .i64 v) := fun i v hv => (hB5.cell (p := ⟨b0, o0 + i, none⟩) (by show b0 < w.heap.size; omega)).trans (hW i v hv)
  have hsz5 := h2'.lt
  have hps := ends_stops ws g w.heap.size (w.heap.size + 1) q n b0 o0 xc z _ _ _ (fun k => k = g ∨ k = q ∨ k = w.heap.size ∨ k = w.heap.size + 1 ∨ k = b0) 8 W5 e1 e2 hN (by omega) hw5 h1' h2' ⟨.inl rfl, .inr (.inl rfl), .inr (.inr (.inl rfl)), .inr (.inr (.inr (.inl rfl))), .inr (.inr (.inr (.inr rfl)))⟩ (fun k hk => by omega) hz
  have hl5 : HoldsX lb base (fun k => k = w.heap.size ∨ k = w.heap.size + 1) l W5 := by
    obtain ⟨v, h1, h2, _⟩ := hl
    refine ⟨v, (hB5.block lb h1.lt).trans h1, row_below h2 hB5, fun k hk e => ?_⟩
    have := (row_lt h2 k e).2
    omega
  have HW5 := Lib.hid hw5
  have HNN := Lib.hid hN
  have ha5 : Boxed W5 ab 91 (.pointer (some ⟨g, 0, none⟩)) := (hB5.block ab (by omega)).trans ha
  have HG5 := Lib.hid e1
  have HA5 := Lib.hid ha5
  have hK5 : KeptB base lb w W5 := KeptB.of_below hB5 hbw
  have hL5 : Below lb w W5 := hB5.mono (by omega)
  clear hg hq hW ha hl e1 e2 h1' h2' hw5 hN ha5 hB5
  apply rangeF rfl (enters_of Tryz.func97 (by kernel_rfl) rfl) hps keepOn_t (keepOn_b fun k hk => by omega) (fun _ => rfl)
    (fun pre W => HoldsX lb base (fun k => k = w.heap.size ∨ k = w.heap.size + 1) (l ++ pre.map fun y : NdP n => ((trieP ws).wrd[y.1]?).getD 0) W ∧ KeptB base lb W5 W ∧ Below lb w W ∧ W5.heap.size ≤ W.heap.size)
    (fun _ _ _ => False)
  case hI => exact OwnFrom.and (holdsX_own _) (OwnFrom.and (keptB_own (by omega)) (OwnFrom.and (ownFrom_below (by omega) (by omega)) (own_size _ _)))
  case hIx => exact fun _ _ _ _ _ hs _ _ => hs
  case h0 => exact ⟨by simpa using hl5, KeptB.refl (by omega), hL5, Nat.le_refl _⟩
  case hassign =>
    intro l x W K hK
    unfold ndEnc
    gi_wp2
    exact hK
  case hbody =>
    rintro l' pre ⟨y, hy⟩ W ⟨⟨v, hv, hown, hpsv⟩, hK1, hBe, hs⟩ hlen
    dsimp only
    have hK0 := hK1
    obtain ⟨u, hu⟩ : ∃ u, (trieP ws).wrd[y]? = some u := ⟨(trieP ws).wrd[y]'(by rw [(wrd_len ws).1, HNN.out]; exact hy), by simp⟩
    obtain ⟨L, hL⟩ : ∃ L, (l ++ pre.map fun y : NdP n => ((trieP ws).wrd[y.1]?).getD 0) = L := ⟨_, rfl⟩
    have hLl : L.length ≤ 1002000 := by rw [← hL, List.length_append, List.length_map]; omega
    rw [hL] at hown
    have HLL : Hid ((l ++ (pre ++ [(⟨y, hy⟩ : NdP n)]).map fun y : NdP n => ((trieP ws).wrd[y.1]?).getD 0) = L ++ [u]) := by
      rw [Hid, List.map_append, ← List.append_assoc, hL, List.map_cons, List.map_nil, hu, Option.getD_some]
    have HOW := Lib.hid hown
    have HPS := Lib.hid hpsv
    unfold OwnI at hown
    obtain ⟨av, cv, rfl, hcv, _⟩ := own_sl1 (enc := Value.int .i64) hown
    have hbl := hv.lt
    have c2 := hv.cell
    have hAb : Boxed W ab 91 (.pointer (some ⟨g, 0, none⟩)) := (hK1.1 ab la na).trans HA5.out
    have c3 := hAb.cell
    have hGb : W.heap[g]? = _ := (hK1.1 g lg ng).trans HG5.out
    have c4 : W.cell? ⟨g, 2, none⟩ = some (.slice (some ⟨b0, o0, none⟩) n xc) := by simp [World.cell?, hGb]
    have c5 : W.cell? ⟨b0, o0 + y, none⟩ = some (.int .i64 u) := (World.cell?_of_block (hK1.1 b0 l0 n0)).trans (HW5.out y u hu)
    have i1 : (0 : Int) ≤ (y : Int) := by omega
    have i2 : (y : Int) < (n : Int) := by omega
    clear hL hu hpsv hGb hAb
    gi_wp2
    have hvD : Boxed W.drew lb 25 (.slice av L.length cv) := hv
    have hownD : W.drew.ownsRow base 3 1 (.slice av L.length cv) L.length (L.map (Value.int .i64)) := hown
    have HOWD : Hid (OwnI W.drew base (.slice av L.length cv) L) := hownD
    have hsk : SlK 1 (W.drew.alloc (.cells #[.int .i64 u] 3)) (some ⟨W.drew.heap.size, 0, none⟩) 1 [.int .i64 u] := slk_new W.drew u
    refine regionR_held_drew (S := KeptB base lb W) mixed (by kernel_rfl) ⟨fun _ _ _ => rfl, (by show base ≤ W.heap.size; omega)⟩ (fun hHeld => ?_)
    refine wpAnyH_take (i := 1) (v := ?_) (by simp only [List.getElem?_toArray, List.getElem?_cons_zero, List.getElem?_cons_succ]; rfl) (by kernel_rfl) (by kernel_rfl) (by kernel_rfl) (fun _ _ _ h => h) (Or.inl ⟨by rfl, ?_⟩) (by assumption) ?_
    rotate_left
    · intro V hV
      have e3 := (World.cell?_of_block (a := ⟨ab, 0, none⟩) (hV.1 ab la na)).trans c3
      have e4 := (World.cell?_of_block (a := ⟨g, 2, none⟩) (hV.1 g lg ng)).trans c4
      have e5 := (World.cell?_of_block (a := ⟨b0, o0 + y, none⟩) (hV.1 b0 l0 n0)).trans c5
      first | (go_simp; done) | (go_simp; with_reducible rfl)
    try simp only [Act.put, List.setIfInBounds_toArray, List.set_cons_zero, List.set_cons_succ]
    refine wpAnyH_take (i := 2) (v := ?_) (by simp only [List.getElem?_toArray, List.getElem?_cons_zero, List.getElem?_cons_succ]; rfl) (by kernel_rfl) (by kernel_rfl) (by kernel_rfl) (fun _ _ _ h => h) (Or.inl ⟨by rfl, ?_⟩) (by assumption) ?_
    rotate_left
    · intro V hV
      have e3 := (World.cell?_of_block (a := ⟨ab, 0, none⟩) (hV.1 ab la na)).trans c3
      have e4 := (World.cell?_of_block (a := ⟨g, 2, none⟩) (hV.1 g lg ng)).trans c4
      have e5 := (World.cell?_of_block (a := ⟨b0, o0 + y, none⟩) (hV.1 b0 l0 n0)).trans c5
      first | (go_simp; done) | (go_simp; with_reducible rfl)
    try simp only [Act.put, List.setIfInBounds_toArray, List.set_cons_zero, List.set_cons_succ]
    refine wpAnyH_take (i := 3) (v := ?_) (by simp only [List.getElem?_toArray, List.getElem?_cons_zero, List.getElem?_cons_succ]; rfl) (by kernel_rfl) (by kernel_rfl) (by kernel_rfl) (fun _ _ _ h => h) (Or.inl ⟨by rfl, ?_⟩) (by assumption) ?_
    rotate_left
    · intro V hV
      have e3 := (World.cell?_of_block (a := ⟨ab, 0, none⟩) (hV.1 ab la na)).trans c3
      have e4 := (World.cell?_of_block (a := ⟨g, 2, none⟩) (hV.1 g lg ng)).trans c4
      have e5 := (World.cell?_of_block (a := ⟨b0, o0 + y, none⟩) (hV.1 b0 l0 n0)).trans c5
      first | (go_simp; done) | (go_simp; with_reducible rfl)
    try simp only [Act.put, List.setIfInBounds_toArray, List.set_cons_zero, List.set_cons_succ]
    refine wpAnyH_take (i := 4) (v := ?_) (by simp only [List.getElem?_toArray, List.getElem?_cons_zero, List.getElem?_cons_succ]; rfl) (by kernel_rfl) (by kernel_rfl) (by kernel_rfl) (fun _ _ _ h => h) (Or.inl ⟨by rfl, ?_⟩) (by assumption) ?_
    rotate_left
    · intro V hV
      have e3 := (World.cell?_of_block (a := ⟨ab, 0, none⟩) (hV.1 ab la na)).trans c3
      have e4 := (World.cell?_of_block (a := ⟨g, 2, none⟩) (hV.1 g lg ng)).trans c4
      have e5 := (World.cell?_of_block (a := ⟨b0, o0 + y, none⟩) (hV.1 b0 l0 n0)).trans c5
      first | (go_simp; done) | (go_simp; with_reducible rfl)
    try simp only [Act.put, List.setIfInBounds_toArray, List.set_cons_zero, List.set_cons_succ]
    refine wpAnyH_take (i := 5) (v := ?_) (by simp only [List.getElem?_toArray, List.getElem?_cons_zero, List.getElem?_cons_succ]; rfl) (by kernel_rfl) (by kernel_rfl) (by kernel_rfl) (fun _ _ _ h => h) (Or.inl ⟨by rfl, ?_⟩) (by assumption) ?_
    rotate_left
    · intro V hV
      have e3 := (World.cell?_of_block (a := ⟨ab, 0, none⟩) (hV.1 ab la na)).trans c3
      have e4 := (World.cell?_of_block (a := ⟨g, 2, none⟩) (hV.1 g lg ng)).trans c4
      have e5 := (World.cell?_of_block (a := ⟨b0, o0 + y, none⟩) (hV.1 b0 l0 n0)).trans c5
      first | (go_simp; done) | (go_simp; with_reducible rfl)
    try simp only [Act.put, List.setIfInBounds_toArray, List.set_cons_zero, List.set_cons_succ]
    refine wpAnyH_take (i := 6) (v := ?_) (by simp only [List.getElem?_toArray, List.getElem?_cons_zero, List.getElem?_cons_succ]; rfl) (by kernel_rfl) (by kernel_rfl) (by kernel_rfl) (fun _ _ _ h => h) (Or.inl ⟨by rfl, ?_⟩) (by assumption) ?_
    rotate_left
    · intro V hV
      have e3 := (World.cell?_of_block (a := ⟨ab, 0, none⟩) (hV.1 ab la na)).trans c3
      have e4 := (World.cell?_of_block (a := ⟨g, 2, none⟩) (hV.1 g lg ng)).trans c4
      have e5 := (World.cell?_of_block (a := ⟨b0, o0 + y, none⟩) (hV.1 b0 l0 n0)).trans c5
      first | (go_simp; done) | (go_simp; with_reducible rfl)
    try simp only [Act.put, List.setIfInBounds_toArray, List.set_cons_zero, List.set_cons_succ]
    refine wpAnyH_take (i := 7) (v := ?_) (by simp only [List.getElem?_toArray, List.getElem?_cons_zero, List.getElem?_cons_succ]; rfl) (by kernel_rfl) (by kernel_rfl) (by kernel_rfl) (fun _ _ _ h => h) (Or.inl ⟨by rfl, ?_⟩) (by assumption) ?_
    rotate_left
    · intro V hV
      have e3 := (World.cell?_of_block (a := ⟨ab, 0, none⟩) (hV.1 ab la na)).trans c3
      have e4 := (World.cell?_of_block (a := ⟨g, 2, none⟩) (hV.1 g lg ng)).trans c4
      have e5 := (World.cell?_of_block (a := ⟨b0, o0 + y, none⟩) (hV.1 b0 l0 n0)).trans c5
      first | (go_simp; done) | (go_simp; with_reducible rfl)
    try simp only [Act.put, List.setIfInBounds_toArray, List.set_cons_zero, List.set_cons_succ]
    refine wpAnyH_take (i := 8) (v := ?_) (by simp only [List.getElem?_toArray, List.getElem?_cons_zero, List.getElem?_cons_succ]; rfl) (by kernel_rfl) (by kernel_rfl) (by kernel_rfl) (fun _ _ _ h => h) (Or.inl ⟨by rfl, ?_⟩) (by assumption) ?_
    rotate_left
    · intro V hV
      have e3 := (World.cell?_of_block (a := ⟨ab, 0, none⟩) (hV.1 ab la na)).trans c3
      have e4 := (World.cell?_of_block (a := ⟨g, 2, none⟩) (hV.1 g lg ng)).trans c4
      have e5 := (World.cell?_of_block (a := ⟨b0, o0 + y, none⟩) (hV.1 b0 l0 n0)).trans c5
      first | (go_simp; done) | (go_simp; with_reducible rfl)
    try simp only [Act.put, List.setIfInBounds_toArray, List.set_cons_zero, List.set_cons_succ]
    refine wpAnyH_ready (rs := [0, 9]) (by kernel_rfl) (by simp) ?_
    refine AllReadyH.cons (by simp only [List.getElem?_toArray, List.getElem?_cons_zero, List.getElem?_cons_succ]; rfl) (fun K hK => ?_) (AllReadyH.cons (by simp only [List.getElem?_toArray, List.getElem?_cons_zero, List.getElem?_cons_succ]; rfl) (fun K hK => ?_) AllReadyH.nil)
    · have c6 := hvD.cell
      have hOld := hHeld
      go_simp
      refine hK.out _ _ ?_ (fun hNew => ?_)
      · exact hOld
      clear hK K hHeld hOld
      have hHeld := hNew
      clear hNew
      try simp only [Act.put, List.setIfInBounds_toArray, List.set_cons_zero, List.set_cons_succ]
      refine wpAnyH_ready (rs := [9]) (by kernel_rfl) (by simp) ?_
      refine AllReadyH.cons (by simp only [List.getElem?_toArray, List.getElem?_cons_zero, List.getElem?_cons_succ]; rfl) (fun K hK => ?_) AllReadyH.nil
      have hOld := hHeld
      go_simp
      refine hK.out _ _ ?_ (fun hNew => ?_)
      · exact keptB_alloc hOld _
      clear hK K hHeld hOld
      have hHeld := hNew
      clear hNew
      try simp only [Act.put, List.setIfInBounds_toArray, List.set_cons_zero, List.set_cons_succ]
      refine wpAnyH_ready (rs := [10]) (by kernel_rfl) (by simp) ?_
      refine AllReadyH.cons (by simp only [List.getElem?_toArray, List.getElem?_cons_zero, List.getElem?_cons_succ]; rfl) (fun K hK => ?_) AllReadyH.nil
      refine wanted_step (by kernel_rfl) ?_
      refine oper_append_slK _ _ _ 25 rfl base 3 i0 (.int .i64 0) 1 8 Tryz.underlying25 hi hz0 hz1 hz2 rfl (by decide) _ _ _ rfl (hownD.alloc _) (some ⟨W.drew.heap.size, 0, none⟩) 1 1 [.int .i64 u] rfl hsk (by simp [Value.oneCell']) (by unfold maxLen; omega) (by omega) (by have := hK0.2; show base ≤ (W.heap.push _).size; simp; omega) ?_
      intro v' w5 hown' hgrow hat
      obtain ⟨g', cap', rfl⟩ := ownsRow_succ hown'
      obtain ⟨b1, b2, b3, b4, b5⟩ := HoldsX.app (ps := fun k => k = w.heap.size ∨ k = w.heap.size + 1) hvD HOWD.out HPS.out (fun k h => by show k < W.heap.size; omega) (by omega) (by show base ≤ W.heap.size; omega) hown' hgrow hat
      have d1 := b1.cell
      have d2 := b1.frozen
      have d3 := b1.lt
      have hfar : ∀ k, k < base ∨ k = w.heap.size ∨ k = w.heap.size + 1 → (Value.slice av L.length cv).ownBlock ≠ some k := fun k hk e => by
        rcases hk with hk | hk
        · have := (row_lt HOWD.out k e).1; omega
        · exact HPS.out k hk e
      refine hK.out _ _ ?_ (fun hNew => ?_)
      · exact ⟨fun k h1 h2 => (hgrow.block k (by show k < (W.heap.push _).size; simp; omega) (fun e => hfar k (.inl h1) e.symm)).trans ((below_alloc W.drew _).block k (by show k < W.heap.size; omega)), Nat.le_trans (by show base ≤ (W.heap.push _).size; simp; omega) hgrow.size⟩
      clear hK K hHeld
      have hHeld := hNew
      clear hNew
      try simp only [Act.put, List.setIfInBounds_toArray, List.set_cons_zero, List.set_cons_succ]
      refine wpAnyH_ready (rs := [11]) (by kernel_rfl) (by simp) ?_
      refine AllReadyH.cons (by simp only [List.getElem?_toArray, List.getElem?_cons_zero, List.getElem?_cons_succ]; rfl) (fun K hK => ?_) AllReadyH.nil
      have hOld := hHeld
      go_simp
      have hS6 : KeptB base lb W (w5.setCell ⟨lb, 0, none⟩ (.slice (some ⟨g', 0, none⟩) (L.length + 1) cap')) := ⟨fun k h1 h2 => b4 k (by show k < W.heap.size; omega) h2 (hfar k (.inl h1)), by have := b5.size; have h2 : W.drew.heap.size = W.heap.size := rfl; omega⟩
      refine hK.out _ _ ?_ (fun hNew => ?_)
      · exact hS6
      clear hK K hHeld hOld hNew
      refine wpAnyH_done (by kernel_rfl) ?_ _
      refine OnlyN.normal ?_
      gi_wp2
      refine ⟨(show KeepsOthers W _ from ⟨b3.size, b3.same⟩).from _, fun k hk => b4 k (by show k < W.heap.size; omega) (by omega) (hfar k (by omega)), ?_, hK1.trans hS6, hBe.trans (((bel_drewN W 1).mono (by omega)).trans b5), Nat.le_trans hs b5.size⟩
      have h2 := b2
      rw [← HLL.out] at h2
      simpa using h2
    · have c6 := hvD.cell
      have hOld := hHeld
      go_simp
      refine hK.out _ _ ?_ (fun hNew => ?_)
      · exact keptB_alloc hOld _
      clear hK K hHeld hOld
      have hHeld := hNew
      clear hNew
      try simp only [Act.put, List.setIfInBounds_toArray, List.set_cons_zero, List.set_cons_succ]
      refine wpAnyH_ready (rs := [0]) (by kernel_rfl) (by simp) ?_
      refine AllReadyH.cons (by simp only [List.getElem?_toArray, List.getElem?_cons_zero, List.getElem?_cons_succ]; rfl) (fun K hK => ?_) AllReadyH.nil
      have c7 := (hvD.alloc (.cells #[.int .i64 u] 3)).cell
      have hOld := hHeld
      go_simp
      refine hK.out _ _ ?_ (fun hNew => ?_)
      · exact hOld
      clear hK K hHeld hOld
      have hHeld := hNew
      clear hNew
      try simp only [Act.put, List.setIfInBounds_toArray, List.set_cons_zero, List.set_cons_succ]
      refine wpAnyH_ready (rs := [10]) (by kernel_rfl) (by simp) ?_
      refine AllReadyH.cons (by simp only [List.getElem?_toArray, List.getElem?_cons_zero, List.getElem?_cons_succ]; rfl) (fun K hK => ?_) AllReadyH.nil
      refine wanted_step (by kernel_rfl) ?_
      refine oper_append_slK _ _ _ 25 rfl base 3 i0 (.int .i64 0) 1 8 Tryz.underlying25 hi hz0 hz1 hz2 rfl (by decide) _ _ _ rfl (hownD.alloc _) (some ⟨W.drew.heap.size, 0, none⟩) 1 1 [.int .i64 u] rfl hsk (by simp [Value.oneCell']) (by unfold maxLen; omega) (by omega) (by have := hK0.2; show base ≤ (W.heap.push _).size; simp; omega) ?_
      intro v' w5 hown' hgrow hat
      obtain ⟨g', cap', rfl⟩ := ownsRow_succ hown'
      obtain ⟨b1, b2, b3, b4, b5⟩ := HoldsX.app (ps := fun k => k = w.heap.size ∨ k = w.heap.size + 1) hvD HOWD.out HPS.out (fun k h => by show k < W.heap.size; omega) (by omega) (by show base ≤ W.heap.size; omega) hown' hgrow hat
      have d1 := b1.cell
      have d2 := b1.frozen
      have d3 := b1.lt
      have hfar : ∀ k, k < base ∨ k = w.heap.size ∨ k = w.heap.size + 1 → (Value.slice av L.length cv).ownBlock ≠ some k := fun k hk e => by
        rcases hk with hk | hk
        · have := (row_lt HOWD.out k e).1; omega
        · exact HPS.out k hk e
      refine hK.out _ _ ?_ (fun hNew => ?_)
      · exact ⟨fun k h1 h2 => (hgrow.block k (by show k < (W.heap.push _).size; simp; omega) (fun e => hfar k (.inl h1) e.symm)).trans ((below_alloc W.drew _).block k (by show k < W.heap.size; omega)), Nat.le_trans (by show base ≤ (W.heap.push _).size; simp; omega) hgrow.size⟩
      clear hK K hHeld
      have hHeld := hNew
      clear hNew
      try simp only [Act.put, List.setIfInBounds_toArray, List.set_cons_zero, List.set_cons_succ]
      refine wpAnyH_ready (rs := [11]) (by kernel_rfl) (by simp) ?_
      refine AllReadyH.cons (by simp only [List.getElem?_toArray, List.getElem?_cons_zero, List.getElem?_cons_succ]; rfl) (fun K hK => ?_) AllReadyH.nil
      have hOld := hHeld
      go_simp
      have hS6 : KeptB base lb W (w5.setCell ⟨lb, 0, none⟩ (.slice (some ⟨g', 0, none⟩) (L.length + 1) cap')) := ⟨fun k h1 h2 => b4 k (by show k < W.heap.size; omega) h2 (hfar k (.inl h1)), by have := b5.size; have h2 : W.drew.heap.size = W.heap.size := rfl; omega⟩
      refine hK.out _ _ ?_ (fun hNew => ?_)
      · exact hS6
      clear hK K hHeld hOld hNew
      refine wpAnyH_done (by kernel_rfl) ?_ _
      refine OnlyN.normal ?_
      gi_wp2
      refine ⟨(show KeepsOthers W _ from ⟨b3.size, b3.same⟩).from _, fun k hk => b4 k (by show k < W.heap.size; omega) (by omega) (hfar k (by omega)), ?_, hK1.trans hS6, hBe.trans (((bel_drewN W 1).mono (by omega)).trans b5), Nat.le_trans hs b5.size⟩
      have h2 := b2
      rw [← HLL.out] at h2
      simpa using h2
  case hdone =>
    rintro D zs W hD hS ⟨⟨v, hv, hown, hpv⟩, hK, hBe, hs⟩ hD2
    have HZ : Hid ((zs.map fun y : NdP n => ((trieP ws).wrd[y.1]?).getD 0) = words9 ws z) := by
      unfold Hid words9
      rw [← hS, List.map_map]
      rfl
    have hrow := ownsRow_putObj hown (.deferred none) hD2 rfl
    have hvb : Boxed (W.putObj D (.deferred none)) lb 25 v := (World.putObj_heap_other (by omega)).trans hv
    go_wp2
    refine endM' rfl hD2 (results_none rfl _ _ _) ⟨rfl, ?_, ?_, put_below hBe (by omega) (by omega) _⟩
    · rw [← HZ.out]
      exact ⟨v, hvb, hrow, fun k h => h.elim⟩
    · exact hK5.trans (hK.trans ⟨fun k hk hkb => World.putObj_heap_other (by omega), by have := hK.2; simpa [World.putObj] using this⟩)
  case hstop => exact fun _ _ _ _ _ _ h _ => h.elim

end Go.Proofs.YtifcoalhkcflnaaGreat

/- Words (layer 9): walked. -/

namespace Go.Proofs.YtifcoalhkcflnaaGreat
open Go.RowKit Go.Sort
set_option linter.unusedVariables false
set_option linter.unusedSimpArgs false

def wordsP9 (ws : List (List Int)) (path : List Int) : Option (List Int) := if path.all (fun x => decide (0 ≤ x ∧ x < (nodesL ws).length)) = true then some (path.flatMap fun x => words9 ws x.toNat) else none

def WPost (r : Option (List Int)) (B : Nat) (e : Ending) (W : World) : Prop := match r with
  | some l => ∃ v, e = .returned (.tuple #[v, .int .i64 0]) ∧ OwnI W B v l
  | none => e = .returned (.tuple #[.slice none 0 0, .int .i64 2])

theorem words9_len (ws : List (List Int)) (z : Nat) : (words9 ws z).length ≤ z := by
  unfold words9
  rw [List.length_map]
  exact endsN_len _ _ _ _
theorem flat_len (ws : List (List Int)) {B : Nat} : ∀ (l : List Int), (∀ x ∈ l, x.toNat ≤ B) → (l.flatMap fun x => words9 ws x.toNat).length ≤ l.length * B
  | [], _ => by simp
  | x :: l, h => by
    rw [List.flatMap_cons, List.length_append, List.length_cons, Nat.succ_mul]
    have h1 := words9_len ws x.toNat
    have h2 := h x (by simp)
    have h3 := flat_len ws l (fun y hy => h y (by simp [hy]))
    omega

set_option maxRecDepth 100000 in
set_option maxHeartbeats 8000000 in
theorem words9_yes (t : TV) (T : TrieT) (sp ws : List (List Int)) (path : List Int) (pa : Option Addr) (pn pc : Nat) (w : World) (hT : Tri w t T) (hb : t.un ≤ 140737488351232) (hr : readP T = some (sp, ws)) (hp : Sl1 (Value.int .i64) w pa pn path) (hpn : pn ≤ 1000) :
    Calls Tryz.prog 43 #[.agg t.cells, .slice pa pn pc] w fun e w' => WPost (wordsP9 ws path) w.heap.size e w' ∧ Below w.heap.size w w' := by
  obtain ⟨ua, un, uc, da, dn, dc, xa, xn, xc, ba, bn, bc⟩ := t
  obtain ⟨W, hW⟩ : ∃ W, W = w.alloc (.cells #[.slice ua un uc, .slice da dn dc, .slice xa xn xc, .slice ba bn bc] 28) := ⟨_, rfl⟩
  have hB : Below w.heap.size w W := by rw [hW]; exact below_alloc _ _
  have hQ : W.heap[w.heap.size]? = some (.cells #[.slice ua un uc, .slice da dn dc, .slice xa xn xc, .slice ba bn bc] 28 (0, 0)) := by rw [hW]; exact World.alloc_heap_new _ _
  have c0 : W.cell? ⟨w.heap.size, 0, none⟩ = some (.slice ua un uc) := by simp [World.cell?, hQ]
  have c1 : W.cell? ⟨w.heap.size, 1, none⟩ = some (.slice da dn dc) := by simp [World.cell?, hQ]
  have c2 : W.cell? ⟨w.heap.size, 2, none⟩ = some (.slice xa xn xc) := by simp [World.cell?, hQ]
  have c3 : W.cell? ⟨w.heap.size, 3, none⟩ = some (.slice ba bn bc) := by simp [World.cell?, hQ]
  have hB0 := hB
  have HC := Lib.hid (read9_yes _ T sp ws W (hT.below hB) hb hr)
  have HN : Hid ((nodesL ws).length ≤ 400) := read_n hr
  obtain ⟨_, hTe, _⟩ := readP_iff.1 hr
  have HWD : Hid (Sl1 (Value.int .i64) w xa xn (trieP ws).wrd) := by rw [Hid, ← hTe]; exact hT.wrd
  have HP := Lib.hid hp
  clear hT hr hTe hp
  go_enter Tryz.func43, Tryz.ntmps43
  go_upto_region 1 with fail
  rw [← hW]
  clear hW
  go_wp2_with fail
  refine HC.out.mono ?_
  rintro e w1 ⟨g, rfl, hAl, hb1⟩
  have hB1 := hB.trans (hb1.mono hB.size)
  clear c0 c1 c2 c3 hQ hB hb1
  go_upto_region 6 with fail
  obtain ⟨W6, hW6⟩ : ∃ W, W = (w1.alloc (.cells #[.pointer (some ⟨g, 0, none⟩)] 91)).alloc (.cells #[.slice none 0 0] 25) := ⟨_, rfl⟩
  have hb6 : Below w1.heap.size w1 W6 := by rw [hW6]; exact (below_alloc _ _).alloc (by simp) _
  have hA6 : Boxed W6 w1.heap.size 91 (.pointer (some ⟨g, 0, none⟩)) := by rw [hW6]; exact (Boxed.new w1 91 _).alloc _
  have hL6 : Boxed W6 (w1.heap.size + 1) 25 (.slice none 0 0) := by
    rw [hW6]
    have := Boxed.new (w1.alloc (.cells #[.pointer (some ⟨g, 0, none⟩)] 91)) 25 (.slice none 0 0)
    rwa [World.size_alloc] at this
  have hs6 : W6.heap.size = w1.heap.size + 2 := by rw [hW6]; simp
  rw [← hW6]
  clear hW6
  have hB6 := hB1.trans (hb6.mono hB1.size)
  have hAl6 := hAl.below hb6
  obtain ⟨q, f1, f2, f3, f4⟩ := hAl6.ex
  obtain ⟨q', e1, e2, _⟩ := hAl.ex
  have hgl : g < w1.heap.size := (Array.getElem?_eq_some_iff.1 e1).1
  have hql : q < w1.heap.size := by
    have h3 : W6.heap[g]? = _ := (hb6.block g hgl).trans e1
    rw [f1] at h3
    have h4 : q = q' := by
      injection h3 with h3
      injection h3 with h3
      simpa using h3
    rw [h4]
    exact (Array.getElem?_eq_some_iff.1 (show w1.heap[q']? = _ from e2)).1
  have hsw := hB1.size
  have hxl : (trieP ws).wrd.length = xn := HWD.out.1
  rw [(wrd_len ws).1] at hxl
  subst hxl
  have hpl : path.length = pn := HP.out.1
  have HG6 := Lib.hid f1
  have HQ6 := Lib.hid f2
  have HA6 := Lib.hid hA6
  have HPL := Lib.hid hpl
  have H0 : HoldsX (w1.heap.size + 1) W6.heap.size (fun _ => False) [] W6 := ⟨_, hL6, World.ownsRow_nil _ _ _ _, fun k h => h.elim⟩
  clear e1 e2 f1 f2 f3 f4 hA6 hL6 hAl hAl6 hpl
  go_wp2_with fail
  go_loopw [22] (fun s22 wr => ∃ i : Nat, i ≤ pn ∧ s22 = .int .i64 i ∧ Hid (∀ x ∈ path.take i, 0 ≤ x ∧ x < ((nodesL ws).length : Int)) ∧ HoldsX (w1.heap.size + 1) W6.heap.size (fun _ => False) ((path.take i).flatMap fun x => words9 ws x.toNat) wr ∧ KeptB W6.heap.size (w1.heap.size + 1) W6 wr ∧ Below w.heap.size w wr) (fun s _ => pn - (intOf s).toNat)
  case atStart => exact ⟨0, Nat.zero_le _, rfl, (fun x hx => by simp at hx), by simpa using H0, KeptB.refl (Nat.le_refl _), hB6⟩
  case round =>
    obtain ⟨i, hi, rfl, HOK, hH, hK, hBe⟩ := hrel
    by_cases hil : i < pn
    · have hd : decide ((i : Int) < pn) = true := by simp; omega
      obtain ⟨bp, op, x, ep, hlp, cx, hx⟩ := sl1_at HP.out hil
      subst ep
      have cxr : wr.cell? ⟨bp, op + i, none⟩ = some (.int .i64 x) := (hBe.cell (p := ⟨bp, op + i, none⟩) hlp).trans cx
      have hAr : Boxed wr w1.heap.size 91 (.pointer (some ⟨g, 0, none⟩)) := (hK.1 _ (by omega) (by omega)).trans HA6.out
      have hGr : wr.heap[g]? = _ := (hK.1 g (by omega) (by omega)).trans HG6.out
      have hQr : IntRow q (nextsP ws) wr := (hK.1 q (by omega) (by omega)).trans HQ6.out
      have hAlr : AlAt wr 0 g ⟨ua, un, uc, da, dn, dc, xa, (nodesL ws).length, xc, ba, bn, bc⟩ ws := ⟨⟨q, hGr, hQr, Nat.zero_le _, Nat.zero_le _⟩⟩
      have HI := Lib.hid (is9_any _ g _ ws x wr hAlr)
      obtain ⟨B, hBd⟩ : ∃ B, decide (0 ≤ x ∧ x < ((nodesL ws).length : Int)) = B := ⟨_, rfl⟩
      rw [hBd] at HI
      have HBD := Lib.hid hBd
      have c6 := hAr.cell
      have i1 : (0 : Int) ≤ (i : Int) := by omega
      have i2 : (i : Int) < (pn : Int) := by omega
      have HX := Lib.hid hx
      have HGR := Lib.hid hGr
      clear hBd hx cx hGr
      go_wp2_with fail
      refine HI.out.mono ?_
      rintro e w2 ⟨rfl, rfl⟩
      cases B with
      | false =>
        have HZ : Hid (wordsP9 ws path = none) := by
          unfold Hid wordsP9
          rw [if_neg]
          intro hall
          exact absurd (of_decide_eq_true (List.all_eq_true.1 hall x (List.mem_of_getElem? HX.out))) (of_decide_eq_false HBD.out)
        go_wp2
        go_ret2
        rw [HZ.out]
        exact ⟨rfl, hBe⟩
      | true =>
        obtain ⟨h0, h1⟩ := of_decide_eq_true HBD.out
        obtain ⟨z, rfl⟩ : ∃ z : Nat, x = z := ⟨x.toNat, by omega⟩
        have hzn : z < (nodesL ws).length := by omega
        have hpos : 0 < (nodesL ws).length := by omega
        obtain ⟨b0, o0, v0, hxa, hb0, _, _⟩ := sl1_at HWD.out (k := 0) hpos
        subst hxa
        have HLE := flat_len ws (B := 400) (path.take i) (fun y hy => by have := HOK.out y hy; have := HN.out; omega)
        have hll : ((path.take i).flatMap fun x => words9 ws x.toNat).length ≤ 1000000 := by
          have : (path.take i).length ≤ i := by rw [List.length_take]; omega
          have h5 : (path.take i).length * 400 ≤ 1000 * 400 := Nat.mul_le_mul_right _ (by omega)
          omega
        have HT := Lib.hid (tell9_any ws g q w1.heap.size (w1.heap.size + 1) W6.heap.size b0 o0 (nodesL ws).length xc z _ _ _ _ wr HGR.out hQr rfl (by have := HN.out; omega) (fun j v hv => by
            obtain ⟨b2, o2, x2, e2, hl2, cx2, hx2⟩ := sl1_at HWD.out (k := j) (by rw [← (wrd_len ws).1]; exact (List.getElem?_eq_some_iff.1 hv).1)
            injection e2 with e2
            injection e2 with e3 e4 e5
            subst e3 e4
            rw [hv] at hx2
            injection hx2 with hx2
            subst hx2
            exact (hBe.cell (p := ⟨b0, o0 + j, none⟩) hl2).trans cx2) hAr hH ⟨by omega, by omega, by omega, by omega, by omega, by omega, by omega, by omega, by omega, hK.2⟩ hzn hll)
        clear hH hAr hQr hAlr h0 h1 hll HLE
        go_wp2_with fail
        refine HT.out.mono ?_
        rintro e w3 ⟨rfl, hH3, hK3, hB3⟩
        go_wp2
        go_roundw
        case rel => exact ⟨i + 1, by omega, by go_num, (fun y hy => by
            rw [List.take_add_one, HX.out] at hy
            rcases List.mem_append.1 hy with hy | hy
            · exact HOK.out y hy
            · simp at hy
              subst hy
              omega), by
            rw [List.take_add_one, HX.out, List.flatMap_append]
            simpa using hH3, hK.trans hK3, hBe.trans (hB3.mono (by omega))⟩
        case measure => simp [intOf]; omega
    · obtain rfl : i = pn := by omega
      have hd : decide ((i : Int) < i) = false := by simp
      have HZ : Hid (wordsP9 ws path = some (path.flatMap fun x => words9 ws x.toNat)) := by
        unfold Hid wordsP9
        rw [if_pos]
        refine List.all_eq_true.2 fun x hx => decide_eq_true (HOK.out x ?_)
        rw [List.take_of_length_le (by have := HPL.out; omega)]
        exact hx
      rw [List.take_of_length_le (by have := HPL.out; omega)] at hH
      obtain ⟨v, hv, hown, _⟩ := hH
      have HOW := Lib.hid hown
      unfold OwnI at hown
      obtain ⟨m, hm⟩ : ∃ m, (path.flatMap fun x => words9 ws x.toNat).length = m := ⟨_, rfl⟩
      rw [hm] at hown
      obtain ⟨av, cv, rfl, hcv, _⟩ := own_sl1 (enc := Value.int .i64) hown
      have c2 := hv.cell
      have HOWN := Lib.hid hown
      clear hown hm
      go_wp2
      go_ret2
      rw [HZ.out]
      refine ⟨⟨_, rfl, ?_⟩, hBe⟩
      exact Go.Joins.ownsRow_le HOW.out (by omega)

end Go.Proofs.YtifcoalhkcflnaaGreat

/- Words of a spoilt trie, how many words a node has (layer 9): walked. -/

namespace Go.Proofs.YtifcoalhkcflnaaGreat
open Go.RowKit Go.Sort
set_option linter.unusedVariables false
set_option linter.unusedSimpArgs false
attribute [local go_sem] Oper.semAt_some
attribute [local simp] wide_fn wide_depth
attribute [local go_sem] wide_fn wide_depth

theorem words9_no (t : TV) (T : TrieT) (x : Value) (w : World) (hT : Tri w t T) (hb : t.un ≤ 140737488351232) (hr : readP T = none) :
    Calls Tryz.prog 43 #[.agg t.cells, x] w fun e w' => e = .returned (.tuple #[.slice none 0 0, .int .i64 2]) ∧ Below w.heap.size w w' := by
  obtain ⟨ua, un, uc, da, dn, dc, xa, xn, xc, ba, bn, bc⟩ := t
  have hB := below_alloc w (.cells #[.slice ua un uc, .slice da dn dc, .slice xa xn xc, .slice ba bn bc] 28)
  have HC := Lib.hid (read9_no _ T _ (hT.below hB) hb hr)
  clear hT hr
  go_enter Tryz.func43, Tryz.ntmps43
  go_wp2_with fail
  refine HC.out.mono ?_
  rintro e w1 ⟨rfl, hb1⟩
  go_wp2
  go_ret2
  exact ⟨rfl, (hB.trans (hb1.mono hB.size)).alloc (hB.trans (hb1.mono hB.size)).size _⟩

def cnt9 (ws : List (List Int)) (z : Nat) : Nat := (ends9 ws z).length

set_option maxRecDepth 100000 in
set_option maxHeartbeats 8000000 in
theorem count9_any (ws : List (List Int)) (g q ab b0 o0 n xc z : Nat) (s0 s1 s3 : Value) (w : World)
    (hg : w.heap[g]? = some (.cells #[s0, s1, .slice (some ⟨b0, o0, none⟩) n xc, s3, .slice (some ⟨q, 0, none⟩) n n] 95 (0, 0))) (hq : IntRow q (nextsP ws) w) (hN : (nodesL ws).length = n) (hn : n ≤ 1000)
    (hW : ∀ (i : Nat) (v : Int), (trieP ws).wrd[i]? = some v → w.cell? ⟨b0, o0 + i, none⟩ = some (.int .i64 v)) (hb0 : b0 < w.heap.size)
    (ha : Boxed w ab 91 (.pointer (some ⟨g, 0, none⟩))) (hz : z < n) :
    Calls Tryz.prog 79 #[.int .i64 (z : Int), .pointer (some ⟨ab, 0, none⟩)] w fun e w' => e = .returned (.int .i64 (cnt9 ws z : Int)) ∧ Below w.heap.size w w' := by
  have hgl : g < w.heap.size := (Array.getElem?_eq_some_iff.1 hg).1
  have hql : q < w.heap.size := (Array.getElem?_eq_some_iff.1 (show w.heap[q]? = _ from hq)).1
  obtain ⟨W3, hW3⟩ : ∃ W, W = w.alloc (.cells #[.int .i64 0] 3) := ⟨_, rfl⟩
  have hb3 : Below w.heap.size w W3 := by rw [hW3]; exact below_alloc _ _
  have bC : Boxed W3 w.heap.size 3 (.int .i64 0) := by rw [hW3]; exact Boxed.new _ _ _
  have hs3 : W3.heap.size = w.heap.size + 1 := by rw [hW3]; simp
  have ha3 : Boxed W3 ab 91 (.pointer (some ⟨g, 0, none⟩)) := (hb3.block ab ha.lt).trans ha
  have ca := ha3.cell
  refine calls_of_wp_M Tryz.func79 rfl ?_
  simp only [Tryz.ntmps79, List.size_toArray, List.length_cons, List.length_nil, Nat.reduceAdd, Nat.reduceSub, Array.replicate_succ, Array.replicate_zero, List.push_toArray, List.append_toArray, List.nil_append, List.cons_append]
  go_upto_region 2 with fail
  rw [← hW3]
  clear hW3
  go_wp2_with (go_at_call 77; refine (endsc_any g z W3).mono ?_; rintro e w' ⟨rfl, rfl⟩)
  obtain ⟨W5, hW5⟩ : ∃ W, W = (W3.alloc (.cells #[.pointer (some ⟨g, 0, none⟩)] 91)).alloc (.cells #[.int .i64 (z : Int)] 3) := ⟨_, rfl⟩
  have hB35 : Below W3.heap.size W3 W5 := by rw [hW5]; exact (below_alloc _ _).alloc (by simp) _
  have h1' : Boxed W5 W3.heap.size 91 (.pointer (some ⟨g, 0, none⟩)) := by rw [hW5]; exact (Boxed.new W3 91 _).alloc _
  have h2' : Boxed W5 (W3.heap.size + 1) 3 (.int .i64 (z : Int)) := by
    rw [hW5]
    have := Boxed.new (W3.alloc (.cells #[.pointer (some ⟨g, 0, none⟩)] 91)) 3 (.int .i64 (z : Int))
    rwa [World.size_alloc] at this
  rw [← hW5]
  clear hW5
  have bC5 : Boxed W5 w.heap.size 3 (.int .i64 0) := (hB35.block _ bC.lt).trans bC
  have hB5 : Below w.heap.size w W5 := hb3.trans (hB35.mono hb3.size)
  have e1 : W5.heap[g]? = _ := (hB5.block g hgl).trans hg
  have e2 : IntRow q (nextsP ws) W5 := (hB5.block q hql).trans hq
  have hw5 : ∀ (i : Nat) (v : Int), (trieP ws).wrd[i]? = some v → W5.cell? ⟨b0, o0 + i, none⟩ = some (.int .i64 v) := fun i v hv => (hB5.cell (p := ⟨b0, o0 + i, none⟩) hb0).trans (hW i v hv)
  have hsz5 := h2'.lt
  rw [hs3] at h1' h2' hsz5
  have hps := ends_stops ws g (w.heap.size + 1) (w.heap.size + 1 + 1) q n b0 o0 xc z _ _ _ (fun k => k < W5.heap.size ∧ k ≠ w.heap.size) 8 W5 e1 e2 hN (by omega) hw5 h1' h2' ⟨⟨by omega, by omega⟩, ⟨by omega, by omega⟩, ⟨by omega, by omega⟩, ⟨by omega, by omega⟩, ⟨by omega, by omega⟩⟩ (fun k hk => hk.1) hz
  clear hg hq hW ha ha3 ca e1 e2 h1' h2' hw5 hN bC hb3 hB35
  apply rangeF rfl (enters_of Tryz.func97 (by kernel_rfl) rfl) hps keepOn_t (keepOn_b fun k hk => hk.1) (fun _ => rfl)
    (fun pre W => Boxed W w.heap.size 3 (.int .i64 ((pre.length : Nat) : Int)) ∧ Below w.heap.size w W ∧ W5.heap.size ≤ W.heap.size)
    (fun _ _ _ => False)
  case hI => exact OwnFrom.and (Own.from (boxed_own _ _ _) _) (OwnFrom.and (ownFrom_below (Nat.le_refl _) (by omega)) (own_size _ _))
  case hIx => exact fun _ _ _ _ _ hs _ _ => hs
  case h0 => exact ⟨by simpa using bC5, hB5, Nat.le_refl _⟩
  case hassign =>
    intro l x W K hK
    unfold ndEnc
    gi_wp2
    exact hK
  case hbody =>
    rintro l pre ⟨y, hy⟩ W ⟨hv, hBe, hs⟩ hlen
    dsimp only
    obtain ⟨m, hm⟩ : ∃ m, pre.length = m := ⟨_, rfl⟩
    have HM : Hid ((pre ++ [(⟨y, hy⟩ : NdP n)]).length = m + 1) := by rw [Hid, List.length_append, hm]; rfl
    have hml : m ≤ 1000000 := by omega
    rw [hm] at hv
    have c2 := hv.cell
    have c4 := hv.frozen
    have hbl := hv.lt
    clear hm
    gi_wp2
    refine ⟨(KeepsOthers.setCell W ⟨w.heap.size, 0, none⟩ (.int .i64 ((m : Int) + 1))).from _, fun k hk => Below.heap_setCell _ _ _ _ hk.2, ?_, hBe.setCell (Nat.le_refl _) _, by show W5.heap.size ≤ (W.setCell _ _).heap.size; rw [World.size_setCell]; omega⟩
    rw [HM.out]
    exact hv.set (.int .i64 ((m : Int) + 1))
  case hdone =>
    rintro D zs W hD hS ⟨hv, hBe, hs⟩ hD2
    have HZ : Hid (((zs.length : Nat) : Int) = (cnt9 ws z : Int)) := by
      unfold Hid cnt9
      rw [← hS, List.length_map]
    rw [HZ.out] at hv
    have hvb : Boxed (W.putObj D (.deferred none)) w.heap.size 3 (.int .i64 (cnt9 ws z : Int)) := (World.putObj_heap_other (by omega)).trans hv
    have c2 := hv.cell
    go_wp2
    exact endM rfl hD2 (results_tmp rfl _ _ _) ⟨rfl, put_below hBe (by omega) (Nat.le_refl _) _⟩
  case hstop => exact fun _ _ _ _ _ _ h _ => h.elim

end Go.Proofs.YtifcoalhkcflnaaGreat

/- Most (layer 9): walked. -/

namespace Go.Proofs.YtifcoalhkcflnaaGreat
open Go.RowKit Go.Sort
set_option linter.unusedVariables false
set_option linter.unusedSimpArgs false

def mostN (ws : List (List Int)) : Nat → Nat
  | 0 => 0
  | i + 1 => max (mostN ws i) (cnt9 ws i)

theorem most9_no (t : TV) (T : TrieT) (w : World) (hT : Tri w t T) (hb : t.un ≤ 140737488351232) (hr : readP T = none) :
    Calls Tryz.prog 45 #[.agg t.cells] w fun e w' => e = .returned (.int .i64 0) ∧ Below w.heap.size w w' := by
  obtain ⟨ua, un, uc, da, dn, dc, xa, xn, xc, ba, bn, bc⟩ := t
  have hB := below_alloc w (.cells #[.slice ua un uc, .slice da dn dc, .slice xa xn xc, .slice ba bn bc] 28)
  have HC := Lib.hid (read9_no _ T _ (hT.below hB) hb hr)
  clear hT hr
  go_enter Tryz.func45, Tryz.ntmps45
  go_wp2_with fail
  refine HC.out.mono ?_
  rintro e w1 ⟨rfl, hb1⟩
  go_wp2
  go_ret
  exact ⟨rfl, (hB.trans (hb1.mono hB.size)).alloc (hB.trans (hb1.mono hB.size)).size _⟩

theorem cnt9_len (ws : List (List Int)) (z : Nat) : cnt9 ws z ≤ z := endsN_len _ _ _ _
theorem mostN_le (ws : List (List Int)) : ∀ i, mostN ws i ≤ i
  | 0 => Nat.le_refl _
  | i + 1 => Nat.max_le.2 ⟨Nat.le_succ_of_le (mostN_le ws i), Nat.le_succ_of_le (cnt9_len ws i)⟩

set_option maxRecDepth 100000 in
set_option maxHeartbeats 8000000 in
theorem most9_yes (t : TV) (T : TrieT) (sp ws : List (List Int)) (w : World) (hT : Tri w t T) (hb : t.un ≤ 140737488351232) (hr : readP T = some (sp, ws)) :
    Calls Tryz.prog 45 #[.agg t.cells] w fun e w' => e = .returned (.int .i64 ((mostN ws (nodesL ws).length : Nat) : Int)) ∧ Below w.heap.size w w' := by
  obtain ⟨ua, un, uc, da, dn, dc, xa, xn, xc, ba, bn, bc⟩ := t
  obtain ⟨W, hW⟩ : ∃ W, W = w.alloc (.cells #[.slice ua un uc, .slice da dn dc, .slice xa xn xc, .slice ba bn bc] 28) := ⟨_, rfl⟩
  have hB : Below w.heap.size w W := by rw [hW]; exact below_alloc _ _
  have hQ : W.heap[w.heap.size]? = some (.cells #[.slice ua un uc, .slice da dn dc, .slice xa xn xc, .slice ba bn bc] 28 (0, 0)) := by rw [hW]; exact World.alloc_heap_new _ _
  have c0 : W.cell? ⟨w.heap.size, 0, none⟩ = some (.slice ua un uc) := by simp [World.cell?, hQ]
  have c1 : W.cell? ⟨w.heap.size, 1, none⟩ = some (.slice da dn dc) := by simp [World.cell?, hQ]
  have c2 : W.cell? ⟨w.heap.size, 2, none⟩ = some (.slice xa xn xc) := by simp [World.cell?, hQ]
  have c3 : W.cell? ⟨w.heap.size, 3, none⟩ = some (.slice ba bn bc) := by simp [World.cell?, hQ]
  have HC := Lib.hid (read9_yes _ T sp ws W (hT.below hB) hb hr)
  have HN : Hid ((nodesL ws).length ≤ 400) := read_n hr
  obtain ⟨_, hTe, _⟩ := readP_iff.1 hr
  have HWD : Hid (Sl1 (Value.int .i64) w xa xn (trieP ws).wrd) := by rw [Hid, ← hTe]; exact hT.wrd
  have hdl : (trieP ws).dep.length = dn := by rw [← hTe]; exact hT.dep.1
  have hd0 : (trieP ws).dep.length = (nodesL ws).length := by simp [trieP]
  rw [hd0] at hdl
  subst hdl
  clear hT hr hTe hd0
  go_enter Tryz.func45, Tryz.ntmps45
  go_upto_region 1 with fail
  rw [← hW]
  clear hW
  go_wp2_with fail
  refine HC.out.mono ?_
  rintro e w1 ⟨g, rfl, hAl, hb1⟩
  have hB1 := hB.trans (hb1.mono hB.size)
  clear c0 c1 c2 c3 hQ hB hb1
  go_upto_region 5 with fail
  obtain ⟨W6, hW6⟩ : ∃ W, W = w1.alloc (.cells #[.pointer (some ⟨g, 0, none⟩)] 91) := ⟨_, rfl⟩
  have hb6 : Below w1.heap.size w1 W6 := by rw [hW6]; exact below_alloc _ _
  have hA6 : Boxed W6 w1.heap.size 91 (.pointer (some ⟨g, 0, none⟩)) := by rw [hW6]; exact Boxed.new w1 91 _
  rw [← hW6]
  clear hW6
  have hB6 := hB1.trans (hb6.mono hB1.size)
  have hAl6 := hAl.below hb6
  have hl6 := hA6.lt
  obtain ⟨q, f1, f2, f3, f4⟩ := hAl6.ex
  have hxl : (trieP ws).wrd.length = xn := HWD.out.1
  rw [(wrd_len ws).1] at hxl
  subst hxl
  have hgl : g < W6.heap.size := (Array.getElem?_eq_some_iff.1 f1).1
  have c7 := hA6.cell
  have c8 : W6.cell? ⟨g, 4, none⟩ = some (.slice (some ⟨q, 0, none⟩) (nodesL ws).length (nodesL ws).length) := by simp [World.cell?, f1]
  have HA6 := Lib.hid hA6
  have HL6 := Lib.hid hAl6
  clear f1 f2 f3 f4 hAl hA6 hAl6
  obtain ⟨n, hn⟩ : ∃ n, (nodesL ws).length = n := ⟨_, rfl⟩
  have HNN := Lib.hid hn
  rw [hn] at HC HN HWD c8
  clear HC hn
  have hn4 : n ≤ 400 := HN.out
  go_wp2_with fail
  go_loopw [6, 21] (fun s6 s21 wr => ∃ i : Nat, i ≤ n ∧ s6 = .int .i64 ((mostN ws i : Nat) : Int) ∧ s21 = .int .i64 i ∧ Below W6.heap.size W6 wr) (fun _ s _ => n - (intOf s).toNat)
  case atStart => exact ⟨0, Nat.zero_le _, rfl, rfl, Below.refl _ _⟩
  case round =>
    obtain ⟨i, hi, rfl, rfl, hBe⟩ := hrel
    by_cases hil : i < n
    · have hd : decide ((i : Int) < n) = true := by simp; omega
      have hAr : Boxed wr w1.heap.size 91 (.pointer (some ⟨g, 0, none⟩)) := (hBe.block _ hl6).trans HA6.out
      have hLr := HL6.out.below hBe
      obtain ⟨q, f1, f2, _⟩ := hLr.ex
      obtain ⟨b0, o0, v0, hxa, hb0, _, _⟩ := sl1_at HWD.out hil
      subst hxa
      have hBw := hB6.trans (hBe.mono hB6.size)
      rw [HNN.out] at f1
      have HT := Lib.hid (count9_any ws g q w1.heap.size b0 o0 n xc i _ _ _ wr f1 f2 HNN.out (by have := HN.out; omega) (fun j v hv => by
            obtain ⟨b2, o2, x2, e2, hl2, cx2, hx2⟩ := sl1_at HWD.out (k := j) (by rw [← HNN.out, ← (wrd_len ws).1]; exact (List.getElem?_eq_some_iff.1 hv).1)
            injection e2 with e2
            injection e2 with e3 e4 e5
            subst e3 e4
            rw [hv] at hx2
            injection hx2 with hx2
            subst hx2
            exact (hBw.cell (p := ⟨b0, o0 + j, none⟩) hl2).trans cx2) (by have := hBw.size; omega) hAr hil)
      have hmx : max ((mostN ws i : Nat) : Int) ((cnt9 ws i : Nat) : Int) = ((mostN ws (i + 1) : Nat) : Int) := by
        show _ = ((max (mostN ws i) (cnt9 ws i) : Nat) : Int)
        omega
      clear hAr hLr f1 f2
      go_wp2_with fail
      refine HT.out.mono ?_
      rintro e w3 ⟨rfl, hB3⟩
      go_wp2
      go_roundw
      case rel => exact ⟨i + 1, by omega, by rw [← hmx], by go_num, hBe.trans (hB3.mono hBe.size)⟩
      case measure => simp [intOf]; omega
    · obtain rfl : i = n := by omega
      have hd : decide ((i : Int) < i) = false := by simp
      go_wp2
      go_ret
      refine ⟨?_, hB6.trans (hBe.mono hB6.size)⟩
      rw [HNN.out]
      rfl

end Go.Proofs.YtifcoalhkcflnaaGreat

/- Lists of numbers, tries that are the same, as the document has them (layer 7): walked. -/

namespace Go.Proofs.YtifcoalhkcflnaaGreat
open Go.RowKit Go.Sort
set_option linter.unusedVariables false
set_option linter.unusedSimpArgs false

set_option maxHeartbeats 2000000 in
theorem rints_any (a b : Option Addr) (la ca lb cb : Nat) (l m : List Int) (w : World) (hA : Sl1 (Value.int .i64) w a la l) (hB : Sl1 (Value.int .i64) w b lb m) (hla : la ≤ 4611686018427387904) :
    Calls Tryz.prog 35 #[.slice a la ca, .slice b lb cb] w fun e w' => e = .returned (.bool (decide (l = m))) ∧ Below w.heap.size w w' := by
  have HA := Lib.hid hA.1
  have HB := Lib.hid hB.1
  by_cases hl : la = lb
  · subst hl
    go_enter Tryz.func35, Tryz.ntmps35
    go_wp2
    go_loopw [5] (fun i wr => ∃ k : Nat, k ≤ la ∧ i = .int .i64 k ∧ Hid (l.take k = m.take k) ∧ Below w.heap.size w wr) (fun i _ => la - (intOf i).toNat)
    case atStart => exact ⟨0, Nat.zero_le _, rfl, by simp [Hid], Below.refl _ _⟩
    case round =>
      obtain ⟨k, hk, rfl, HK, hBe⟩ := hrel
      by_cases hlt : k < la
      · obtain ⟨b1, o1, x, rfl, hb1, x0, hx⟩ := sl1_at (hA.below hBe) hlt
        obtain ⟨b2, o2, y, rfl, hb2, y0, hy⟩ := sl1_at (hB.below hBe) hlt
        have HX := Lib.hid hx
        have HY := Lib.hid hy
        clear hx hy
        have hd : decide ((k : Int) < la) = true := by simp; omega
        by_cases h : x = y
        · have HS : Hid (l.take (k + 1) = m.take (k + 1)) := by rw [take_step HX.out, take_step HY.out, HK.out, h]; rfl
          have hdd : ((x : Int) != y) = false := by simp [h]
          clear h
          go_wp2
          go_quiet (fail)
          go_wp2
          go_roundw
          case rel => exact ⟨k + 1, by omega, by go_num, HS, hBe.trans ⟨rfl, rfl, rfl, Nat.le_refl _, fun _ _ => rfl⟩⟩
          case measure => simp [intOf]; omega
        · have HS : Hid (decide (l = m) = false) := by
            have : l ≠ m := fun e => by
              have h1 := HX.out
              rw [e, HY.out] at h1
              exact h (Option.some.inj h1).symm
            simp [Hid, this]
          have hdd : ((x : Int) != y) = true := by simp [h]
          clear h
          go_wp2
          go_quiet (fail)
          go_wp2
          go_ret
          exact ⟨by rw [HS.out]; rfl, hBe.trans ⟨rfl, rfl, rfl, Nat.le_refl _, fun _ _ => rfl⟩⟩
      · obtain rfl : k = la := by omega
        have HS : Hid (decide (l = m) = true) := by
          have h := HK.out
          rw [List.take_of_length_le (by rw [HA.out]; exact Nat.le_refl _), List.take_of_length_le (by rw [HB.out]; exact Nat.le_refl _)] at h
          simp [Hid, h]
        go_wp2
        go_ret
        exact ⟨by rw [HS.out]; rfl, hBe⟩
  · have HS : Hid (decide (l = m) = false) := by
      have : l ≠ m := fun e => hl (by rw [← HA.out, ← HB.out, e])
      simp [Hid, this]
    have hne : ((la : Int) != (lb : Int)) = true := by simp; omega
    go_enter Tryz.func35, Tryz.ntmps35
    go_wp2
    go_ret
    exact ⟨by rw [HS.out]; rfl, Below.refl _ _⟩

set_option maxHeartbeats 4000000 in
theorem rsame7_any (t v : TV) (T U : TrieT) (w : World) (hT : Tri w t T) (hU : Tri w v U) (hb : t.un ≤ 4611686018427387904 ∧ t.dn ≤ 4611686018427387904 ∧ t.xn ≤ 4611686018427387904 ∧ t.bn ≤ 4611686018427387904) :
    Calls Tryz.prog 16 #[.agg t.cells, .agg v.cells] w fun e w' => e = .returned (.bool (eqT T U)) ∧ Below w.heap.size w w' := by
  obtain ⟨ua, un, uc, da, dn, dc, xa, xn, xc, ba, bn, bc⟩ := t
  obtain ⟨va, vn, vc, ea, en, ec, ya, yn, yc, ca, cn, cc⟩ := v
  dsimp only at hb
  obtain ⟨h1, h2, h3, h4⟩ := hb
  have hB2 : Below w.heap.size w ((w.alloc (.cells #[.slice ua un uc, .slice da dn dc, .slice xa xn xc, .slice ba bn bc] 28)).alloc (.cells #[.slice va vn vc, .slice ea en ec, .slice ya yn yc, .slice ca cn cc] 28)) := ((Below.refl _ _).alloc (Nat.le_refl _) _).alloc (by simp) _
  have hO : Bx w.heap.size [.cells #[.slice ua un uc, .slice da dn dc, .slice xa xn xc, .slice ba bn bc] 28, .cells #[.slice va vn vc, .slice ea en ec, .slice ya yn yc, .slice ca cn cc] 28] ((w.alloc (.cells #[.slice ua un uc, .slice da dn dc, .slice xa xn xc, .slice ba bn bc] 28)).alloc (.cells #[.slice va vn vc, .slice ea en ec, .slice ya yn yc, .slice ca cn cc] 28)) :=
    ((Bx.nil _ w).snoc _ rfl).snoc _ (by simp)
  have hT2 := hT.below hB2
  have hU2 := hU.below hB2
  obtain ⟨TU, TD, TX, TB⟩ := T
  obtain ⟨UU, UD, UX, UB⟩ := U
  have HE : Hid (eqT ⟨TU, TD, TX, TB⟩ ⟨UU, UD, UX, UB⟩ = (decide (TU = UU) && decide (TD = UD) && decide (TX = UX) && decide (TB = UB))) := rfl
  have k1 := fun (V : World) (hV : Below ((w.alloc (.cells #[.slice ua un uc, .slice da dn dc, .slice xa xn xc, .slice ba bn bc] 28)).alloc (.cells #[.slice va vn vc, .slice ea en ec, .slice ya yn yc, .slice ca cn cc] 28)).heap.size _ V) => rints_any ua va un uc vn vc TU UU V (hT2.up.below hV) (hU2.up.below hV) h1
  have k2 := fun (V : World) (hV : Below ((w.alloc (.cells #[.slice ua un uc, .slice da dn dc, .slice xa xn xc, .slice ba bn bc] 28)).alloc (.cells #[.slice va vn vc, .slice ea en ec, .slice ya yn yc, .slice ca cn cc] 28)).heap.size _ V) => rints_any da ea dn dc en ec TD UD V (hT2.dep.below hV) (hU2.dep.below hV) h2
  have k3 := fun (V : World) (hV : Below ((w.alloc (.cells #[.slice ua un uc, .slice da dn dc, .slice xa xn xc, .slice ba bn bc] 28)).alloc (.cells #[.slice va vn vc, .slice ea en ec, .slice ya yn yc, .slice ca cn cc] 28)).heap.size _ V) => rints_any xa ya xn xc yn yc TX UX V (hT2.wrd.below hV) (hU2.wrd.below hV) h3
  have hT4 := hT2.byt
  have hU4 := hU2.byt
  generalize decide (TU = UU) = b1 at k1 HE
  generalize decide (TD = UD) = b2 at k2 HE
  generalize decide (TX = UX) = b3 at k3 HE
  have K1 := Lib.hid k1
  have K2 := Lib.hid k2
  have K3 := Lib.hid k3
  clear k1 k2 k3 hT hU hT2 hU2
  obtain ⟨W, hW⟩ : ∃ W, W = ((w.alloc (.cells #[.slice ua un uc, .slice da dn dc, .slice xa xn xc, .slice ba bn bc] 28)).alloc (.cells #[.slice va vn vc, .slice ea en ec, .slice ya yn yc, .slice ca cn cc] 28)) := ⟨_, rfl⟩
  rw [← hW] at hB2 hO K1 K2 K3 hT4 hU4
  have cells : ∀ V, Below W.heap.size W V → (V.cell? ⟨w.heap.size, 0, none⟩ = some (.slice ua un uc) ∧ V.cell? ⟨w.heap.size, 1, none⟩ = some (.slice da dn dc) ∧ V.cell? ⟨w.heap.size, 2, none⟩ = some (.slice xa xn xc) ∧ V.cell? ⟨w.heap.size, 3, none⟩ = some (.slice ba bn bc)) ∧
      (V.cell? ⟨w.heap.size + 1, 0, none⟩ = some (.slice va vn vc) ∧ V.cell? ⟨w.heap.size + 1, 1, none⟩ = some (.slice ea en ec) ∧ V.cell? ⟨w.heap.size + 1, 2, none⟩ = some (.slice ya yn yc) ∧ V.cell? ⟨w.heap.size + 1, 3, none⟩ = some (.slice ca cn cc)) := fun V hV => by
    have h := hO.below hV
    exact ⟨⟨h.cell (i := 0) rfl rfl, h.cell (i := 0) rfl rfl, h.cell (i := 0) rfl rfl, h.cell (i := 0) rfl rfl⟩, ⟨h.cell (i := 1) rfl rfl, h.cell (i := 1) rfl rfl, h.cell (i := 1) rfl rfl, h.cell (i := 1) rfl rfl⟩⟩
  have HC := Lib.hid cells
  clear cells hO
  have fin : ∀ (V : World) (b : Bool), Below W.heap.size W V → b = eqT ⟨TU, TD, TX, TB⟩ ⟨UU, UD, UX, UB⟩ → Ending.returned (.bool b) = .returned (.bool (eqT ⟨TU, TD, TX, TB⟩ ⟨UU, UD, UX, UB⟩)) ∧ Below w.heap.size w V := fun V b hV hb => ⟨by rw [hb], hB2.trans (hV.mono hB2.size)⟩
  have HFIN := Lib.hid fin
  clear fin hB2
  go_enter Tryz.func16, Tryz.ntmps16
  go_upto_region 1 with fail
  rw [← hW]
  clear hW
  obtain ⟨⟨c0, c1, c2, c3⟩, d0, d1, d2, d3⟩ := HC.out W (Below.refl _ _)
  go_wp2_with fail
  refine (K1.out W (Below.refl _ _)).mono ?_
  rintro e w1 ⟨rfl, hb1⟩
  clear c0 c1 c2 c3 d0 d1 d2 d3
  obtain ⟨⟨c0, c1, c2, c3⟩, d0, d1, d2, d3⟩ := HC.out w1 hb1
  cases b1 with
  | false =>
    go_wp2
    go_ret
    exact HFIN.out w1 false hb1 (by rw [HE.out]; rfl)
  | true =>
    go_wp2_with fail
    refine (K2.out w1 hb1).mono ?_
    rintro e w2 ⟨rfl, hb⟩
    have hb2 := hb1.trans (hb.mono hb1.size)
    clear c0 c1 c2 c3 d0 d1 d2 d3 hb
    obtain ⟨⟨c0, c1, c2, c3⟩, d0, d1, d2, d3⟩ := HC.out w2 hb2
    cases b2 with
    | false =>
      go_wp2
      go_ret
      exact HFIN.out w2 false hb2 (by rw [HE.out]; rfl)
    | true =>
      go_wp2_with fail
      refine (K3.out w2 hb2).mono ?_
      rintro e w3 ⟨rfl, hb⟩
      have hb3 := hb2.trans (hb.mono hb2.size)
      clear c0 c1 c2 c3 d0 d1 d2 d3 hb
      obtain ⟨⟨c0, c1, c2, c3⟩, d0, d1, d2, d3⟩ := HC.out w3 hb3
      cases b3 with
      | false =>
        go_wp2
        go_ret
        exact HFIN.out w3 false hb3 (by rw [HE.out]; rfl)
      | true =>
        have cv1 := conv_bys (hT4.below hb3) bc
        have cv2 := conv_bys (hU4.below hb3) cc
        have HST := Lib.hid (str_beq hT4.2 hU4.2)
        clear hT4 hU4
        go_wp2
        go_ret
        rw [HST.out]
        exact HFIN.out w3 (decide (TB = UB)) hb3 (by rw [HE.out]; rfl)

end Go.Proofs.YtifcoalhkcflnaaGreat
