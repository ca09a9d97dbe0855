/- Parts of the proof, one behind the other: A3, Ek, Pr, P3, Y3, Y4, Yp, Yq, Y7, YC, Y9, A4, P5, A5. No condition but what each theorem states. -/
import Derived.Deep.RegionHeld3
import Derived.Laws.CopyRow
import Derived.ChangeKeysEq
import Derived.Laws.StructEq
import Derived.Deep.WholeRow
import Derived.Deep.MidRow
import Derived.Laws.OwnMore
import Derived.Test.YtglfdclpjmhoiaaGreatZK1
import Derived.Test.YtglfdclpjmhoiaaGreatZK3
import Derived.Test.YtglfdclpjmhoiaaGreatZK4
import Derived.Test.YtglfdclpjmhoiaaGreatZK5
import Derived.Test.YtglfdclpjmhoiaaGreatZK6
import Derived.Test.YtglfdclpjmhoiaaGreatZK7
import Derived.Test.YtglfdclpjmhoiaaGreatZK8
set_option linter.unusedVariables false
set_option linter.unusedSimpArgs false

/- Fewer places (layer 12): do all kids find free places; walked. -/

namespace Go.Proofs.YtglfdclpjmhoiaaGreat
open Go.RowKit Go.Sort
attribute [local go_sem] Oper.semAt_some
attribute [local simp] wide_fn wide_depth
attribute [local go_sem] wide_fn wide_depth

/-- Where a table's slices lie. -/
structure SpV where
 ua : Option Addr
 un : Nat
 uc : Nat
 la : Option Addr
 ln : Nat
 lc : Nat
 ya : Option Addr
 yn : Nat
 yc : Nat
 oa : Option Addr
 on : Nat
 oc : Nat
 ka : Option Addr
 kn : Nat
 kc : Nat
 sa : Option Addr
 sn : Nat
 sc : Nat
/-- A table, read. -/
structure SpT (W : World) (T : Nat) (L : List Int) (Tr : TrieT) (t : SpV) (lk ow ki ba : List Int) : Prop where
 sk : Sk W T L (.slice t.ua t.un t.uc) (.slice t.la t.ln t.lc) (.slice t.ya t.yn t.yc) (.slice t.oa t.on t.oc) (.slice t.ka t.kn t.kc) (.slice t.sa t.sn t.sc)
 up : Sl1 (Value.int .i64) W t.ua t.un Tr.up
 lk : Sl1 (Value.int .i64) W t.la t.ln lk
 by_ : Bys W t.ya t.yn Tr.byt
 ow : Sl1 (Value.int .i64) W t.oa t.on ow
 ki : Sl1 (Value.int .i64) W t.ka t.kn ki
 ba : Sl1 (Value.int .i64) W t.sa t.sn ba
theorem SpT.below {W V : World} {T : Nat} {L : List Int} {Tr : TrieT} {t : SpV} {lk ow ki ba : List Int} (h : SpT W T L Tr t lk ow ki ba) (hb : Below W.heap.size W V) : SpT V T L Tr t lk ow ki ba :=
 ⟨h.sk.below hb, h.up.below hb, h.lk.below hb, h.by_.below hb, h.ow.below hb, h.ki.below hb, h.ba.below hb⟩
theorem sl1_blk {α : Type} {enc : α → Value} {W : World} {a : Option Addr} {n : Nat} {xs : List α} (h : Sl1 enc W a n xs) (hn : n ≠ 0) : ∀ p, a = some p → p.block < W.heap.size := fun p hp => by
 obtain ⟨b, off, e, hlt, _⟩ := h.2.resolve_left hn
 rw [e] at hp
 cases hp
 exact hlt
theorem results_bool12 {fn : Func} {p : Tmp} {tmps : Array Value} {W : World} {B : Nat} {x : Bool} (h : fn.results = #[.cell p 4]) (hp : tmps.getD p undef = .pointer (some ⟨B, 0, none⟩)) (hB : W.cell? ⟨B, 0, none⟩ = some (.bool x)) :
  (results fn tmps).run Tryz.prog W = .ok (.bool x) W := by
 have hl : (loadVar 4 ⟨B, 0, none⟩).run Tryz.prog W = .ok (.bool x) W := by go_simp
 have hp' : tmps[p]?.getD undef = .pointer (some ⟨B, 0, none⟩) := by simpa using hp
 simp [results, h, hp', asAddr, hl, Result.andThen]

set_option maxRecDepth 100000 in
set_option maxHeartbeats 8000000 in
theorem fits12_any {T : Nat} {L : List Int} {Tr : TrieT} {t : SpV} {lk ow ki ba : List Int} {many : Nat} (node : Int) (b : Nat) (w : World) (h : SpT w T L Tr t lk ow ki ba) (hn : Tr.byt.length = Tr.up.length) (hn4 : Tr.up.length ≤ 400) (hn1 : 1 ≤ Tr.up.length)
  (hL : ∀ q ∈ kidsQ L Tr node Tr.up.length, (1 ≤ q.1 ∧ q.1 < many) ∧ q.2 ≤ 1000) (hL0 : ∀ (c : Nat) (v : Int), L[c]? = some v → 0 ≤ v ∧ v ≤ 1000) (hm : many ≤ 1000) (hb : b ≤ 1000000) :
  Calls Tryz.prog 47 #[.pointer (some ⟨T, 0, none⟩), .int .i64 node, .int .i64 (b : Int)] w fun e w' => e = .returned (.bool (fitsP ow (kidsQ L Tr node Tr.up.length) b)) ∧ Below w.heap.size w w' := by
 have hun : Tr.up.length = t.un := h.up.1
 have hyn : Tr.byt.length = t.yn := h.by_.1.1
 obtain ⟨W5, hW5⟩ : ∃ X, X = ((((w.alloc (.cells #[.pointer (some ⟨T, 0, none⟩)] 37)).alloc (.cells #[.int .i64 (b : Int)] 3)).alloc (.cells #[.bool false] 4)).alloc (.cells #[.pointer (some ⟨T, 0, none⟩)] 102)).alloc (.cells #[.int .i64 node] 3) := ⟨_, rfl⟩
 have hb5 : Below w.heap.size w W5 := by rw [hW5]; exact (((((Below.refl _ _).alloc (Nat.le_refl _) _).alloc (by simp) _).alloc (by simp; omega) _).alloc (by simp; omega) _).alloc (by simp; omega) _
 have hO : Bx w.heap.size [.cells #[.pointer (some ⟨T, 0, none⟩)] 37, .cells #[.int .i64 (b : Int)] 3, .cells #[.bool false] 4, .cells #[.pointer (some ⟨T, 0, none⟩)] 102, .cells #[.int .i64 node] 3] W5 := by rw [hW5]; exact (((((Bx.nil _ w).snoc _ rfl).snoc _ (by simp)).snoc _ (by simp)).snoc _ (by simp)).snoc _ (by simp)
 have hs5 : W5.heap.size = w.heap.size + 1 + 1 + 1 + 1 + 1 := by rw [hW5]; simp
 have h5 := h.below hb5
 have hps := kids12_stops Tr T (w.heap.size + 1 + 1 + 1) (w.heap.size + 1 + 1 + 1 + 1) many node t.ua t.ya t.un t.uc t.yn t.yc _ _ _ _ L (fun k => k < W5.heap.size) 8 W5 h5.up h5.by_ hn hn4 h5.sk hL hL0 (hO 3 _ rfl) (hO 4 _ rfl)
  ⟨by omega, by omega, sl1_blk h5.up (by omega), sl1_blk h5.by_.1 (by omega)⟩ (fun k hk => hk)
 have hTl : T < w.heap.size := h.sk.lt
 have HK : Hid (∀ V, Below W5.heap.size W5 V → V.cell? ⟨w.heap.size, 0, none⟩ = some (.pointer (some ⟨T, 0, none⟩)) ∧ V.cell? ⟨w.heap.size + 1, 0, none⟩ = some (.int .i64 (b : Int)) ∧ V.heap[w.heap.size + 1 + 1]? = some (.cells #[.bool false] 4 (0, 0)) ∧ SpT V T L Tr t lk ow ki ba) := fun V hV => by
  have h := hO.below hV
  exact ⟨h.cell (i := 0) rfl rfl, h.cell (i := 1) rfl rfl, h 2 _ rfl, h5.below hV⟩
 have HB5 := Lib.hid hb5
 have HM := Lib.hid hm
 clear hO h h5 hb5 hL hL0 hn hn4 hn1 hun hyn
 refine calls_of_wp_M Tryz.func47 rfl ?_
 simp only [Tryz.ntmps47, List.size_toArray, List.length_cons, List.length_nil, Nat.reduceAdd, Nat.reduceSub, Array.replicate_succ, Array.replicate_zero, List.push_toArray, List.append_toArray, List.nil_append, List.cons_append]
 go_wp2_with (go_at_call 48; refine (kids12_any _ _ _).mono ?_; rintro e w' ⟨rfl, rfl⟩)
 rw [← hW5]
 clear hW5
 obtain ⟨KS, hKS⟩ : ∃ k, kidsQ L Tr node Tr.up.length = k := ⟨_, rfl⟩
 rw [hKS] at hps
 have HKS := Lib.hid hKS
 clear hKS
 apply rangeX rfl (enters_of Tryz.func71 (by kernel_rfl) rfl) hps (fun _ _ _ h => h.elim) ?hSk Kp12.t (Kp12.b (fun k hk => hk) (by omega)) (fun _ => rfl)
  (fun pre V => Below W5.heap.size W5 V ∧ ∀ x ∈ pre, freeP ow (b + x.1.1) = true)
  (fun c pre V => (Below w.heap.size w V ∧ V.heap[w.heap.size + 1 + 1]? = some (.cells #[.bool false] 4 (0, 0))) ∧ c = .ret ∧ ∃ x ∈ pre, freeP ow (b + x.1.1) = false)
 case wA => exact fun _ W => W
 case hwA => exact fun x W => Below.refl _ _
 case hSk => exact fun xs V l o o' _ _ _ h => h
 case hKg => exact fun x W hW => Kp12.of_below (fun k hk => Nat.lt_of_lt_of_le hk hW) (Below.refl _ _)
 case hI => exact OwnsX.and (OwnsX.below (Nat.le_refl _) (Nat.le_refl _) (fun _ _ _ h => h.elim)) (OwnsX.pure _ _ _)
 case hIx => exact fun c => OwnsX.and (OwnsX.and (OwnsX.below (by omega) (by omega) (fun _ _ _ h => h.elim)) (OwnsX.block _ _ _ _ _ _ (fun _ _ h => h))) (OwnsX.pure _ _ _)
 case h0 => exact ⟨Below.refl _ _, fun x hx => by cases hx⟩
 case hassign =>
  intro l x W K hK
  unfold ksEnc
  gi_wp2
  exact hK
 case hbody =>
  rintro l pre x Wb V hCE ⟨hBe, hfr⟩ hlen
  try dsimp only
  obtain ⟨⟨cl, kid⟩, ⟨⟨x1, x2⟩, x3⟩⟩ := x
  dsimp only at x1 x2 x3 ⊢
  have hm2 := HM.out
  obtain ⟨R, hR⟩ : ∃ R, freeP ow (b + cl) = R := ⟨_, rfl⟩
  have hcall : ∀ d os, Calls Tryz.prog 30 #[.pointer (some ⟨T, 259, none⟩), .int .i64 ((b : Int) + (cl : Int))] (grow (redrawn V d) os) fun e w' => e = .returned (.bool R) ∧ grow (redrawn V d) os = w' := fun d os => by
   have h3 := (HK.out _ (hBe.trans ((below_regrown V d os).mono hBe.size))).2.2.2
   have h := free12_any T t.on t.oc t.oa L ow _ _ _ _ _ (b + cl) (grow (redrawn V d) os) h3.sk h3.ow
   rw [hR] at h
   have e : (((b + cl : Nat)) : Int) = (b : Int) + (cl : Int) := by omega
   rwa [e] at h
  obtain ⟨q0, q1, q2, _⟩ := HK.out V hBe
  have hl0 : w.heap.size < V.heap.size := by have := hBe.size; omega
  have hl1 : w.heap.size + 1 < V.heap.size := by have := hBe.size; omega
  have hG2 : ∀ d os, (grow (redrawn V d) os).cell? ⟨w.heap.size, 0, none⟩ = some (.pointer (some ⟨T, 0, none⟩)) := fun d os => ((below_regrown V d os).cell (p := ⟨w.heap.size, 0, none⟩) hl0).trans q0
  have hC2 : ∀ d os, (grow (redrawn V d) os).cell? ⟨w.heap.size + 1, 0, none⟩ = some (.int .i64 (b : Int)) := fun d os => ((below_regrown V d os).cell (p := ⟨w.heap.size + 1, 0, none⟩) hl1).trans q1
  have HFR := Lib.hid hfr
  have HBE := Lib.hid hBe
  have HQ2 := Lib.hid q2
  have HR := Lib.hid hR
  clear hfr hBe q2 hR
  cases R with
  | true =>
   gi_wp2
   refine regionR_below (wideR _ _ _) mixed (by kernel_rfl) (by kernel_rfl) ?_
   repeat (go_big_quiet_step (exact grown_same (hcall _ _)))
   refine wpQuiet_nil ?_
   rintro _ ⟨⟨dq, osq⟩, rfl⟩
   have hb0 := below_regrown V dq osq
   gi_wp2
   exact ⟨keepsFrom_of_below hb0, Kp12.of_below (fun k hk => Nat.lt_of_lt_of_le hk HBE.out.size) hb0, HBE.out.trans (hb0.mono HBE.out.size), fun y hy => by
    rcases List.mem_append.1 hy with h | h
    · exact HFR.out y h
    ·
     rw [List.mem_singleton] at h
     rw [h]
     exact HR.out⟩
  | false =>
   gi_wp2
   refine regionR_below (wideR _ _ _) mixed (by kernel_rfl) (by kernel_rfl) ?_
   repeat (go_big_quiet_step (exact grown_same (hcall _ _)))
   refine wpQuiet_nil ?_
   rintro _ ⟨⟨dq, osq⟩, rfl⟩
   have hb0 := below_regrown V dq osq
   have hR5 : Boxed (grow (redrawn V dq) osq) (w.heap.size + 1 + 1) 4 (.bool false) := (hb0.block _ (Array.getElem?_eq_some_iff.1 HQ2.out).1).trans HQ2.out
   have d1 := hR5.cell
   have d2 := hR5.frozen
   have d3 := hR5.lt
   have hB6 := HB5.out.trans ((HBE.out.trans (hb0.mono HBE.out.size)).mono HB5.out.size)
   have kO := (keepsFrom_of_below (B := W5.heap.size) hb0).trans ((KeepsOthers.setCell (grow (redrawn V dq) osq) ⟨w.heap.size + 1 + 1, 0, none⟩ (.bool false)).from W5.heap.size)
   have bR6 := hR5.set (.bool false)
   gi_wp2
   exact ⟨kO, ⟨hB6.setCell (by show w.heap.size ≤ w.heap.size + 1 + 1; omega) _, bR6⟩, rfl, _, List.mem_append_right _ (List.mem_singleton.2 rfl), HR.out⟩
 case hdone =>
  rintro D zs V hD hS ⟨hBe, hfr⟩ hD2
  obtain ⟨_, _, q2, _⟩ := HK.out V hBe
  have hR5 : Boxed V (w.heap.size + 1 + 1) 4 (.bool false) := q2
  have d1 := hR5.cell
  have d2 := hR5.frozen
  have d3 := hR5.lt
  have bR6 := hR5.set (.bool true)
  have hB6 : Below w.heap.size w (V.setCell ⟨w.heap.size + 1 + 1, 0, none⟩ (.bool true)) := (HB5.out.trans (hBe.mono HB5.out.size)).setCell (by show w.heap.size ≤ w.heap.size + 1 + 1; omega) _
  have hD3 : (V.setCell ⟨w.heap.size + 1 + 1, 0, none⟩ (.bool true)).heap[D]? = some (.deferred (some [])) := (Below.heap_setCell _ _ _ _ (by show D ≠ w.heap.size + 1 + 1; omega)).trans hD2
  have HF : Hid (fitsP ow (kidsQ L Tr node Tr.up.length) b = true) := by
   rw [Hid, HKS.out, ← hS]
   unfold fitsP
   rw [List.all_eq_true]
   intro q hq
   obtain ⟨x, hx, rfl⟩ := List.mem_map.1 hq
   exact hfr x hx
  clear hfr hS q2
  go_wp2
  refine endM rfl hD3 (results_bool12 rfl rfl ((World.cell?_of_block (a := ⟨w.heap.size + 1 + 1, 0, none⟩) (World.putObj_heap_other (by show w.heap.size + 1 + 1 ≠ D; omega))).trans bR6.cell)) ⟨by rw [HF.out], put_below hB6 (by omega) (Nat.le_refl _) _⟩
 case hstop =>
  rintro D c' pre V hD ⟨r, hr⟩ ⟨⟨hBw, hq⟩, rfl, x, hx, hno⟩ hD2
  have HF : Hid (fitsP ow (kidsQ L Tr node Tr.up.length) b = false) := by
   rw [Hid, HKS.out, hr]
   unfold fitsP
   rw [List.all_eq_false]
   exact ⟨x.1, List.mem_append_left _ (List.mem_map.2 ⟨x, hx, rfl⟩), by rw [hno]; simp⟩
  have bR : Boxed V (w.heap.size + 1 + 1) 4 (.bool false) := hq
  clear hr hx hno hq
  go_wp2
  refine endM rfl hD2 (results_bool12 rfl rfl ((World.cell?_of_block (a := ⟨w.heap.size + 1 + 1, 0, none⟩) (World.putObj_heap_other (by show w.heap.size + 1 + 1 ≠ D; omega))).trans bR.cell)) ⟨by rw [HF.out], put_below hBw (by omega) (Nat.le_refl _) _⟩
end Go.Proofs.YtglfdclpjmhoiaaGreat

/- Cells that stay, whatever the other objects do. -/

namespace Go.Proofs.YtglfdclpjmhoiaaGreat
open Go.RowKit Go.Sort

/-- Blocks of cells stay. -/
def CellsK (W V : World) : Prop := W.heap.size ≤ V.heap.size ∧ ∀ (k : Nat) (cs : Array Value) (t : TypeId) (f : Nat × Nat), W.heap[k]? = some (Obj.cells cs t f) → V.heap[k]? = some (Obj.cells cs t f)
theorem CellsK.cell {W V : World} (h : CellsK W V) {a : Addr} {v : Value} (hc : W.cell? a = some v) : V.cell? a = some v := by
 cases ho : W.heap[a.block]? with
 | none => simp [World.cell?, ho] at hc
 | some o =>
  cases o with
  | cells cs t f =>
   rw [← hc]
   exact World.cell?_of_block ((h.2 _ _ _ _ ho).trans ho.symm)
  | _ => simp [World.cell?, ho] at hc
theorem CellsK.sl1 {α : Type} {enc : α → Value} {W V : World} (h : CellsK W V) {a : Option Addr} {n : Nat} {xs : List α} (hs : Sl1 enc W a n xs) : Sl1 enc V a n xs :=
 ⟨hs.1, hs.2.imp id fun ⟨b, off, e, hlt, hc⟩ => ⟨b, off, e, Nat.lt_of_lt_of_le hlt h.1, fun i x hx => h.cell (hc i x hx)⟩⟩
end Go.Proofs.YtglfdclpjmhoiaaGreat

/- A drawn region in a round of the wide fence, walked with held cells. -/

namespace Go.Proofs.YtglfdclpjmhoiaaGreat
open Go.RowKit Go.Sort

section inround
variable {P : Program} {ops : Array Oper} {Q Q' : Exit → Act → World → Prop} {md : Region.Mode} {n l : Nat}

theorem rowsR_of_rows {row : String} {args : Array Value} {w : World} {R : Value → World → Prop} (h : Rows P row args w R) : RowsIn (Fence.wide.inRound l) n P row args w R :=
 fun c cs _ => let ⟨v, w', r, s⟩ := h c cs; ⟨v, w', r, stepsIn_wide.2 s⟩

theorem operR_of_oper {o : Oper} {a : Act} {w : World} {K : Act → World → Prop} (hnd : ∀ c, o.op ≠ .defer c) (hq : ∀ e a w, Q e a w → Q' e a w) (hl : ¬ LetsOut Q)
  (h : o.wp P a w K Q) : o.wpIn (Fence.wide.inRound l) n P a w K Q' := by
 unfold Oper.wp at h
 unfold Oper.wpIn
 refine ⟨fun f _ => trivial, ?_⟩
 rw [Oper.semAt_eq _ _ _ hnd]
 generalize (execOp a.eval o).run P w = r at *
 cases r with
 | ok x w' =>
  cases x <;> simp only [Oper.upon] at h <;> simp only [Oper.uponIn]
  case value u => exact h
  case skip => exact h
  case defer d => exact h
  case enter f args =>
   refine ⟨(fun hd => by cases hd), (callsIn_wide (n := n - 1)).2 (h.mono fun e w'' he => ?_)⟩
   cases e with
   | returned u => exact he
   | panicked c => exact hq _ _ _ he
   | outgrown => exact absurd he hl
  case row row args => exact ⟨(fun hd => by cases hd), rowsR_of_rows h⟩
 | halt x w' =>
  cases x <;> simp only [Oper.upon] at h <;> simp only [Oper.uponIn]
  case panic u => exact hq _ _ _ h

theorem anyR_of_any (hnd : noDefer ops = true) (hq : ∀ e a w, Q e a w → Q' e a w) (hl : ¬ LetsOut Q) : ∀ (fuel : Nat) (listed : Array Bool) (a : Act) (w : World),
  wpAny P md ops Q fuel listed a w → wpAnyIn (Fence.wide.inRound l) n P md ops Q' fuel listed a w
 | 0, _, _, _, h => ⟨h.1, hq _ _ _ h.2⟩
 | fuel + 1, listed, a, w, h => by
  refine ⟨fun h0 => hq _ _ _ (h.1 h0), fun i hi => ?_⟩
  have h1 := wpOp_mono (fun a' w' h' => anyR_of_any hnd hq hl fuel _ a' w' h') (h.2 i hi)
  unfold wpOp at h1
  unfold wpOpIn
  split
  · rename_i ho; simp only [ho] at h1; exact h1
  ·
   rename_i o ho
   simp only [ho] at h1
   split
   ·
    rename_i hw
    simp only [hw, if_true] at h1
    rcases h1 with h1 | ⟨_, h1⟩
    · exact operR_of_oper (noDefer_spec hnd ho) hq hl h1
    · exact absurd h1 hl
   ·
    rename_i hw
    simp only [hw] at h1
    exact ⟨fun f _ => trivial, h1⟩

/-- A region that is shown to come to its end: nothing else is let out. -/
def OnlyN (Q : Exit → Act → World → Prop) : Exit → Act → World → Prop
 | .normal, a, w => Q .normal a w
 | _, _, _ => False
theorem OnlyN.normal {a : Act} {w : World} (h : Q .normal a w) : OnlyN Q .normal a w := h
theorem OnlyN.imp : ∀ (e : Exit) (a : Act) (w : World), OnlyN Q e a w → Q e a w := fun e a w h => by
 cases e <;> first | exact h | exact absurd h id
theorem onlyN_holds : ¬ LetsOut (OnlyN Q) := fun ⟨_, _, h⟩ => h

theorem regionR_held_drew {S : World → Prop} {id : Nat} {a : Act} {w : World} (hm : P.follows .mixedOrders = true) (hnd : noDefer ops = true) (hS : S w.drew)
  (h : S w.drew → wpAnyH P .any ops (OnlyN Q) S ops.size (Array.replicate ops.size false) a w.drew) : (Code.region id ops true).wpIn (Fence.wide.inRound l) n P Q a w :=
 wpIn_region_any hm (anyR_of_any hnd OnlyN.imp onlyN_holds _ _ _ _ (wpAny_of_held _ _ _ _ (h hS)))

theorem oper_append_slK (w : World) {o : Oper} {a : Act} {K : Act → World → Prop} (s x : Operand) (t : TypeId)
  (hop : o.op = .call { callee := .builtin .append, args := #[s, x], argTypes := #[t, t] })
  (base : Nat) (e : TypeId) (i : TypeInfo) (z : Value) (size bytes : Nat) (ht : P.underlying t = some (.slice e)) (hi : P.info? e = some i) (hz : i.zero = some z) (hsize : i.size = size) (hby : i.bytes = bytes) (hzs : z.cells.size = size) (hsz : 0 < size)
  (v : Value) (n : Nat) (xs : List Value) (hs : a.eval s = v) (hown : w.ownsRow base e size v n xs) (A : Option Addr) (m c : Nat) (cs : List Value) (hx : a.eval x = .slice A m c) (hsl : SlK size w A m cs) (hone : ∀ u ∈ cs, u.oneCell' = true)
  (h63 : n + m ≤ maxLen) (hbytes : (n + m) * bytes ≤ 140737488355328) (hbase : base ≤ w.heap.size)
  (h : ∀ v' w', w'.ownsRow base e size v' (n + m) (xs ++ cs) → w.grownBy w' v.ownBlock → (v'.ownBlock = v.ownBlock ∨ v'.ownBlock = some w.heap.size) → K (a.put o.dst v') w') : o.wp P a w K Q := by
 obtain ⟨v', w', hrun, r1, r2, r3⟩ := run_append_slK (P := P) w base t o.type e i z size bytes ht hi hz hsize hby hzs hsz v n xs hown A m c cs hsl hone h63 hbytes hbase
 unfold Oper.wp
 simp [execOp, hop, resolve, invoke, builtin, hs, hx, hrun, Result.andThen]
 exact h v' w' r1 r2 r3
theorem wanted_step {c : Bool} {p q : Prop} (hc : c = true) (h : p) : if c = true then p else q := by rw [if_pos hc]; exact h
end inround
end Go.Proofs.YtglfdclpjmhoiaaGreat

/- Nodes' words (layer 9): is, Next, Chain, walked. -/

namespace Go.Proofs.YtglfdclpjmhoiaaGreat
open Go.RowKit Go.Sort
attribute [local go_sem] Oper.semAt_some
attribute [local simp] wide_fn wide_depth
attribute [local go_sem] wide_fn wide_depth

/-- A box that holds a row of numbers of the call's own, which lies in none of some blocks. -/
def HoldsX (b base : Nat) (ps : Nat → Prop) (l : List Int) (W : World) : Prop := ∃ v, Boxed W b 32 v ∧ OwnI W base v l ∧ ∀ k, ps k → v.ownBlock ≠ some k
theorem slk_new (W : World) (z : Int) : SlK 1 (W.alloc (.cells #[.int .i64 z] 3)) (some ⟨W.heap.size, 0, none⟩) 1 [.int .i64 z] :=
 ⟨rfl, .inr ⟨_, _, rfl, by simp, fun i u hu => by
  have := cells_new (w := W) #[.int .i64 z] 3 rfl i u (by simpa using hu)
  rwa [add_plain] at this⟩⟩
end Go.Proofs.YtglfdclpjmhoiaaGreat

/- Tables (layer 11): a node's row is filled; walked. Printed by exp.py. -/

namespace Go.Proofs.YtglfdclpjmhoiaaGreat
open Go.RowKit Go.Sort

theorem IntRow.cell {g : Nat} {l : List Int} {W : World} (h : IntRow g l W) {i : Nat} {v : Int} (hv : l[i]? = some v) : W.cell? ⟨g, i, none⟩ = some (.int .i64 v) := by
 rw [cell_of_row W g i _ _ _ h]
 simp [hv]
theorem IntRow.frozen {g : Nat} {l : List Int} {W : World} (h : IntRow g l W) (i : Nat) : W.frozen? ⟨g, i, none⟩ = false := by
 have h2 : W.heap[g]? = some (.cells (l.map (Value.int .i64)).toArray 3 (0, 0)) := h
 simp [World.frozen?, h2]
theorem IntRow.lt {g : Nat} {l : List Int} {W : World} (h : IntRow g l W) : g < W.heap.size := (Array.getElem?_eq_some_iff.1 h).1
end Go.Proofs.YtglfdclpjmhoiaaGreat

/- Tables (layer 11): a node's row is filled; walked. Printed by exp.py. -/

namespace Go.Proofs.YtglfdclpjmhoiaaGreat
open Go.RowKit Go.Sort
attribute [local go_sem] Oper.semAt_some
attribute [local simp] wide_fn wide_depth
attribute [local go_sem] wide_fn wide_depth

theorem mul_fit {many n k : Nat} (h : k < n) : k * many + many ≤ many * n := by
 have h1 : (k + 1) * many ≤ n * many := Nat.mul_le_mul_right _ h
 rw [Nat.succ_mul, Nat.mul_comm n many] at h1
 exact h1
/-- A trie's rows lie below a block. -/
def lowT (t : TV) (R : Nat) : Prop := ∀ a, (t.ua = some a ∨ t.da = some a ∨ t.xa = some a ∨ t.ba = some a) → a.block < R
theorem Sl1.keep {α : Type} {enc : α → Value} {R : Nat} {W V : World} {a : Option Addr} {n : Nat} {xs : List α} (h : Sl1 enc W a n xs) (hb : Below R W V) (hR : R ≤ W.heap.size) (hl : ∀ x, a = some x → x.block < R) : Sl1 enc V a n xs := by
 refine ⟨h.1, ?_⟩
 rcases h.2 with h0 | ⟨b, off, e, hlt, hc⟩
 · exact .inl h0
 · exact .inr ⟨b, off, e, Nat.lt_of_lt_of_le hlt hb.size, fun i x hx => (World.cell?_of_block (hb.block b (hl _ e))).trans (hc i x hx)⟩
theorem Tri.keep {R : Nat} {W V : World} {t : TV} {T : TrieT} (h : Tri W t T) (hb : Below R W V) (hR : R ≤ W.heap.size) (hl : lowT t R) : Tri V t T :=
 ⟨h.up.keep hb hR (fun a e => hl a (.inl e)), h.dep.keep hb hR (fun a e => hl a (.inr (.inl e))), h.wrd.keep hb hR (fun a e => hl a (.inr (.inr (.inl e)))), ⟨h.byt.1.keep hb hR (fun a e => hl a (.inr (.inr (.inr e)))), h.byt.2⟩, h.cap⟩
end Go.Proofs.YtglfdclpjmhoiaaGreat

/- Tables (layer 11): plain: the classes of words' bytes. -/

namespace Go.Proofs.YtglfdclpjmhoiaaGreat

/-- A byte has a class of its own. -/
def ownB (p : Int → Bool) (fold : Bool) (j : Nat) : Prop := p j = true ∧ (fold && smallI j) = false
theorem many_mono (p : Int → Bool) (fold : Bool) {j : Nat} : ∀ {i : Nat}, j ≤ i → (clsN p fold j).2 ≤ (clsN p fold i).2
 | 0, h => by rw [Nat.le_zero.1 h]; exact Nat.le_refl _
 | i + 1, h => by
  by_cases e : j = i + 1
  · rw [e]; exact Nat.le_refl _
  ·
   have ih := many_mono p fold (j := j) (i := i) (by omega)
   rw [clsN_succ]
   split
   · exact ih
   ·
    split
    · exact ih
    · exact Nat.le_succ_of_le ih
theorem many_own {p : Int → Bool} {fold : Bool} {j : Nat} (h : ownB p fold j) : (clsN p fold (j + 1)).2 = (clsN p fold j).2 + 1 := by
 rw [clsN_succ, if_neg (by rw [h.1]; decide), if_neg (by rw [h.2]; decide)]
theorem many_lt {p : Int → Bool} {fold : Bool} {j i : Nat} (h : ownB p fold j) (hj : j < i) : (clsN p fold j).2 < (clsN p fold i).2 := by
 have h1 := many_own h
 have h2 := many_mono p fold (j := j + 1) (i := i) hj
 omega
theorem cls_own {p : Int → Bool} {fold : Bool} {j i : Nat} (h : ownB p fold j) (hj : j < i) : (clsN p fold i).1[j]? = some ((clsN p fold j).2 : Int) := by
 rw [cls_at p fold hj, if_neg (by rw [h.1]; decide), if_neg (by rw [h.2]; decide)]
theorem cls_no {p : Int → Bool} {fold : Bool} {j i : Nat} (h : p j = false) (hj : j < i) : (clsN p fold i).1[j]? = some 0 := by
 rw [cls_at p fold hj, if_pos h]
/-- The byte of whose class a byte is. -/
def repB (fold : Bool) (c : Nat) : Nat := if (fold && smallI c) = true then c - 32 else c
/-- A great letter's small one is of its class. -/
def Shut (p : Int → Bool) (fold : Bool) : Prop := ∀ j : Nat, (fold && smallI j) = true → p j = p ((j - 32 : Nat) : Int)
theorem rep_own {p : Int → Bool} {fold : Bool} (hp : Shut p fold) {c : Nat} (h : p c = true) : ownB p fold (repB fold c) := by
 unfold repB
 split
 ·
  rename_i hs
  refine ⟨by rw [← hp c hs]; exact h, ?_⟩
  have h2 : smallI c = true := by rw [Bool.and_eq_true] at hs; exact hs.2
  unfold smallI at h2 ⊢
  rw [decide_eq_true_iff] at h2
  have : ¬ (97 ≤ ((c - 32 : Nat) : Int) ∧ ((c - 32 : Nat) : Int) ≤ 122) := by omega
  rw [decide_eq_false this, Bool.and_false]
 ·
  rename_i hs
  exact ⟨h, by simpa using hs⟩
theorem rep_le (fold : Bool) (c : Nat) : repB fold c ≤ c := by unfold repB; split <;> omega
/-- The class of a byte that is one of a set's. -/
def clsO (p : Int → Bool) (fold : Bool) (c : Nat) : Nat := (clsN p fold (repB fold c)).2
theorem cls_rep {p : Int → Bool} {fold : Bool} (hp : Shut p fold) {c i : Nat} (h : p c = true) (hc : c < i) : (clsN p fold i).1[c]? = some (clsO p fold c : Int) := by
 have ho := rep_own hp h
 unfold clsO
 by_cases hs : (fold && smallI c) = true
 ·
  rw [cls_at p fold hc, if_neg (by rw [h]; decide), if_pos hs]
  have e : repB fold c = c - 32 := by unfold repB; rw [if_pos hs]
  rw [e] at ho ⊢
  have h2 : smallI c = true := by rw [Bool.and_eq_true] at hs; exact hs.2
  unfold smallI at h2
  rw [decide_eq_true_iff] at h2
  rw [cls_own ho (by omega)]
  rfl
 ·
  have e : repB fold c = c := by unfold repB; rw [if_neg hs]
  rw [e] at ho ⊢
  exact cls_own ho hc
theorem clsO_pos (p : Int → Bool) (fold : Bool) (c : Nat) : 1 ≤ clsO p fold c := (clsN_many p fold _).1
theorem clsO_lt {p : Int → Bool} {fold : Bool} (hp : Shut p fold) {c i : Nat} (h : p c = true) (hc : c < i) : clsO p fold c < (clsN p fold i).2 := many_lt (rep_own hp h) (Nat.lt_of_le_of_lt (rep_le fold c) hc)
theorem clsO_inj {p : Int → Bool} {fold : Bool} (hp : Shut p fold) {c d : Nat} (hc : p c = true) (hd : p d = true) (h : clsO p fold c = clsO p fold d) : repB fold c = repB fold d := by
 have h1 := rep_own hp hc
 have h2 := rep_own hp hd
 unfold clsO at h
 rcases Nat.lt_trichotomy (repB fold c) (repB fold d) with h3 | h3 | h3
 · have := many_lt h1 h3; omega
 · exact h3
 · have := many_lt h2 h3; omega

/-- A byte stands in a word. -/
def wordB (ws : List (List Int)) (c : Int) : Prop := ∃ w ∈ ws, c ∈ w
theorem inB_word {fold : Bool} {ws : List (List Int)} {c : Int} (h : wordB ws c) : inB fold ws c = true := by
 obtain ⟨w, h1, h2⟩ := h
 unfold inB
 rw [List.any_eq_true]
 exact ⟨w, h1, by rw [List.any_eq_true]; exact ⟨c, h2, by simp⟩⟩
theorem inB_iff {fold : Bool} {ws : List (List Int)} {c : Int} : inB fold ws c = true ↔ ∃ x, wordB ws x ∧ (x = c ∨ fold = true ∧ smallI x = true ∧ x - 32 = c) := by
 unfold inB
 rw [List.any_eq_true]
 constructor
 ·
  rintro ⟨w, h1, h2⟩
  rw [List.any_eq_true] at h2
  obtain ⟨x, h3, h4⟩ := h2
  refine ⟨x, ⟨w, h1, h3⟩, ?_⟩
  rw [Bool.or_eq_true, Bool.and_eq_true, Bool.and_eq_true, decide_eq_true_iff, decide_eq_true_iff] at h4
  rcases h4 with h4 | ⟨⟨h4, h5⟩, h6⟩
  · exact .inl h4
  · exact .inr ⟨h4, h5, h6⟩
 ·
  rintro ⟨x, ⟨w, h1, h2⟩, h3⟩
  refine ⟨w, h1, ?_⟩
  rw [List.any_eq_true]
  refine ⟨x, h2, ?_⟩
  rw [Bool.or_eq_true, Bool.and_eq_true, Bool.and_eq_true, decide_eq_true_iff, decide_eq_true_iff]
  rcases h3 with h3 | ⟨h3, h4, h5⟩
  · exact .inl h3
  · exact .inr ⟨⟨h3, h4⟩, h5⟩
/-- Words that are folded have no great letters. -/
def noGreat (fold : Bool) (ws : List (List Int)) : Prop := fold = true → ∀ x, wordB ws x → ¬ (65 ≤ x ∧ x ≤ 90)
theorem noGreat_of {fold : Bool} {ws : List (List Int)} (hw : ∀ w ∈ ws, foldL fold w = w) : noGreat fold ws := by
 rintro rfl x ⟨w, h1, h2⟩ hx
 have h := hw w h1
 unfold foldL at h
 rw [if_pos rfl] at h
 obtain ⟨i, hi⟩ := List.getElem?_of_mem h2
 have h3 := congrArg (fun l => l[i]?) h
 simp only [List.getElem?_map, hi, Option.map_some] at h3
 have h4 : foldI x = x := Option.some.inj h3
 unfold foldI at h4
 rw [if_pos hx] at h4
 omega
theorem inB_shut {fold : Bool} {ws : List (List Int)} (hg : noGreat fold ws) : Shut (inB fold ws) fold := by
 intro j hj
 rw [Bool.and_eq_true] at hj
 obtain ⟨rfl, hs⟩ := hj
 have hs2 := hs
 unfold smallI at hs2
 rw [decide_eq_true_iff] at hs2
 rw [Bool.eq_iff_iff, inB_iff, inB_iff]
 constructor
 ·
  rintro ⟨x, h1, h2⟩
  refine ⟨j, ?_, .inr ⟨rfl, hs, by omega⟩⟩
  rcases h2 with rfl | ⟨_, h3, h4⟩
  · exact h1
  ·
   unfold smallI at h3
   rw [decide_eq_true_iff] at h3
   omega
 ·
  rintro ⟨x, h1, h2⟩
  have hx := hg rfl x h1
  rcases h2 with h2 | ⟨_, h3, h4⟩
  · omega
  ·
   obtain rfl : x = j := by omega
   exact ⟨_, h1, .inl rfl⟩
/-- Two bytes of words that are of one class are one. -/
theorem word_inj {fold : Bool} {ws : List (List Int)} (hg : noGreat fold ws) {c d : Nat} (hc : wordB ws c) (hd : wordB ws d) (h : clsO (inB fold ws) fold c = clsO (inB fold ws) fold d) : c = d := by
 have h1 := clsO_inj (inB_shut hg) (inB_word hc) (inB_word hd) h
 unfold repB at h1
 cases fold with
 | false => simpa using h1
 | true =>
  have g1 := hg rfl c hc
  have g2 := hg rfl d hd
  unfold smallI at h1
  simp only [Bool.true_and, decide_eq_true_iff] at h1
  split at h1 <;> split at h1 <;> omega
end Go.Proofs.YtglfdclpjmhoiaaGreat

/- Tables (layer 11): plain: what a row holds that is filled. -/

namespace Go.Proofs.YtglfdclpjmhoiaaGreat
open Go Go.RowKit Go.Sort

/-- Where one goes on. -/
def goesV (ws : List (List Int)) (x : List Int) (c : Int) : Int := placeS (nodesL ws) (lsf (nodesL ws) (x ++ [c]))
theorem node_word {ws : List (List Int)} {x : List Int} {c : Int} (h : x ++ [c] ∈ nodesL ws) : wordB ws c := by
 rcases (mem_nodesL ws).1 h with h | ⟨w, hw, k, _, _, he⟩
 · simp at h
 · exact ⟨w, hw, List.mem_of_mem_take (i := k) (by rw [← he]; simp)⟩
/-- A node's kids, each with the class of its byte. -/
theorem mem_kidsQ {fold : Bool} {ws : List (List Int)} (hg : noGreat fold ws) (hb : ∀ x, wordB ws x → 0 ≤ x ∧ x ≤ 255) {i : Nat} {x : List Int} (hx : (nodesL ws)[i]? = some x) {q : Nat × Nat} :
  q ∈ kidsQ (clsP fold ws) (trieP ws) (i : Int) (nodesL ws).length ↔ ∃ (c j : Nat), (nodesL ws)[j]? = some (x ++ [(c : Int)]) ∧ q = (clsO (inB fold ws) fold c, j) := by
 have hnd := (nodesL_srt ws).nodup
 have hcl : ∀ c : Nat, wordB ws (c : Int) → (clsP fold ws)[c]? = some (clsO (inB fold ws) fold c : Int) := fun c hc => cls_rep (inB_shut hg) (inB_word hc) (by have := hb _ hc; omega)
 unfold kidsQ
 rw [List.mem_map]
 constructor
 ·
  rintro ⟨⟨b, j⟩, hp, rfl⟩
  obtain ⟨h1, h2, h3, h4⟩ := mem_kidsA.1 hp
  dsimp only at h1 h2 h3 h4
  obtain ⟨y, hy⟩ : ∃ y, (nodesL ws)[j]? = some y := ⟨(nodesL ws)[j]'h2, by simp⟩
  obtain ⟨u1, u2, _⟩ := trie_row hy
  rw [u1] at h3
  rw [u2, Option.getD_some] at h4
  have hy0 : y ≠ [] := fun e2 => by have := (node_zero hy).2 e2; omega
  obtain ⟨k, hk⟩ := List.getElem?_of_mem (up_mem (List.mem_of_getElem? hy))
  have hp2 := placeS_at hnd hk
  have hki : k = i := by have := Option.some.inj h3; omega
  subst hki
  rw [hx] at hk
  have hxy : y = x ++ [b] := by rw [Option.some.inj hk, h4]; exact snoc_last hy0
  subst hxy
  have hw := node_word (List.mem_of_getElem? hy)
  have hbb := hb _ hw
  obtain ⟨c, rfl⟩ : ∃ c : Nat, b = (c : Int) := ⟨b.toNat, by omega⟩
  refine ⟨c, j, hy, ?_⟩
  rw [Int.toNat_natCast, hcl c hw, Option.getD_some, Int.toNat_natCast]
 ·
  rintro ⟨c, j, hj, rfl⟩
  have hw := node_word (List.mem_of_getElem? hj)
  refine ⟨((c : Int), j), mem_kidsA.2 ?_, ?_⟩
  ·
   obtain ⟨u1, u2, _⟩ := trie_row hj
   rw [u1, u2, List.dropLast_concat]
   have hl := (List.getElem?_eq_some_iff.1 hj).1
   refine ⟨?_, hl, ?_, ?_⟩
   ·
    have h0 : j ≠ 0 := fun e => by have := (node_zero hj).1 e; simp at this
    show 1 ≤ j
    omega
   · rw [placeS_at hnd hx]
   ·
    show (c : Int) = _
    simp [lastB]
  ·
   dsimp only
   rw [Int.toNat_natCast, hcl c hw, Option.getD_some, Int.toNat_natCast]
theorem up_len (ws : List (List Int)) : (trieP ws).up.length = (nodesL ws).length := by simp [trieP]
theorem link_low {ws : List (List Int)} {i : Nat} {x : List Int} (hx : (nodesL ws)[i]? = some x) (h0 : i ≠ 0) : ∃ k : Nat, (linksP ws)[i]? = some (k : Int) ∧ k < i ∧ (nodesL ws)[k]? = some (linkL (nodesL ws) x) := by
 obtain ⟨k, h1, h2⟩ := linkI_at (ws := ws) x
 refine ⟨k, by rw [linksP_at hx, h1], ?_, h2⟩
 exact idx_len hx h2 (linkL_len (fun e => h0 ((node_zero hx).2 e)))
end Go.Proofs.YtglfdclpjmhoiaaGreat

/- Tables (layer 11): bytes, one behind the other; walked. -/

namespace Go.Proofs.YtglfdclpjmhoiaaGreat
open Go.RowKit Go.Sort

/-- A table that leads from each of its nodes, by each byte, to one of them. -/
structure Led (L F : List Int) (m n : Nat) : Prop where
 cls : ∀ c : Nat, c < 256 → ∃ v : Nat, L[c]? = some (v : Int) ∧ v < m
 row : ∀ p : Nat, p < m * n → ∃ x : Nat, F[p]? = some (x : Int) ∧ x < n
/-- Where a table leads by a byte. -/
def goB (L F : List Int) (m j : Nat) (c : Int) : Nat := ((F[j * m + ((L[c.toNat]?).getD 0).toNat]?).getD 0).toNat
def runB (L F : List Int) (m j : Nat) (bs : List Int) : Nat := bs.foldl (goB L F m) j
theorem Led.go {L F : List Int} {m n : Nat} (h : Led L F m n) {j c : Nat} (hj : j < n) (hc : c < 256) : ∃ v : Nat, L[c]? = some (v : Int) ∧ v < m ∧ F[j * m + v]? = some (goB L F m j (c : Int) : Int) ∧ goB L F m j (c : Int) < n := by
 obtain ⟨v, h1, h2⟩ := h.cls c hc
 have hfit := mul_fit (many := m) hj
 obtain ⟨x, h3, h4⟩ := h.row (j * m + v) (by omega)
 have e : goB L F m j (c : Int) = x := by unfold goB; rw [Int.toNat_natCast, h1, Option.getD_some, Int.toNat_natCast, h3, Option.getD_some, Int.toNat_natCast]
 exact ⟨v, h1, h2, by rw [e]; exact h3, by rw [e]; exact h4⟩
theorem Led.run {L F : List Int} {m n : Nat} (h : Led L F m n) : ∀ {bs : List Int} {j : Nat}, j < n → (∀ x ∈ bs, 0 ≤ x ∧ x ≤ 255) → runB L F m j bs < n
 | [], j, hj, _ => hj
 | b :: bs, j, hj, hb => by
  have h0 := hb b (by simp)
  obtain ⟨c, rfl⟩ : ∃ c : Nat, b = (c : Int) := ⟨b.toNat, by omega⟩
  obtain ⟨_, _, _, _, h1⟩ := h.go hj (c := c) (by omega)
  show runB L F m (goB L F m j (c : Int)) bs < n
  exact h.run h1 (fun x hx => hb x (by simp [hx]))

end Go.Proofs.YtglfdclpjmhoiaaGreat

/- Tables (layer 11): a table in memory of its own, whether two are the same; walked. Printed by exp.py. -/

namespace Go.Proofs.YtglfdclpjmhoiaaGreat
open Go.RowKit Go.Sort

/-- Values laid into a row, one behind the other. -/
theorem fill_row (B : List Value) : ∀ (vs A P : List Value) (k off : Nat), vs.length = A.length → P.length = off + k →
  (vs.zipIdx k).foldl (fun cs (x : Value × Nat) => cs.setIfInBounds (off + x.2) x.1) (P ++ A ++ B).toArray = (P ++ vs ++ B).toArray
 | [], [], P, k, off, _, _ => by simp
 | v :: vs, a :: A, P, k, off, hl, hP => by
  rw [List.zipIdx_cons, List.foldl_cons]
  have e2 : (P ++ (a :: A) ++ B).toArray.setIfInBounds (off + k) v = ((P ++ [v]) ++ A ++ B).toArray := by rw [← hP]; simp
  show List.foldl _ ((P ++ (a :: A) ++ B).toArray.setIfInBounds (off + k) v) _ = _
  rw [e2, fill_row B vs A (P ++ [v]) (k + 1) off (by simpa using hl) (by simp; omega)]
  simp
theorem fill_part (place : Nat → Option (Nat × Nat)) (P A B vs : List Value) (i : Nat) (v : Value) (rest : List (Nat × Value)) (hv : v.cells = vs.toArray) (hl : vs.length = A.length) (hp : place i = some (P.length, A.length)) :
  Instr.fill place (P ++ A ++ B).toArray ((i, v) :: rest) = Instr.fill place (P ++ vs ++ B).toArray rest := by
 have e := fill_row B vs A P 0 P.length hl rfl
 rw [Instr.fill]
 simp only [hp, hv]
 rw [if_neg (by simp [hl])]
 congr 1
 rw [← e]
 simp
end Go.Proofs.YtglfdclpjmhoiaaGreat

/- Tables (layer 11): a set's table is made; walked. -/

namespace Go.Proofs.YtglfdclpjmhoiaaGreat
open Go.RowKit Go.Sort

theorem wpList_build_to {P : Program} {ops : Array Oper} {rest : List Oper} {o : Oper} {a : Act} {w : World} {Q : Exit → Act → World → Prop} (hg : o.guard = none) (t : TypeId) (parts : Array (Nat × Operand)) (ho : o.op = .build t parts) (V : Array Value)
  (hv : P.built t (parts.map fun (i, x) => (i, a.eval x)).toList = some V) (h : wpList P ops Q rest (a.put o.dst (.agg V)) w) : wpList P ops Q (o :: rest) a w :=
 wpList_build hg t parts ho (by rw [hv]; rfl) (by rw [hv]; exact h)

theorem cls_low {fold : Bool} {ws : List (List Int)} (hg : noGreat fold ws) (c : Nat) (v : Int) (h : (clsP fold ws)[c]? = some v) : 0 ≤ v ∧ v < (manyP fold ws : Int) := by
 have hc : c < 256 := by have := (List.getElem?_eq_some_iff.1 h).1; rw [clsP_len] at this; exact this
 have hm : 1 ≤ manyP fold ws := (clsN_many _ _ _).1
 cases hp : inB fold ws (c : Int) with
 | false =>
  have := cls_no (fold := fold) hp hc
  rw [show (clsN (inB fold ws) fold 256).1 = clsP fold ws from rfl, h] at this
  cases this; omega
 | true =>
  have e := cls_rep (inB_shut hg) hp hc
  rw [show (clsN (inB fold ws) fold 256).1 = clsP fold ws from rfl, h] at e
  have hl : clsO (inB fold ws) fold c < manyP fold ws := clsO_lt (inB_shut hg) hp hc
  cases e; omega
end Go.Proofs.YtglfdclpjmhoiaaGreat

/- Fewer places (layer 12): a table that is filled, in memory: its three rows; a kid comes to stand; walked. -/

namespace Go.Proofs.YtglfdclpjmhoiaaGreat
open Go.RowKit Go.Sort

/-- A table that is filled: its box, the rows of owners, kids and bases that the call lays behind it. -/
structure SpW (W : World) (T : Nat) (L : List Int) (u l y vo vk vs : Value) (ow ki ba : List Int) : Prop where
 sk : Sk W T L u l y vo vk vs
 oo : OwnI W (T + 1) vo ow
 kk : OwnI W (T + 1) vk ki
 ss : OwnI W (T + 1) vs ba
 ok_ : vo.ownBlock = none ∨ vo.ownBlock ≠ vk.ownBlock
 os : vo.ownBlock = none ∨ vo.ownBlock ≠ vs.ownBlock
 ks : vk.ownBlock = none ∨ vk.ownBlock ≠ vs.ownBlock
section
variable {W V : World} {T : Nat} {L : List Int} {u l y vo vk vs v' : Value} {ow ki ba xs : List Int}
theorem SpW.below (h : SpW W T L u l y vo vk vs ow ki ba) (hb : Below W.heap.size W V) : SpW V T L u l y vo vk vs ow ki ba :=
 ⟨h.sk.below hb, own_below_ h.oo hb, own_below_ h.kk hb, own_below_ h.ss hb, h.ok_, h.os, h.ks⟩
theorem skC_set (i : Nat) (v : Value) : (h : i < 3) → L.length = 256 → (skC L u l y vo vk vs).toArray.setIfInBounds (259 + i) v = (skC L u l y (if i = 0 then v else vo) (if i = 1 then v else vk) (if i = 2 then v else vs)).toArray := by
 intro h hL
 unfold skC
 have e : ∀ (A : List Value), A.length = 259 → (A ++ [vo, vk, vs]).toArray.setIfInBounds (259 + i) v = (A ++ [if i = 0 then v else vo, if i = 1 then v else vk, if i = 2 then v else vs]).toArray := fun A hA => by
  rw [List.setIfInBounds_toArray]
  congr 1
  rw [List.set_append_right _ _ (by omega), show 259 + i - A.length = i by omega]
  match i, h with
  | 0, _ => rfl
  | 1, _ => rfl
  | 2, _ => rfl
 have e2 := e ([u, l, y] ++ L.map (Value.int .i64)) (by simp [hL])
 rw [List.append_assoc] at e2
 rw [e2, List.append_assoc]
theorem Sk.store (h : Sk W T L u l y vo vk vs) (i : Nat) (v : Value) (hi : i < 3) : Sk (W.setCell ⟨T, 259 + i, none⟩ v) T L u l y (if i = 0 then v else vo) (if i = 1 then v else vk) (if i = 2 then v else vs) :=
 ⟨by have h1 := set_at (i := 259 + i) h.box v; rw [skC_set i v hi h.len] at h1; exact h1, h.len⟩
theorem own_T (h : OwnI W (T + 1) v' xs) (j : Nat) (v : Value) : OwnI (W.setCell ⟨T, j, none⟩ v) (T + 1) v' xs := row_set h (Nat.lt_succ_self T) v
/-- What two rows are to one another behind an append to the first. -/
theorem sep_app (h : vo.ownBlock = none ∨ vo.ownBlock ≠ vk.ownBlock) {n b : Nat} {e : TypeId} {ys : List Value} (hk : W.ownsRow b e 1 vk n ys) (hat : v'.ownBlock = vo.ownBlock ∨ v'.ownBlock = some W.heap.size) : v'.ownBlock = none ∨ v'.ownBlock ≠ vk.ownBlock := by
 rcases hat with e1 | e1
 · rw [e1]; exact h
 ·
  right
  rw [e1]
  intro e2
  have := (row_lt hk _ e2.symm).2
  omega
theorem sep_sym (h : vo.ownBlock = none ∨ vo.ownBlock ≠ vk.ownBlock) : vk.ownBlock = none ∨ vk.ownBlock ≠ vo.ownBlock := by
 cases hk : vk.ownBlock with
 | none => exact .inl rfl
 | some k =>
  right
  rcases h with h | h
  · rw [h]; simp
  · rw [hk] at h; exact Ne.symm h
/-- The owners' row one longer (or turned), stored. -/
theorem SpW.appO (h : SpW W T L u l y vo vk vs ow ki ba) (ho : OwnI V (T + 1) v' xs) (hg : W.grownBy V vo.ownBlock) (hat : v'.ownBlock = vo.ownBlock ∨ v'.ownBlock = some W.heap.size) : SpW (V.setCell ⟨T, 259, none⟩ v') T L u l y v' vk vs xs ki ba := by
 have hT : ∀ k, vo.ownBlock = some k → k ≠ T := fun k e => by have := (row_lt h.oo k e).1; omega
 have hs : Sk V T L u l y vo vk vs := ⟨(hg.block T h.sk.lt (fun e => hT T e.symm rfl)).trans h.sk.box, h.sk.len⟩
 have hk := World.ownsRow.kept h.kk hg (sep_sym h.ok_)
 have hss := World.ownsRow.kept h.ss hg (sep_sym h.os)
 exact ⟨hs.store 0 v' (by decide), own_T ho _ _, own_T hk _ _, own_T hss _ _, sep_app h.ok_ h.kk hat, sep_app h.os h.ss hat, h.ks⟩
theorem SpW.appK (h : SpW W T L u l y vo vk vs ow ki ba) (ho : OwnI V (T + 1) v' xs) (hg : W.grownBy V vk.ownBlock) (hat : v'.ownBlock = vk.ownBlock ∨ v'.ownBlock = some W.heap.size) : SpW (V.setCell ⟨T, 260, none⟩ v') T L u l y vo v' vs ow xs ba := by
 have hT : ∀ k, vk.ownBlock = some k → k ≠ T := fun k e => by have := (row_lt h.kk k e).1; omega
 have hs : Sk V T L u l y vo vk vs := ⟨(hg.block T h.sk.lt (fun e => hT T e.symm rfl)).trans h.sk.box, h.sk.len⟩
 have hk := World.ownsRow.kept h.oo hg h.ok_
 have hss := World.ownsRow.kept h.ss hg (sep_sym h.ks)
 exact ⟨hs.store 1 v' (by decide), own_T hk _ _, own_T ho _ _, own_T hss _ _, sep_sym (sep_app (sep_sym h.ok_) h.oo hat), h.os, sep_app h.ks h.ss hat⟩
theorem SpW.appS (h : SpW W T L u l y vo vk vs ow ki ba) (ho : OwnI V (T + 1) v' xs) (hg : W.grownBy V vs.ownBlock) (hat : v'.ownBlock = vs.ownBlock ∨ v'.ownBlock = some W.heap.size) : SpW (V.setCell ⟨T, 261, none⟩ v') T L u l y vo vk v' ow ki xs := by
 have hT : ∀ k, vs.ownBlock = some k → k ≠ T := fun k e => by have := (row_lt h.ss k e).1; omega
 have hs : Sk V T L u l y vo vk vs := ⟨(hg.block T h.sk.lt (fun e => hT T e.symm rfl)).trans h.sk.box, h.sk.len⟩
 have hk := World.ownsRow.kept h.oo hg h.os
 have hss := World.ownsRow.kept h.kk hg h.ks
 exact ⟨hs.store 2 v' (by decide), own_T hk _ _, own_T hss _ _, own_T ho _ _, h.ok_, sep_sym (sep_app (sep_sym h.os) h.oo hat), sep_sym (sep_app (sep_sym h.ks) h.kk hat)⟩
end
end Go.Proofs.YtglfdclpjmhoiaaGreat

/- Nodes' words (layer 9): walked. -/

namespace Go.Proofs.YtglfdclpjmhoiaaGreat
open Go.RowKit Go.Sort
attribute [local go_sem] Oper.semAt_some
attribute [local simp] wide_fn wide_depth
attribute [local go_sem] wide_fn wide_depth

/-- What lay there lies as it lay, but for a box. -/
def KeptB (base b : Nat) (w W : World) : Prop := (∀ k, k < base → k ≠ b → W.heap[k]? = w.heap[k]?) ∧ base ≤ W.heap.size
theorem KeptB.refl {base b : Nat} {w : World} (h : base ≤ w.heap.size) : KeptB base b w w := ⟨fun _ _ _ => rfl, h⟩
theorem KeptB.trans {base b : Nat} {u v w : World} (h : KeptB base b u v) (k : KeptB base b v w) : KeptB base b u w := ⟨fun i h1 h2 => (k.1 i h1 h2).trans (h.1 i h1 h2), k.2⟩
theorem KeptB.of_below {base b : Nat} {v w : World} (h : Below v.heap.size v w) (hb : base ≤ v.heap.size) : KeptB base b v w := ⟨fun k h1 _ => h.block k (by omega), Nat.le_trans hb h.size⟩
theorem HoldsX.below {b base : Nat} {ps : Nat → Prop} {l : List Int} {W V : World} (h : HoldsX b base ps l W) (hb : Below W.heap.size W V) : HoldsX b base ps l V := by
 obtain ⟨v, h1, h2, h3⟩ := h
 exact ⟨v, (hb.block b h1.lt).trans h1, row_below h2 hb, h3⟩

end Go.Proofs.YtglfdclpjmhoiaaGreat

/- Fewer places (layer 12): a kid comes to stand; walked. -/

namespace Go.Proofs.YtglfdclpjmhoiaaGreat
open Go.RowKit Go.Sort

/-- The length of the owners' row. -/
def ownLen (T : Nat) (W : World) : Nat := match W.cell? ⟨T, 259, none⟩ with | some (.slice _ n _) => n | _ => 0
/-- What stays where two rows and a table's box may turn. -/
structure Keep2 (w : World) (T : Nat) (vo vk : Value) (w' : World) (vo' vk' : Value) : Prop where
 size : w.heap.size ≤ w'.heap.size
 same : ∀ k, k < w.heap.size → k ≠ T → vo.ownBlock ≠ some k → vk.ownBlock ≠ some k → w'.heap[k]? = w.heap[k]?
 bel : Below T w w'
 ro : ∀ k, vo'.ownBlock = some k → vo.ownBlock = some k ∨ w.heap.size ≤ k
 rk : ∀ k, vk'.ownBlock = some k → vk.ownBlock = some k ∨ w.heap.size ≤ k
theorem Keep2.refl (w : World) (T : Nat) (vo vk : Value) (hT : T < w.heap.size) : Keep2 w T vo vk w vo vk := ⟨Nat.le_refl _, fun _ _ _ _ _ => rfl, Below.refl _ _, fun k h => .inl h, fun k h => .inl h⟩
theorem Keep2.t {w w1 w2 : World} {T : Nat} {vo vk vo1 vk1 vo2 vk2 : Value} (h : Keep2 w T vo vk w1 vo1 vk1) (k : Keep2 w1 T vo1 vk1 w2 vo2 vk2) : Keep2 w T vo vk w2 vo2 vk2 :=
 ⟨Nat.le_trans h.size k.size, fun i hi hT h1 h2 => (k.same i (Nat.lt_of_lt_of_le hi h.size) hT (fun e => by rcases h.ro i e with e2 | e2; exact h1 e2; omega) (fun e => by rcases h.rk i e with e2 | e2; exact h2 e2; omega)).trans (h.same i hi hT h1 h2),
  h.bel.trans k.bel, fun i hi => by
   rcases k.ro i hi with e | e
   · exact h.ro i e
   · exact .inr (Nat.le_trans h.size e), fun i hi => by
   rcases k.rk i hi with e | e
   · exact h.rk i e
   · exact .inr (Nat.le_trans h.size e)⟩
theorem padP_succ (l : List Int) (x : Int) {m : Nat} (h : l.length ≤ m) : padP l x (m + 1) = padP l x m ++ [x] := by
 unfold padP
 rw [List.append_assoc, show m + 1 - l.length = (m - l.length) + 1 by omega, List.replicate_succ']
theorem padP_self (l : List Int) (x : Int) : padP l x l.length = l := by unfold padP; simp
theorem appO_facts {wr : World} {T : Nat} {L : List Int} {u l y vk vs : Value} {ki ba xs : List Int} {a : Option Addr} {m c : Nat} (h : SpW wr T L u l y (.slice a m c) vk vs xs ki ba) (hm : xs.length = m) (z : Int) {v1 : Value} {W1 : World} (ho : W1.ownsRow (T + 1) 3 1 v1 (m + 1) (xs.map (Value.int .i64) ++ [.int .i64 z])) (hg : (wr.alloc (.cells #[.int .i64 z] 3)).grownBy W1 (Value.slice a m c).ownBlock) (hat : v1.ownBlock = (Value.slice a m c).ownBlock ∨ v1.ownBlock = some (wr.alloc (.cells #[.int .i64 z] 3)).heap.size) :
  SpW (W1.setCell ⟨T, 259, none⟩ v1) T L u l y v1 vk vs (xs ++ [z]) ki ba ∧ Keep2 wr T (.slice a m c) vk (W1.setCell ⟨T, 259, none⟩ v1) v1 vk ∧ Sk W1 T L u l y (.slice a m c) vk vs ∧ W1.frozen? ⟨T, 259, none⟩ = false := by
 have hTr := h.sk.lt
 have hbA := below_alloc wr (.cells #[.int .i64 z] 3)
 have hSA := h.below hbA
 have hrow := h.oo
 have ho' : OwnI W1 (T + 1) v1 (xs ++ [z]) := by
  unfold OwnI
  rw [List.length_append, hm, List.map_append]
  exact ho
 have hfar : (Value.slice a m c).ownBlock ≠ some T := fun e => by have := (row_lt hrow _ e).1; omega
 have hsk1 : Sk W1 T L u l y (.slice a m c) vk vs := ⟨(hg.block T (by simp; omega) (fun e => hfar e.symm)).trans hSA.sk.box, hSA.sk.len⟩
 have hgs := hg.size
 have hnew : ∀ k, v1.ownBlock = some k → (Value.slice a m c).ownBlock = some k ∨ wr.heap.size ≤ k := fun k e => by
  rcases hat with e2 | e2
  · rw [e2] at e; exact .inl e
  ·
   rw [e2] at e
   have : (wr.alloc (.cells #[.int .i64 z] 3)).heap.size = k := Option.some.inj e
   right
   simp at this
   omega
 refine ⟨hSA.appO ho' hg hat, ⟨by simp [World.setCell] at hgs ⊢; omega, fun k hk hkT h1 h2 => ?_, ?_, hnew, fun k e => .inl e⟩, hsk1, ?_⟩
 · rw [Below.heap_setCell W1 ⟨T, 259, none⟩ v1 k hkT, hg.block k (by simp; omega) (fun e => h1 e.symm), Below.heap_alloc _ _ _ hk]
 · exact (((below_alloc wr _).mono (Nat.le_of_lt hTr)).grown hg (by simp; omega) (fun k e => by have := (row_lt hrow k e).1; omega)).setCell (Nat.le_refl _) _
 ·
  have hbx := hsk1.box
  simp [World.frozen?, hbx]
theorem appK_facts {wr : World} {T : Nat} {L : List Int} {u l y vo vs : Value} {ow ba xs : List Int} {a : Option Addr} {m c : Nat} (h : SpW wr T L u l y vo (.slice a m c) vs ow xs ba) (hm : xs.length = m) (z : Int) {v1 : Value} {W1 : World} (ho : W1.ownsRow (T + 1) 3 1 v1 (m + 1) (xs.map (Value.int .i64) ++ [.int .i64 z])) (hg : (wr.alloc (.cells #[.int .i64 z] 3)).grownBy W1 (Value.slice a m c).ownBlock) (hat : v1.ownBlock = (Value.slice a m c).ownBlock ∨ v1.ownBlock = some (wr.alloc (.cells #[.int .i64 z] 3)).heap.size) :
  SpW (W1.setCell ⟨T, 260, none⟩ v1) T L u l y vo v1 vs ow (xs ++ [z]) ba ∧ Keep2 wr T vo (.slice a m c) (W1.setCell ⟨T, 260, none⟩ v1) vo v1 ∧ Sk W1 T L u l y vo (.slice a m c) vs ∧ W1.frozen? ⟨T, 260, none⟩ = false := by
 have hTr := h.sk.lt
 have hbA := below_alloc wr (.cells #[.int .i64 z] 3)
 have hSA := h.below hbA
 have hrow := h.kk
 have ho' : OwnI W1 (T + 1) v1 (xs ++ [z]) := by
  unfold OwnI
  rw [List.length_append, hm, List.map_append]
  exact ho
 have hfar : (Value.slice a m c).ownBlock ≠ some T := fun e => by have := (row_lt hrow _ e).1; omega
 have hsk1 : Sk W1 T L u l y vo (.slice a m c) vs := ⟨(hg.block T (by simp; omega) (fun e => hfar e.symm)).trans hSA.sk.box, hSA.sk.len⟩
 have hgs := hg.size
 have hnew : ∀ k, v1.ownBlock = some k → (Value.slice a m c).ownBlock = some k ∨ wr.heap.size ≤ k := fun k e => by
  rcases hat with e2 | e2
  · rw [e2] at e; exact .inl e
  ·
   rw [e2] at e
   have : (wr.alloc (.cells #[.int .i64 z] 3)).heap.size = k := Option.some.inj e
   right
   simp at this
   omega
 refine ⟨hSA.appK ho' hg hat, ⟨by simp [World.setCell] at hgs ⊢; omega, fun k hk hkT h1 h2 => ?_, ?_, fun k e => .inl e, hnew⟩, hsk1, ?_⟩
 · rw [Below.heap_setCell W1 ⟨T, 260, none⟩ v1 k hkT, hg.block k (by simp; omega) (fun e => h2 e.symm), Below.heap_alloc _ _ _ hk]
 · exact (((below_alloc wr _).mono (Nat.le_of_lt hTr)).grown hg (by simp; omega) (fun k e => by have := (row_lt hrow k e).1; omega)).setCell (Nat.le_refl _) _
 ·
  have hbx := hsk1.box
  simp [World.frozen?, hbx]

theorem setO {W : World} {T g n c : Nat} {L : List Int} {u l y vk vs : Value} {ow ki ba : List Int} (h : SpW W T L u l y (.slice (some ⟨g, 0, none⟩) n c) vk vs ow ki ba) (p : Nat) (z : Int) : SpW (W.setCell ⟨g, p, none⟩ (.int .i64 z)) T L u l y (.slice (some ⟨g, 0, none⟩) n c) vk vs (ow.set p z) ki ba ∧ W.grownBy (W.setCell ⟨g, p, none⟩ (.int .i64 z)) (some g) ∧ T + 1 ≤ g := by
 have hn : ow.length = n := by
  rcases h.oo.2 with ⟨e, _⟩ | ⟨_, _, _, e, _⟩ <;> simp at e
  omega
 have hrow : W.ownsRow (T + 1) 3 1 (.slice (some ⟨g, 0, none⟩) n c) n (ow.map (Value.int .i64)) := by have h1 := h.oo; unfold OwnI at h1; rwa [hn] at h1
 obtain ⟨h1, hg⟩ := World.ownsRow.stored hrow p (.int .i64 z)
 have hgT : T + 1 ≤ g := (row_lt hrow g rfl).1
 have ho' : OwnI (W.setCell ⟨g, p, none⟩ (.int .i64 z)) (T + 1) (.slice (some ⟨g, 0, none⟩) n c) (ow.set p z) := by
  unfold OwnI
  rw [List.length_set, hn, List.map_set]
  exact h1
 exact ⟨⟨⟨(hg.block T h.sk.lt (fun e => by have := Option.some.inj e; omega)).trans h.sk.box, h.sk.len⟩, ho', World.ownsRow.kept h.kk hg (sep_sym h.ok_), World.ownsRow.kept h.ss hg (sep_sym h.os), h.ok_, h.os, h.ks⟩, hg, hgT⟩
theorem setK {W : World} {T g n c : Nat} {L : List Int} {u l y vo vs : Value} {ow ki ba : List Int} (h : SpW W T L u l y vo (.slice (some ⟨g, 0, none⟩) n c) vs ow ki ba) (p : Nat) (z : Int) : SpW (W.setCell ⟨g, p, none⟩ (.int .i64 z)) T L u l y vo (.slice (some ⟨g, 0, none⟩) n c) vs ow (ki.set p z) ba ∧ W.grownBy (W.setCell ⟨g, p, none⟩ (.int .i64 z)) (some g) ∧ T + 1 ≤ g := by
 have hn : ki.length = n := by
  rcases h.kk.2 with ⟨e, _⟩ | ⟨_, _, _, e, _⟩ <;> simp at e
  omega
 have hrow : W.ownsRow (T + 1) 3 1 (.slice (some ⟨g, 0, none⟩) n c) n (ki.map (Value.int .i64)) := by have h1 := h.kk; unfold OwnI at h1; rwa [hn] at h1
 obtain ⟨h1, hg⟩ := World.ownsRow.stored hrow p (.int .i64 z)
 have hgT : T + 1 ≤ g := (row_lt hrow g rfl).1
 have ho' : OwnI (W.setCell ⟨g, p, none⟩ (.int .i64 z)) (T + 1) (.slice (some ⟨g, 0, none⟩) n c) (ki.set p z) := by
  unfold OwnI
  rw [List.length_set, hn, List.map_set]
  exact h1
 exact ⟨⟨⟨(hg.block T h.sk.lt (fun e => by have := Option.some.inj e; omega)).trans h.sk.box, h.sk.len⟩, World.ownsRow.kept h.oo hg h.ok_, ho', World.ownsRow.kept h.ss hg (sep_sym h.ks), h.ok_, h.os, h.ks⟩, hg, hgT⟩

set_option maxRecDepth 100000 in
set_option maxHeartbeats 16000000 in
theorem stand12_any {T : Nat} {L : List Int} {u l y vo vk vs : Value} {ow ki ba : List Int} (p node kid : Nat) (w : World) (h : SpW w T L u l y vo vk vs ow ki ba) (hl : ow.length = ki.length) (hp : p ≤ 1000000) (hol : ow.length ≤ 1000000) :
  Calls Tryz.prog 49 #[.pointer (some ⟨T, 259, none⟩), .int .i64 (p : Int), .int .i64 (node : Int), .int .i64 (kid : Int)] w fun e w' => (∃ v, e = .returned v) ∧ ∃ vo' vk', SpW w' T L u l y vo' vk' vs (standP (ow, ki) p node kid).1 (standP (ow, ki) p node kid).2 ba ∧ Keep2 w T vo vk w' vo' vk' := by
 obtain ⟨i0, hi, hz0, hz1, hz2⟩ := info_parts i64_info7
 have hT := h.sk.lt
 have HL := Lib.hid hl
 have hh : Hid (SpW w T L u l y vo vk vs (padP ow (-1) ow.length) (padP ki 0 ow.length) ba) := by rw [Hid, padP_self, hl, padP_self]; exact h
 clear h hl
 go_enter Tryz.func49, Tryz.ntmps49
 go_wp2_with fail
 go_loopw [8] (fun s8 wr => ∃ (m : Nat) (vo' vk' : Value), ow.length ≤ m ∧ m ≤ max ow.length (p + 1) ∧ Hid (SpW wr T L u l y vo' vk' vs (padP ow (-1) m) (padP ki 0 m) ba) ∧ Hid (Keep2 w T vo vk wr vo' vk')) (fun _ wr => p + 1 - ownLen T wr)
 case atStart => exact ⟨ow.length, vo, vk, Nat.le_refl _, Nat.le_max_left _ _, hh, Keep2.refl _ _ _ _ hT⟩
 case round =>
  clear hh
  obtain ⟨m, vo', vk', hm1, hm2, HS, HK⟩ := hrel
  have hpo : (padP ow (-1) m).length = m := by rw [padP_len]; omega
  have hpk : (padP ki 0 m).length = m := by rw [padP_len]; have := HL.out; omega
  have hoo := HS.out.oo
  have hkk := HS.out.kk
  unfold OwnI at hoo hkk
  rw [hpo] at hoo
  rw [hpk] at hkk
  obtain ⟨ao, co, rfl, _, hso⟩ := SlK.own hoo
  obtain ⟨ak, ck, rfl, _, hsk⟩ := SlK.own hkk
  obtain ⟨_, c0, c1, _⟩ := HS.out.sk.cells
  by_cases hin : m ≤ p
  ·
   have d0 : decide ((m : Int) ≤ (p : Int)) = true := by simp; omega
   have d1 : decide (m ≤ p) = true := by simpa using hin
   have hTr := HS.out.sk.lt
   have hbA := below_alloc wr (.cells #[.int .i64 (-1)] 3)
   have hownA := own_below_ hoo hbA
   have hszA : T + 1 ≤ (wr.alloc (.cells #[.int .i64 (-1)] 3)).heap.size := by simp; omega
   have hslA := slk_new wr (-1)
   have HPO := Lib.hid hpo
   have HPK := Lib.hid hpk
   have HM1 := Lib.hid hm1
   have HM2 := Lib.hid hm2
   have hm9 : m ≤ 1000001 := by omega
   clear hbA hoo hkk hso hsk hpo hpk c1
   go_upto_region 2 with (at_builtin; refine wpList_append_slK rfl _ _ 32 rfl (T + 1) 3 i0 (.int .i64 0) 1 8 Tryz.underlying32 hi hz0 hz1 hz2 rfl (by decide) (.slice ao m co) m ((padP ow (-1) m).map (Value.int .i64)) rfl hownA (some ⟨wr.heap.size, 0, none⟩) 1 1 [.int .i64 (-1)] rfl hslA (by simp [Value.oneCell']) (by unfold maxLen; omega) (by omega) hszA ?_; intro v1 W1 ho1 hg1 hat1; obtain ⟨f1, f2, f3, f4⟩ := appO_facts HS.out HPO.out (-1) ho1 hg1 hat1; obtain ⟨a1, c1, rfl, _, _⟩ := SlK.own ho1; have e1 := f3.cells.2.1; have e2 := f3.lt; have HF1 := Lib.hid f1; have HF2 := Lib.hid f2; clear f1 f2 f3 ho1 hg1 hat1 hownA hslA hszA)
   obtain ⟨W2, hW2⟩ : ∃ X, X = W1.setCell ⟨T, 259, none⟩ (.slice a1 (m + 1) c1) := ⟨_, rfl⟩
   rw [← hW2] at HF1 HF2 ⊢
   clear e1 e2 f4 hW2 c0
   have hTr2 := HF1.out.sk.lt
   obtain ⟨_, _, c1', _⟩ := HF1.out.sk.cells
   have hkk2 := HF1.out.kk
   unfold OwnI at hkk2
   rw [HPK.out] at hkk2
   have hbA := below_alloc W2 (.cells #[.int .i64 0] 3)
   have hownA := own_below_ hkk2 hbA
   have hszA : T + 1 ≤ (W2.alloc (.cells #[.int .i64 0] 3)).heap.size := by simp; omega
   have hslA := slk_new W2 0
   clear hbA hkk2
   go_wp2_with (at_builtin; refine wpList_append_slK rfl _ _ 32 rfl (T + 1) 3 i0 (.int .i64 0) 1 8 Tryz.underlying32 hi hz0 hz1 hz2 rfl (by decide) (.slice ak m ck) m ((padP ki 0 m).map (Value.int .i64)) rfl hownA (some ⟨W2.heap.size, 0, none⟩) 1 1 [.int .i64 0] rfl hslA (by simp [Value.oneCell']) (by unfold maxLen; omega) (by omega) hszA ?_; intro v3 W3 ho3 hg3 hat3; obtain ⟨f1, f2, f3, f4⟩ := appK_facts HF1.out HPK.out 0 ho3 hg3 hat3; obtain ⟨a3, c3, rfl, _, _⟩ := SlK.own ho3; have e1 := f3.cells.2.2.1; have e2 := f3.lt; have HF3 := Lib.hid f1; have HF4 := Lib.hid f2; clear f1 f2 f3 ho3 hg3 hat3 hownA hslA hszA)
   obtain ⟨W4, hW4⟩ : ∃ X, X = W3.setCell ⟨T, 260, none⟩ (.slice a3 (m + 1) c3) := ⟨_, rfl⟩
   rw [← hW4] at HF3 HF4 ⊢
   clear e1 e2 f4 hW4
   have hfin := HF3.out
   rw [← padP_succ ow (-1) HM1.out, ← padP_succ ki 0 (by rw [← HL.out]; exact HM1.out)] at hfin
   have HFIN := Lib.hid hfin
   have hlen : ownLen T W4 = m + 1 := by
    unfold ownLen
    rw [hfin.sk.cells.2.1]
   have hlen0 : ownLen T wr = m := by
    unfold ownLen
    rw [HS.out.sk.cells.2.1]
   have HLN := Lib.hid (And.intro hlen hlen0)
   have hpp : m ≤ p := hin
   have HPP := Lib.hid hpp
   clear hfin hlen hlen0
   go_roundw
   case rel => exact ⟨m + 1, _, _, by have := HM1.out; omega, by have := HPP.out; omega, HFIN, (HK.out.t HF2.out).t HF4.out⟩
   case measure =>
    rw [HLN.out.1, HLN.out.2]
    have := HPP.out
    omega
  ·
   have d0 : decide ((m : Int) ≤ (p : Int)) = false := by simp; omega
   have d1 : decide (m ≤ p) = false := by simp; omega
   obtain ⟨m', rfl⟩ : ∃ m', m = m' + 1 := ⟨m - 1, by omega⟩
   obtain ⟨g1, c1', e1⟩ := ownsRow_succ hoo
   obtain ⟨g2, c2', e2⟩ := ownsRow_succ hkk
   cases e1
   cases e2
   have hmm : m' + 1 = max ow.length (p + 1) := by omega
   have hS1 := setO HS.out p (node : Int)
   have hS2 := setK hS1.1 p (kid : Int)
   have hf1 : wr.frozen? ⟨g1, p, none⟩ = false := hoo.frozenAt p
   have hl1 : g1 < wr.heap.size := (row_lt hoo g1 rfl).2
   have hl2 : g2 < wr.heap.size := (row_lt hkk g2 rfl).2
   have hc1 : ∃ x, wr.cell? ⟨g1, p, none⟩ = some x := by
    have e := hoo.cellAt p (by omega)
    rw [e]
    exact ⟨_, List.getElem?_eq_getElem (by rw [List.length_map, hpo]; omega)⟩
   have hc2 : ∃ x, wr.cell? ⟨g2, p, none⟩ = some x := by
    have e := hkk.cellAt p (by omega)
    rw [e]
    exact ⟨_, List.getElem?_eq_getElem (by rw [List.length_map, hpk]; omega)⟩
   have hf2 : wr.frozen? ⟨g2, p, none⟩ = false := hkk.frozenAt p
   obtain ⟨x1, hc1⟩ := hc1
   obtain ⟨x2, hc2⟩ := hc2
   have hne : g1 ≠ g2 := by
    rcases HS.out.ok_ with h | h
    · simp [Value.ownBlock] at h
    · exact fun e => h (by simp [Value.ownBlock, e])
   have hgT1 := hS1.2.2
   have hgT2 := hS2.2.2
   have hb1 : Below T wr (wr.setCell ⟨g1, p, none⟩ (.int .i64 (node : Int))) := (Below.refl _ _).setCell (by show T ≤ g1; omega) _
   have hK1 : Keep2 wr T (.slice (some ⟨g1, 0, none⟩) (m' + 1) co) (.slice (some ⟨g2, 0, none⟩) (m' + 1) ck) ((wr.setCell ⟨g1, p, none⟩ (.int .i64 (node : Int))).setCell ⟨g2, p, none⟩ (.int .i64 (kid : Int))) (.slice (some ⟨g1, 0, none⟩) (m' + 1) co) (.slice (some ⟨g2, 0, none⟩) (m' + 1) ck) :=
    ⟨by simp [World.setCell], fun k hk hkT h1 h2 => (Below.heap_setCell _ ⟨g2, p, none⟩ _ k (fun e => h2 (by rw [e]; rfl))).trans (Below.heap_setCell _ ⟨g1, p, none⟩ _ k (fun e => h1 (by rw [e]; rfl))), hb1.setCell (by show T ≤ g2; omega) _, fun k e => .inl e, fun k e => .inl e⟩
   have HFK := Lib.hid (HK.out.t hK1)
   have hfs := hS2.1
   have hres : (standP (ow, ki) p node kid).1 = (padP ow (-1) (m' + 1)).set p (node : Int) ∧ (standP (ow, ki) p node kid).2 = (padP ki 0 (m' + 1)).set p (kid : Int) := by
    have hll := HL.out
    unfold standP
    dsimp only
    have e1 : padP ow (-1) (m' + 1) = padP ow (-1) (p + 1) := by
     unfold padP
     rw [show m' + 1 - ow.length = p + 1 - ow.length by omega]
    have e2 : padP ki 0 (m' + 1) = padP ki 0 (p + 1) := by
     unfold padP
     rw [show m' + 1 - ki.length = p + 1 - ki.length by omega]
    rw [e1, e2]
    exact ⟨rfl, rfl⟩
   rw [← hres.1, ← hres.2] at hfs
   have HFS := Lib.hid hfs
   have hTr := HS.out.sk.lt
   have i1 : (0 : Int) ≤ (p : Int) := by omega
   have i2 : (p : Int) < ((m' + 1 : Nat) : Int) := by omega
   have i3 : (p : Int) < (m' : Int) + 1 := by omega
   clear hmm hS1 hS2 hfs hres hK1 hb1 hoo hkk hso hsk hpo hpk
   go_upto_region 3 with fail
   refine wp_region_noPanic ?_
   refine wp_region_held_drew (S := fun X => X.cell? ⟨T, 259, none⟩ = some (.slice (some ⟨g1, 0, none⟩) (m' + 1) co) ∧ X.cell? ⟨T, 260, none⟩ = some (.slice (some ⟨g2, 0, none⟩) (m' + 1) ck)) (by kernel_rfl) ⟨c0, c1⟩ (fun hSS => ?_)
   clear c0 c1 d0 d1
   change wpAnyH _ _ _ _ _ 16 _ _ _
   iterate 13 (refine tkF 15 (v := ?_) ?_ ?_; rotate_left; (· intro V hV; obtain ⟨c0, c1⟩ := hV; first | (go_simp; done) | (go_simp; with_reducible rfl)); try simp only [Act.put, pA, pB, pC])
   have a1 : wr.drew.cell? ⟨g1, p, none⟩ = some x1 := hc1
   have a2 : wr.drew.frozen? ⟨g1, p, none⟩ = false := hf1
   have a3 : wr.drew.cell? ⟨g2, p, none⟩ = some x2 := hc2
   have a4 : wr.drew.frozen? ⟨g2, p, none⟩ = false := hf2
   have a5 : g1 < wr.drew.heap.size := hl1
   have a6 : g2 < wr.drew.heap.size := hl2
   obtain ⟨W1, hW1⟩ : ∃ X, X = wr.drew := ⟨_, rfl⟩
   rw [← hW1] at hSS a1 a2 a3 a4 a5 a6 ⊢
   have HW1 := Lib.hid hW1
   clear hc1 hf1 hc2 hf2 hl1 hl2 hW1
   have HA3 := Lib.hid a3
   have HA4 := Lib.hid a4
   clear a3 a4
   refine rdy 13 (fun K hK => ?_)
   go_simp
   refine hK.out _ _ ⟨(World.cell?_of_block (a := ⟨T, 259, none⟩) (Below.heap_setCell W1 ⟨g1, p, none⟩ _ T (by show T ≠ g1; omega))).trans hSS.1, (World.cell?_of_block (a := ⟨T, 260, none⟩) (Below.heap_setCell W1 ⟨g1, p, none⟩ _ T (by show T ≠ g1; omega))).trans hSS.2⟩ (fun hSS2 => ?_)
   clear hK K a1 a2
   try simp only [Act.put, pA, pB, pC]
   have hg1g2 : ∀ V : World, (V.setCell ⟨g1, p, none⟩ (.int .i64 (node : Int))).heap[g2]? = V.heap[g2]? := fun V => Below.heap_setCell V ⟨g1, p, none⟩ _ g2 (Ne.symm hne)
   obtain ⟨W2, hW2⟩ : ∃ X, X = W1.setCell ⟨g1, p, none⟩ (.int .i64 (node : Int)) := ⟨_, rfl⟩
   have b3 : W2.cell? ⟨g2, p, none⟩ = some x2 := by rw [hW2]; exact (World.cell?_of_block (a := ⟨g2, p, none⟩) (hg1g2 W1)).trans HA3.out
   have b4 : W2.frozen? ⟨g2, p, none⟩ = false := by
    have e := HA4.out
    rw [hW2]
    unfold World.frozen? at e ⊢
    rw [hg1g2 W1]
    exact e
   have b5 : g2 < W2.heap.size := by rw [hW2]; simpa [World.setCell] using a6
   have HW2 := Lib.hid hW2
   rw [← hW2] at hSS2 ⊢
   clear hW2 hg1g2 a5 a6
   refine tkW 14 (v := ?_) ?_ ?_
   rotate_left
   ·
    intro V hV
    first | (go_simp; done) | (go_simp; with_reducible rfl)
   try simp only [Act.put, pA, pB, pC]
   refine rdy 15 (fun K hK => ?_)
   go_simp
   refine hK.out _ _ ⟨(World.cell?_of_block (a := ⟨T, 259, none⟩) (Below.heap_setCell W2 ⟨g2, p, none⟩ _ T (by show T ≠ g2; omega))).trans hSS2.1, (World.cell?_of_block (a := ⟨T, 260, none⟩) (Below.heap_setCell W2 ⟨g2, p, none⟩ _ T (by show T ≠ g2; omega))).trans hSS2.2⟩ (fun hSS3 => ?_)
   clear hK K b3 b4 b5
   try simp only [Act.put, pA, pB, pC]
   refine wpAnyH_done (by kernel_rfl) ?_ _
   refine NoPanic.normal ?_
   have hFIN : SpW (W2.setCell ⟨g2, p, none⟩ (.int .i64 (kid : Int))) T L u l y (.slice (some ⟨g1, 0, none⟩) (m' + 1) co) (.slice (some ⟨g2, 0, none⟩) (m' + 1) ck) vs (standP (ow, ki) p node kid).1 (standP (ow, ki) p node kid).2 ba ∧ Keep2 w T vo vk (W2.setCell ⟨g2, p, none⟩ (.int .i64 (kid : Int))) (.slice (some ⟨g1, 0, none⟩) (m' + 1) co) (.slice (some ⟨g2, 0, none⟩) (m' + 1) ck) := by
    rw [HW2.out, HW1.out]
    have h1 := HFS.out
    have h2 := HFK.out
    exact ⟨⟨⟨h1.sk.box, h1.sk.len⟩, h1.oo, h1.kk, h1.ss, h1.ok_, h1.os, h1.ks⟩, ⟨h2.size, h2.same, ⟨h2.bel.os, h2.bel.tape, h2.bel.output, h2.bel.size, h2.bel.block⟩, h2.ro, h2.rk⟩⟩
   have HFI := Lib.hid hFIN
   clear hFIN
   go_wp2
   go_end0
   exact ⟨⟨_, rfl⟩, _, _, HFI.out.1, HFI.out.2⟩
end Go.Proofs.YtglfdclpjmhoiaaGreat
