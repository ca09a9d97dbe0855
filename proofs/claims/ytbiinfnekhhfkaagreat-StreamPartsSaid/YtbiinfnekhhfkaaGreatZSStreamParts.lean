/- What the law's walk takes besides: HP, EF, EJ, HQ, EL. -/
import Derived.Deep.DeepCutAuto
import Derived.Test.YtbiinfnekhhfkaaGreatZS1
import Derived.Test.YtbiinfnekhhfkaaGreatZS2
import Derived.Test.YtbiinfnekhhfkaaGreatZS3
import Derived.Test.YtbiinfnekhhfkaaGreatZS4
import Derived.Test.YtbiinfnekhhfkaaGreatZS5
import Derived.Test.YtbiinfnekhhfkaaGreatZS6
import Derived.Test.YtbiinfnekhhfkaaGreatZS7
import Derived.Test.YtbiinfnekhhfkaaGreatZS8
import Derived.Test.YtbiinfnekhhfkaaGreatZS9
import Derived.Test.YtbiinfnekhhfkaaGreatZS10
import Derived.Test.YtbiinfnekhhfkaaGreatZS11
import Derived.Test.YtbiinfnekhhfkaaGreatZS12
import Derived.Test.YtbiinfnekhhfkaaGreatZS13
import Derived.Test.YtbiinfnekhhfkaaGreatZS14
import Derived.Test.YtbiinfnekhhfkaaGreatZS15
import Derived.Test.YtbiinfnekhhfkaaGreatZS16
import Derived.Test.YtbiinfnekhhfkaaGreatZS17

namespace Go.Proofs.YtbiinfnekhhfkaaGreat
open Go.RowKit Go.Sort
set_option linter.unusedVariables false
set_option linter.unusedSimpArgs false

section
variable {P : Program} {md : Region.Mode} {ops : Array Oper} {Q : Exit → Act → World → Prop} {S : World → Prop}
/-- An operation that is carried out in whatever world that meets S: what it tells meets R, and S holds behind it. -/
def StepsG (P : Program) (ops : Array Oper) (Q : Exit → Act → World → Prop) (S : World → Prop) (o : Oper) (R : Value → World → Prop) (a : Act) : Prop :=
  ∀ w, S w → ∀ K : Act → World → Prop, (∀ v w', S w' → R v w' → RowKit.Below w.heap.size w w' → K (a.put o.dst v) w') → if Region.wanted o (yielded ops a.tmps) = true then Oper.wp P o a w K Q else K (a.put o.dst undef) w
end
end Go.Proofs.YtbiinfnekhhfkaaGreat

namespace Go.Proofs.YtbiinfnekhhfkaaGreat
open Go.RowKit Go.Sort
set_option linter.unusedVariables false
set_option linter.unusedSimpArgs false

def uZ (fold : Bool) (wss : List (List Int)) (z at_ : Int) (F : List Int) : Int := if rightP fold wss = true then fdZ fold wss z at_ F else z
def uA (fold : Bool) (wss : List (List Int)) (z at_ : Int) (F : List Int) : Int := if rightP fold wss = true then fdA wss z at_ F else at_
def uE (fold : Bool) (wss : List (List Int)) (z at_ : Int) (F : List Int) : Int := if rightP fold wss = true then fdE wss z at_ F else 2
def uH (fold : Bool) (wss : List (List Int)) (z at_ : Int) (F : List Int) : List HitP := if rightP fold wss = true then fdH fold wss z at_ F else []

theorem uH_bd {fold : Bool} {wss : List (List Int)} (z at_ : Int) (F : List Int) : ∀ h ∈ uH fold wss z at_ F, (I64 h.1 ∧ I64 h.2) ∧ 0 ≤ h.2 ∧ h.2 < (wss.length : Int) := by
  intro h hh
  unfold uH at hh
  split at hh
  · rename_i hr
    exact fdH_bd hr z at_ F h hh
  · cases hh
theorem uH_len {fold : Bool} {wss : List (List Int)} (z at_ : Int) (F : List Int) : (uH fold wss z at_ F).length ≤ 400 * F.length := by
  unfold uH
  split
  · rename_i hr
    exact fdH_len hr z at_ F
  · simp
theorem uE_or {fold : Bool} {wss : List (List Int)} (z at_ : Int) (F : List Int) : uE fold wss z at_ F = 0 ∨ (uE fold wss z at_ F = 2 ∧ uH fold wss z at_ F = []) := by
  unfold uE uH fdE fdH
  by_cases hr : rightP fold wss = true
  · rw [if_pos hr, if_pos hr]
    by_cases ho : fdOK wss z at_ F = true
    · exact .inl (if_pos ho)
    · exact .inr ⟨if_neg ho, if_neg ho⟩
  · rw [if_neg hr, if_neg hr]
    exact .inr ⟨rfl, rfl⟩

structure Mach14 (W : World) (p : Value) (fold : Bool) (wss : List (List Int)) : Prop where
  right : ∀ V, Below W.heap.size W V → ∀ z at_ : Int, Calls Tryz.prog 57 #[p, scV z at_] V fun e w' => e = .returned (.bool (rightP fold wss && scanR (nodesL wss).length z at_)) ∧ Below V.heap.size V w'
  feed : ∀ V, Below W.heap.size W V → ∀ (z at_ : Int) (a : Option Addr) (n cn : Nat) (css : List (List Int)), Wds V a n css → n ≤ 1000000 → css.flatten.length ≤ 1000000 → FedOK V p z at_ a n cn (uZ fold wss z at_ css.flatten) (uA fold wss z at_ css.flatten) (uE fold wss z at_ css.flatten) (uH fold wss z at_ css.flatten)

theorem cnt_dist {l : List HitP} {n : Nat} (h : ∀ x ∈ l, 0 ≤ x.2 ∧ x.2 < (n : Int)) : distN (l.map (·.2)) = cntW (l.map (·.2)) n :=
  distN_count fun x hx => by
    obtain ⟨y, hy, rfl⟩ := List.mem_map.1 hx
    exact h y hy

theorem Mach14.count {W : World} {p : Value} {fold : Bool} {wss : List (List Int)} (h : Mach14 W p fold wss) {V : World} (hV : Below W.heap.size W V) (z at_ : Int) (a : Option Addr) (n cn : Nat) (css : List (List Int)) (hC : Wds V a n css) (hn : n ≤ 1000000) (hT : css.flatten.length ≤ 1000000) :
    Calls Tryz.prog 59 #[p, scV z at_, .slice a n cn] V fun e w' => e = .returned (.tuple #[.int .i64 ((uH fold wss z at_ css.flatten).length : Int), .int .i64 (cntW ((uH fold wss z at_ css.flatten).map (·.2)) wss.length : Int)]) ∧ Below V.heap.size V w' := by
  have hl := uH_len (fold := fold) (wss := wss) z at_ css.flatten
  refine (count14_run p z at_ a n cn _ _ _ _ V (h.feed V hV z at_ a n cn css hC hn hT) (by omega) (fun x hx => (uH_bd z at_ _ x hx).1) (by rcases uE_or (fold := fold) (wss := wss) z at_ css.flatten with h | h; exact .inl h; exact .inr h.1)).mono ?_
  rintro e w' ⟨rfl, hb⟩
  refine ⟨?_, hb⟩
  rw [cnt_dist (n := wss.length) (fun x hx => (uH_bd z at_ _ x hx).2)]
  rcases uE_or (fold := fold) (wss := wss) z at_ css.flatten with h | ⟨h, h2⟩
  · rw [if_pos h, if_pos h]
  · rw [h2, h]
    have e : cntW (([] : List HitP).map (·.2)) wss.length = 0 := by simp [cntW]
    rw [e]
    rfl

theorem Mach14.all {W : World} {p : Value} {fold : Bool} {wss : List (List Int)} (h : Mach14 W p fold wss) {V : World} (hV : Below W.heap.size W V) (frm : Int) (a : Option Addr) (n cn : Nat) (css : List (List Int)) (hC : Wds V a n css) (hn : n ≤ 1000000) (hT : css.flatten.length ≤ 1000000) :
    Calls Tryz.prog 63 #[p, .int .i64 frm, .slice a n cn] V fun e w' => ∃ v, e = .returned (.tuple #[v, .int .i64 (if newE frm = 0 then uE fold wss 0 (newA frm) css.flatten else 2)]) ∧ OwnH w' V.heap.size v (if newE frm = 0 then uH fold wss 0 (newA frm) css.flatten else []) ∧ Below V.heap.size V w' := by
  by_cases h0 : newE frm = 0
  · have h1 : newA frm = frm := by
      unfold newE at h0
      unfold newA
      split at h0
      · rename_i h; rw [if_pos h]
      · cases h0
    rw [h1]
    exact all14_run p frm a n cn _ _ _ _ V (fun _ => h.feed V hV 0 frm a n cn css hC hn hT)
  · refine (all14_run p frm a n cn 0 0 0 [] V (fun h1 => absurd h1 h0)).mono ?_
    rintro e w' ⟨v, rfl, ho, hb⟩
    rw [if_neg h0] at ho
    refine ⟨v, ?_, ?_, hb⟩
    · rw [if_neg h0, if_neg h0]
    · rw [if_neg h0]
      exact ho
theorem scan_fields : ((Tryz.prog.fieldsOf 88).toList.map fun f => (f.name, f.type, f.offset)) = [("Node", 3, 0), ("At", 3, 1)] := by kernel_rfl
theorem equalIn_scan (x y : Int × Int) (W : World) : (Op.equalIn 10000 88 (.agg #[.int .i64 x.1, .int .i64 x.2]) (.agg #[.int .i64 y.1, .int .i64 y.2])).run Tryz.prog W = .ok (decide (x = y)) W := by
  rw [run_equalIn_agg W 9999 88 _ _ (by kernel_rfl) (by kernel_rfl)]
  rw [eqFields_map 9999 _ _ _ [⟨ "Node", 3, 0, false, "", "", 0⟩, ⟨ "At", 3, 1, false, "", "", 0⟩] scan_fields]
  have h0 : ∀ W : World, (part 3 #[.int .i64 x.1, .int .i64 x.2] 0).run Tryz.prog W = .ok (.int .i64 x.1) W := fun W => by kernel_rfl
  have h1 : ∀ W : World, (part 3 #[.int .i64 x.1, .int .i64 x.2] 1).run Tryz.prog W = .ok (.int .i64 x.2) W := fun W => by kernel_rfl
  have g0 : ∀ W : World, (part 3 #[.int .i64 y.1, .int .i64 y.2] 0).run Tryz.prog W = .ok (.int .i64 y.1) W := fun W => by kernel_rfl
  have g1 : ∀ W : World, (part 3 #[.int .i64 y.1, .int .i64 y.2] 1).run Tryz.prog W = .ok (.int .i64 y.2) W := fun W => by kernel_rfl
  simp only [Op.eqFields, Sem.run_bind, Sem.run_ite, Sem.run_pure, h0, h1, g0, g1, Result.andThen_ok, run_equalIn_int _ _ _ _ _ _ _ Tryz.underlying3]
  obtain ⟨a, b⟩ := x
  obtain ⟨c, d⟩ := y
  by_cases e1 : a = c <;> by_cases e2 : b = d <;> simp [e1, e2]
theorem eql_scan (x y : Int × Int) (W : World) : (binOp .eql 88 (.agg #[.int .i64 x.1, .int .i64 x.2]) (.agg #[.int .i64 y.1, .int .i64 y.2])).run Tryz.prog W = .ok (.bool (decide (x = y))) W := by
  rw [run_eql_struct, equalIn_scan]
  rfl
end Go.Proofs.YtbiinfnekhhfkaaGreat

namespace Go.Proofs.YtbiinfnekhhfkaaGreat
open Go.RowKit Go.Sort
set_option linter.unusedVariables false
set_option linter.unusedSimpArgs false

theorem two_bx (V : World) (c : Array Value) (t : TypeId) : (((V.alloc (.cells c t)).alloc (.cells c t)).drew).heap[V.heap.size]? = some (.cells c t (0, 0)) ∧ (((V.alloc (.cells c t)).alloc (.cells c t)).drew).heap[V.heap.size + 1]? = some (.cells c t (0, 0)) ∧ Below V.heap.size V ((V.alloc (.cells c t)).alloc (.cells c t)).drew := by
  have h1 := World.alloc_heap_new (V.alloc (.cells c t)) (.cells c t)
  rw [World.size_alloc] at h1
  have h0 : ((V.alloc (.cells c t)).alloc (.cells c t)).heap[V.heap.size]? = some (.cells c t (0, 0)) := (heap_alloc_old (V.alloc (.cells c t)) (.cells c t) (by simp)).trans (World.alloc_heap_new V _)
  have hb : Below V.heap.size V ((V.alloc (.cells c t)).alloc (.cells c t)) := (below_alloc V _).trans ((below_alloc (V.alloc (.cells c t)) _).mono (by simp))
  exact ⟨h0, h1, hb.trans ((bel_drewN _ 1).mono hb.size)⟩
/-- A row of hits is no box of another type. -/
theorem hits_ne {V : World} {base n : Nat} {v : Value} {xs : List Value} {x : Nat} {c : Array Value} (h : V.ownsRow base 61 2 v n xs) (hx : V.heap[x]? = some (.cells c 88 (0, 0))) : v.ownBlock = none ∨ v.ownBlock ≠ some x := by
  refine .inr fun e => ?_
  rcases h.2 with ⟨rfl, _⟩ | ⟨g, cap, cur, rfl, _, hgb, _⟩
  · simp [Value.ownBlock] at e
  · obtain rfl : g = x := by simpa [Value.ownBlock] using e
    have := hx.symm.trans hgb
    simp at this
theorem scan_app2 {fold : Bool} {wss : List (List Int)} (z : Nat) (at0 : Int) (F y : List Int) : scanH fold wss z at0 (F ++ y) = scanH fold wss z at0 F ++ scanH fold wss (feedZ fold wss z F) (at0 + F.length) y := scanH_append z at0 F y
theorem fd_scanz {fold : Bool} {wss : List (List Int)} {z : Nat} (hz : z < (nodesL wss).length) {at0 : Int} (h0 : 0 ≤ at0) {F : List Int} (h1 : at0 + F.length ≤ 4611686020574871551) :
    fdE wss z at0 F = 0 ∧ fdH fold wss z at0 F = scanH fold wss z at0 F ∧ fdZ fold wss z at0 F = (feedZ fold wss z F : Nat) ∧ fdA wss z at0 F = at0 + F.length := by
  have hok : fdOK wss z at0 F = true := by
    unfold fdOK scanR
    rw [decide_eq_true ⟨⟨by omega, by omega⟩, h0, by omega⟩, decide_eq_true h1]
    rfl
  refine ⟨if_pos hok, ?_, ?_, if_pos hok⟩
  · unfold fdH; rw [if_pos hok, Int.toNat_natCast]
  · unfold fdZ; rw [if_pos hok, Int.toNat_natCast]

def scB (fold : Bool) (wss : List (List Int)) (z : Nat) (at0 : Int) (F : List Int) : Obj := .cells #[.int .i64 (feedZ fold wss z F : Nat), .int .i64 (at0 + (F.length : Int))] 88 (0, 0)

/-- Where the two scans stand (in the boxes x12, x13) and what they have told (p, q). -/
structure PST (V0 : World) (fold : Bool) (wss : List (List Int)) (z : Nat) (at0 : Int) (x12 x13 base : Nat) (V : World) (p q : Value) (F G : List Int) (P Q : List HitP) : Prop where
  c12 : V.heap[x12]? = some (scB fold wss z at0 F)
  c13 : V.heap[x13]? = some (scB fold wss z at0 G)
  ownP : OwnH V base p P
  ownQ : OwnH V base q Q
  sep : p.ownBlock = none ∨ p.ownBlock ≠ q.ownBlock
  bel : RowKit.Below V0.heap.size V0 V
  bse : base ≤ V.heap.size
  l12 : V0.heap.size ≤ x12 ∧ x12 < base
  l13 : V0.heap.size ≤ x13 ∧ x13 < base
  ne : x12 ≠ x13

section
variable {V0 : World} {fold : Bool} {wss : List (List Int)} {z : Nat} {at0 : Int} {x12 x13 base : Nat} {V V' : World} {p q v' : Value} {F G F' : List Int} {P Q : List HitP}
theorem PST.below (h : PST V0 fold wss z at0 x12 x13 base V p q F G P Q) (hb : RowKit.Below V.heap.size V V') : PST V0 fold wss z at0 x12 x13 base V' p q F G P Q :=
  ⟨(hb.block _ (Array.getElem?_eq_some_iff.1 h.c12).1).trans h.c12, (hb.block _ (Array.getElem?_eq_some_iff.1 h.c13).1).trans h.c13, h.ownP.below hb, h.ownQ.below hb, h.sep, h.bel.trans (hb.mono h.bel.size), Nat.le_trans h.bse hb.size, h.l12, h.l13, h.ne⟩
theorem own_ne (h : OwnH V base v' P) {x : Nat} (hx : x < base) : v'.ownBlock = none ∨ v'.ownBlock ≠ some x := .inr fun e => by
  have := (World.ownsRow.lt h x e).1
  omega
theorem set2 {x : Nat} {c0 c1 u0 u1 : Value} {t : TypeId} (h : V.heap[x]? = some (.cells #[c0, c1] t (0, 0))) : ((V.setCell ⟨x, 0, none⟩ u0).setCell ⟨x, 1, none⟩ u1).heap[x]? = some (.cells #[u0, u1] t (0, 0)) ∧
    V.grownBy ((V.setCell ⟨x, 0, none⟩ u0).setCell ⟨x, 1, none⟩ u1) (some x) := by
  have g : ∀ (W : World) (o : Nat) (u : Value), W.grownBy (W.setCell ⟨x, o, none⟩ u) (some x) := fun W o u => ⟨rfl, rfl, rfl, (KeepsWalks.setCell W _ u).size, fun k _ hk => Below.heap_setCell _ _ _ k (fun e => hk (by rw [e]))⟩
  have g1 := g V 0 u0
  have g2 := g (V.setCell ⟨x, 0, none⟩ u0) 1 u1
  refine ⟨?_, ⟨rfl, rfl, rfl, Nat.le_trans g1.size g2.size, fun k hk hne => (g2.block k (Nat.lt_of_lt_of_le hk g1.size) hne).trans (g1.block k hk hne)⟩⟩
  have h := set_at (i := 1) (set_at (i := 0) h u0) u1
  simpa using h
theorem PST.sto12 (h : PST V0 fold wss z at0 x12 x13 base V p q F G P Q) {F' : List Int} {Z' T' : Int} (hz : ((feedZ fold wss z F' : Nat) : Int) = Z') (ht : at0 + (F'.length : Int) = T') : PST V0 fold wss z at0 x12 x13 base ((V.setCell ⟨x12, 0, none⟩ (.int .i64 Z')).setCell ⟨x12, 1, none⟩ (.int .i64 T')) p q F' G P Q := by
  subst hz ht
  obtain ⟨g1, g2⟩ := set2 (u0 := .int .i64 (feedZ fold wss z F' : Nat)) (u1 := .int .i64 (at0 + (F'.length : Int))) h.c12
  have hlt := (Array.getElem?_eq_some_iff.1 h.c13).1
  exact ⟨g1, (g2.block x13 hlt (fun e => h.ne (Option.some.inj e).symm)).trans h.c13, World.ownsRow.kept h.ownP g2 (own_ne h.ownP h.l12.2), World.ownsRow.kept h.ownQ g2 (own_ne h.ownQ h.l12.2), h.sep,
    h.bel.grown g2 h.bel.size (fun k e => by cases e; exact h.l12.1), Nat.le_trans h.bse g2.size, h.l12, h.l13, h.ne⟩
theorem PST.sto13 (h : PST V0 fold wss z at0 x12 x13 base V p q F G P Q) {G' : List Int} {Z' T' : Int} (hz : ((feedZ fold wss z G' : Nat) : Int) = Z') (ht : at0 + (G'.length : Int) = T') : PST V0 fold wss z at0 x12 x13 base ((V.setCell ⟨x13, 0, none⟩ (.int .i64 Z')).setCell ⟨x13, 1, none⟩ (.int .i64 T')) p q F G' P Q := by
  subst hz ht
  obtain ⟨g1, g2⟩ := set2 (u0 := .int .i64 (feedZ fold wss z G' : Nat)) (u1 := .int .i64 (at0 + (G'.length : Int))) h.c13
  have hlt := (Array.getElem?_eq_some_iff.1 h.c12).1
  exact ⟨(g2.block x12 hlt (fun e => h.ne (Option.some.inj e))).trans h.c12, g1, World.ownsRow.kept h.ownP g2 (own_ne h.ownP h.l13.2), World.ownsRow.kept h.ownQ g2 (own_ne h.ownQ h.l13.2), h.sep,
    h.bel.grown g2 h.bel.size (fun k e => by cases e; exact h.l13.1), Nat.le_trans h.bse g2.size, h.l12, h.l13, h.ne⟩
theorem scB_cells {x : Nat} (h : V.heap[x]? = some (scB fold wss z at0 F)) {Z' T' : Int} (hz : ((feedZ fold wss z F : Nat) : Int) = Z') (ht : at0 + (F.length : Int) = T') : V.cell? ⟨x, 0, none⟩ = some (.int .i64 Z') ∧ V.cell? ⟨x, 1, none⟩ = some (.int .i64 T') ∧ V.frozen? ⟨x, 0, none⟩ = false ∧ V.frozen? ⟨x, 1, none⟩ = false ∧ x < V.heap.size := by
  subst hz ht
  unfold scB at h
  exact ⟨by simp [World.cell?, h], by simp [World.cell?, h], by simp [World.frozen?, h], by simp [World.frozen?, h], (Array.getElem?_eq_some_iff.1 h).1⟩
theorem PST.appP (h : PST V0 fold wss z at0 x12 x13 base V p q F G P Q) {P' : List HitP} (ho : OwnH V' base v' P') (hg : V.grownBy V' p.ownBlock) (hat : v'.ownBlock = p.ownBlock ∨ v'.ownBlock = some V.heap.size) : PST V0 fold wss z at0 x12 x13 base V' v' q F G P' Q := by
  have lt12 := (Array.getElem?_eq_some_iff.1 h.c12).1
  have lt13 := (Array.getElem?_eq_some_iff.1 h.c13).1
  have n12 : some x12 ≠ p.ownBlock := fun e => by have := (World.ownsRow.lt h.ownP x12 e.symm).1; have := h.l12.2; omega
  have n13 : some x13 ≠ p.ownBlock := fun e => by have := (World.ownsRow.lt h.ownP x13 e.symm).1; have := h.l13.2; omega
  have hq : q.ownBlock = none ∨ q.ownBlock ≠ p.ownBlock := by
    rcases h.sep with e | e
    · cases hqo : q.ownBlock with
      | none => exact .inl rfl
      | some k => right; rw [e]; exact fun e => by cases e
    · exact .inr (Ne.symm e)
  refine ⟨(hg.block _ lt12 n12).trans h.c12, (hg.block _ lt13 n13).trans h.c13, ho, World.ownsRow.kept h.ownQ hg hq, ?_, h.bel.grown hg h.bel.size (fun k e => ?_), Nat.le_trans h.bse hg.size, h.l12, h.l13, h.ne⟩
  · rcases hat with e | e
    · rw [e]; exact h.sep
    · right
      rw [e]
      exact fun e2 => Nat.lt_irrefl _ (World.ownsRow.lt h.ownQ _ e2.symm).2
  · have := (World.ownsRow.lt h.ownP k e).1
    have := h.l12
    omega
theorem PST.appQ (h : PST V0 fold wss z at0 x12 x13 base V p q F G P Q) {Q' : List HitP} (ho : OwnH V' base v' Q') (hg : V.grownBy V' q.ownBlock) (hat : v'.ownBlock = q.ownBlock ∨ v'.ownBlock = some V.heap.size) : PST V0 fold wss z at0 x12 x13 base V' p v' F G P Q' := by
  have lt12 := (Array.getElem?_eq_some_iff.1 h.c12).1
  have lt13 := (Array.getElem?_eq_some_iff.1 h.c13).1
  have n12 : some x12 ≠ q.ownBlock := fun e => by have := (World.ownsRow.lt h.ownQ x12 e.symm).1; have := h.l12.2; omega
  have n13 : some x13 ≠ q.ownBlock := fun e => by have := (World.ownsRow.lt h.ownQ x13 e.symm).1; have := h.l13.2; omega
  refine ⟨(hg.block _ lt12 n12).trans h.c12, (hg.block _ lt13 n13).trans h.c13, World.ownsRow.kept h.ownP hg h.sep, ho, ?_, h.bel.grown hg h.bel.size (fun k e => ?_), Nat.le_trans h.bse hg.size, h.l12, h.l13, h.ne⟩
  · rcases h.sep with e | e
    · exact .inl e
    · rcases hat with e2 | e2
      · rw [e2]; exact .inr e
      · right
        rw [e2]
        exact fun e3 => Nat.lt_irrefl _ (World.ownsRow.lt h.ownP _ e3).2
  · have := (World.ownsRow.lt h.ownQ k e).1
    have := h.l12
    omega
end
end Go.Proofs.YtbiinfnekhhfkaaGreat

namespace Go.Proofs.YtbiinfnekhhfkaaGreat
open Go.RowKit Go.Sort
set_option linter.unusedVariables false
set_option linter.unusedSimpArgs false

section
variable {P : Program} {md : Region.Mode} {ops : Array Oper} {Q : Exit → Act → World → Prop} {S : World → Prop}
theorem wpAnyH_chainG (i j k : Nat) (Ri Rj Rk : Value → World → Prop) {oi oj ok : Oper} {fuel : Nat} {listed : Array Bool} {a : Act} {w : World} (hi : ops[i]? = some oi) (hj : ops[j]? = some oj) (hk : ops[k]? = some ok)
    (hr : Region.ready md ops listed = [i, k]) (hri : Region.ready md ops (listed.setIfInBounds i true) = [j, k]) (hrk : Region.ready md ops (listed.setIfInBounds k true) = [i])
    (hrik : Region.ready md ops ((listed.setIfInBounds i true).setIfInBounds k true) = [j])
    (hik : i ≠ k) (hjk : j ≠ k) (hnik : oi.dst ≠ ok.dst) (hnjk : oj.dst ≠ ok.dst) (hS : S w)
    (mi : ∀ v (w w' : World), Ri v w → RowKit.Below w.heap.size w w' → Ri v w') (mj : ∀ v (w w' : World), Rj v w → RowKit.Below w.heap.size w w' → Rj v w') (mk : ∀ v (w w' : World), Rk v w → RowKit.Below w.heap.size w w' → Rk v w')
    (yi : StepsG P ops Q S oi Ri a) (yk : StepsG P ops Q S ok Rk a) (yi' : ∀ vk, StepsG P ops Q S oi Ri (a.put ok.dst vk))
    (yj : ∀ vi, StepsG P ops Q (fun w => S w ∧ Ri vi w) oj Rj (a.put oi.dst vi)) (yk' : ∀ vi, StepsG P ops Q S ok Rk (a.put oi.dst vi))
    (yj' : ∀ vi vk, StepsG P ops Q (fun w => S w ∧ Ri vi w) oj Rj ((a.put oi.dst vi).put ok.dst vk))
    (H2 : ∀ vi vj w', S w' → Ri vi w' → Rj vj w' → RowKit.Below w.heap.size w w' → wpAnyH P md ops Q S (fuel + 1) ((listed.setIfInBounds i true).setIfInBounds j true) ((a.put oi.dst vi).put oj.dst vj) w')
    (H : ∀ vi vj vk w', S w' → Ri vi w' → Rj vj w' → Rk vk w' → RowKit.Below w.heap.size w w' → wpAnyH P md ops Q S fuel (((listed.setIfInBounds i true).setIfInBounds j true).setIfInBounds k true) (((a.put oi.dst vi).put oj.dst vj).put ok.dst vk) w') : wpAnyH P md ops Q S (fuel + 3) listed a w := by
  have hdi : ∀ d, ok.dst = some d → oi.dst ≠ some d := fun d h1 h2 => hnik (h2.trans h1.symm)
  have hdj : ∀ d, ok.dst = some d → oj.dst ≠ some d := fun d h1 h2 => hnjk (h2.trans h1.symm)
  -- behind i and k, in the spelling i, k
  have tail : ∀ vi vk (u : World), S u → Ri vi u → Rk vk u → RowKit.Below w.heap.size w u → wpAnyH P md ops Q S (fuel + 1) ((listed.setIfInBounds i true).setIfInBounds k true) ((a.put oi.dst vi).put ok.dst vk) u := fun vi vk u hSu hRi hRk hb => by
    refine wpAnyH_ready hrik (by simp) (AllReadyH.cons hj (fun K hK => yj' vi vk u ⟨hSu, hRi⟩ K (fun vj u' hS' hRj hb2 => hK.out _ _ hS'.1 (fun _ => ?_))) AllReadyH.nil)
    have h := H vi vj vk u' hS'.1 hS'.2 hRj (mk _ _ _ hRk hb2) (hb.trans (hb2.mono hb.size))
    rw [Array.setIfInBounds_comm _ _ hjk, ← Act.put_comm (a.put oi.dst vi) vk vj hdj] at h
    exact h
  refine wpAnyH_ready hr (by simp) (AllReadyH.cons hi (fun K hK => yi w hS K (fun vi u hSu hRi hb => hK.out _ _ hSu (fun _ => ?_))) (AllReadyH.cons hk (fun K hK => yk w hS K (fun vk u hSu hRk hb => hK.out _ _ hSu (fun _ => ?_))) AllReadyH.nil))
  · refine wpAnyH_ready hri (by simp) (AllReadyH.cons hj (fun K hK => yj vi u ⟨hSu, hRi⟩ K (fun vj u2 hS2 hRj hb2 => hK.out _ _ hS2.1 (fun _ => ?_))) (AllReadyH.cons hk (fun K hK => yk' vi u hSu K (fun vk u2 hS2 hRk hb2 => hK.out _ _ hS2 (fun _ => tail vi vk u2 hS2 (mi _ _ _ hRi hb2) hRk (hb.trans (hb2.mono hb.size))))) AllReadyH.nil))
    exact H2 vi vj u2 hS2.1 hS2.2 hRj (hb.trans (hb2.mono hb.size))
  · refine wpAnyH_ready hrk (by simp) (AllReadyH.cons hi (fun K hK => yi' vk u hSu K (fun vi u2 hS2 hRi hb2 => hK.out _ _ hS2 (fun _ => ?_))) AllReadyH.nil)
    have h := tail vi vk u2 hS2 hRi (mk _ _ _ hRk hb2) (hb.trans (hb2.mono hb.size))
    rw [Array.setIfInBounds_comm _ _ hik, ← Act.put_comm a vk vi hdi] at h
    exact h
end
end Go.Proofs.YtbiinfnekhhfkaaGreat

namespace Go.Proofs.YtbiinfnekhhfkaaGreat
open Go.RowKit Go.Sort
set_option linter.unusedVariables false
set_option linter.unusedSimpArgs false

theorem wrap_succ (k : Nat) (h : k ≤ 1000) : IntKind.i64.wrap ((k : Int) + 1) = (k : Int) + 1 := by
  rw [IntKind.wrap_i64]
  omega

set_option maxRecDepth 100000 in
set_option maxHeartbeats 16000000 in
theorem streamParts_walk (fold : Bool) (a : Option Addr) (la ca : Nat) (z at_ : Int) (b : Option Addr) (lb cb : Nat) (wss css : List (List Int)) (w : World) (hA : Wds w a la wss) (hC : Wds w b lb css) :
    Calls Tryz.prog 13 #[.agg (setV fold a la ca), scV z at_, .slice b lb cb] w fun e w' => e = .returned (.bool true) ∧ Below w.heap.size w w' := by
  obtain ⟨i0, hi, hz0, hz1, hz2⟩ := info_parts hit_info
  have HL := Lib.hid hA.len
  have HCL := Lib.hid hC.len
  obtain ⟨W, hW⟩ : ∃ W, W = (w.alloc (.cells (setV fold a la ca) 24)).alloc (.cells #[.int .i64 z, .int .i64 at_] 88) := ⟨_, rfl⟩
  have hB : Below w.heap.size w W := by rw [hW]; exact ((Below.refl _ _).alloc (Nat.le_refl _) _).alloc (by simp) _
  have hO : Bx w.heap.size [.cells (setV fold a la ca) 24, .cells #[.int .i64 z, .int .i64 at_] 88] W := by rw [hW]; exact ((Bx.nil _ w).snoc _ rfl).snoc _ (by simp)
  have s0 : W.cell? ⟨w.heap.size, 0, none⟩ = some (.bool fold) := hO.cell (i := 0) rfl rfl
  have s1 : W.cell? ⟨w.heap.size, 1, none⟩ = some (.slice a la ca) := hO.cell (i := 0) rfl rfl
  have KS : Hid (∀ V, RowKit.Below W.heap.size W V → V.cell? ⟨w.heap.size, 0, none⟩ = some (.bool fold) ∧ V.cell? ⟨w.heap.size, 1, none⟩ = some (.slice a la ca) ∧ V.cell? ⟨w.heap.size + 1, 0, none⟩ = some (.int .i64 z) ∧ V.cell? ⟨w.heap.size + 1, 1, none⟩ = some (.int .i64 at_)) := fun V hV =>
    have h := hO.below hV
    ⟨h.cell (i := 0) rfl rfl, h.cell (i := 0) rfl rfl, h.cell (i := 1) rfl rfl, h.cell (i := 1) rfl rfl⟩
  have hg := great14_any fold a b la ca lb cb wss css W (hA.below hB) (hC.below hB)
  obtain ⟨G, hG⟩ : ∃ G, great14 wss css = G := ⟨_, rfl⟩
  rw [hG] at hg
  have HG := Lib.hid hg
  have HA := Lib.hid (hA.below hB)
  have HC := Lib.hid (hC.below hB)
  have HB := Lib.hid hB
  clear hg hA hC hB hO
  go_enter Tryz.func13, Tryz.ntmps13
  go_upto_region 1 with fail
  rw [← hW]
  clear hW
  go_wp2_with fail
  refine HG.out.mono ?_
  rintro e w1 ⟨rfl, hb1⟩
  clear s0 s1 HG
  cases G with
  | true =>
    go_wp2_with fail
    refine (wakes14 _).mono ?_
    rintro e w9 ⟨rfl, hb9⟩
    go_wp2
    go_ret
    exact ⟨rfl, HB.out.trans ((hb1.trans (hb9.mono hb1.size)).mono HB.out.size)⟩
  | false =>
    obtain ⟨k0, k1, k2, k3⟩ := great14_false hG
    obtain ⟨g1, g2, g3⟩ := gr8_bd k0 fold
    rw [HL.out] at g1
    rw [HCL.out] at k1
    have hM : ∀ x ∈ wss, x.length ≤ 1000000 := fun x hx => by have := g2 x hx; omega
    have HM := Lib.hid hM
    have HT := Lib.hid k3
    have HBG : Hid ((begL fold wss).length ≤ 1000000) := by rw [Hid]; omega
    have hla : la ≤ 80 := g1
    have hlb : lb ≤ 30 := k1
    have hR := rright14_any fold a la ca z at_ wss w1 (HA.out.below hb1) (by omega) hM
    obtain ⟨s0, s1, s2, s3⟩ := KS.out w1 hb1
    obtain ⟨Rb, hRb⟩ : ∃ X, (rightP fold wss && scanR (nodesL wss).length z at_) = X := ⟨_, rfl⟩
    rw [hRb] at hR
    have HR := Lib.hid hR
    clear hR hG k0 k1 k2 k3 g1 g2 g3 hM
    cases Rb with
    | false =>
      clear hRb
      go_wp2_with fail
      refine HR.out.mono ?_
      rintro e w2 ⟨rfl, hb2⟩
      have hb12 := hb1.trans (hb2.mono hb1.size)
      clear s0 s1 s2 s3
      go_wp2_with fail
      refine (wakes14 _).mono ?_
      rintro e w9 ⟨rfl, hb9⟩
      go_wp2
      go_ret
      exact ⟨rfl, HB.out.trans ((hb12.trans (hb9.mono hb12.size)).mono HB.out.size)⟩
    | true =>
      rw [Bool.and_eq_true] at hRb
      obtain ⟨hr, hsc⟩ := hRb
      have HRT : Hid (rightP fold wss = true) := hr
      unfold scanR at hsc
      obtain ⟨⟨hz0', hz1'⟩, ha0, ha1⟩ := of_decide_eq_true hsc
      obtain ⟨zn, rfl⟩ : ∃ y : Nat, z = (y : Int) := ⟨z.toNat, by omega⟩
      have hZN : Hid (zn < (nodesL wss).length) := by rw [Hid]; omega
      clear hr hsc hz0' hz1' ha1
      go_wp2_with fail
      refine HR.out.mono ?_
      rintro e w2 ⟨rfl, hb2⟩
      have hb12 := hb1.trans (hb2.mono hb1.size)
      clear s0 s1 s2 s3 HR hb1 hb2
      obtain ⟨s0, s1, s2, s3⟩ := KS.out w2 hb12
      by_cases hf1 : 4611686018427387904 < at_
      · have d4 : decide ((4611686018427387904 : Int) < at_) = true := by simp; omega
        go_wp2_with fail
        refine (wakes14 _).mono ?_
        rintro e w9 ⟨rfl, hb9⟩
        go_wp2
        go_ret
        exact ⟨rfl, HB.out.trans ((hb12.trans (hb9.mono hb12.size)).mono HB.out.size)⟩
      · have d4 : decide ((4611686018427387904 : Int) < at_) = false := by simp; omega
        have hf1' : at_ ≤ 4611686018427387904 := by omega
        have HM3 := Lib.hid (compile13_use fold a la ca wss w2 (HA.out.below hb12) (by omega) HM.out HBG.out HRT.out)
        go_upto_region 4 with (go_at_call 17; refine HM3.out.mono ?_; rintro e w3 ⟨B, rfl, hU3⟩)
        clear s0 s1 s2 s3 HM3 d4 hf1
        have hb13 := hb12.trans (hU3.bel.mono hb12.size)
        have KU : Hid (∀ V, RowKit.Below w3.heap.size w3 V → MUse w2 B fold wss V ∧ (V.cell? ⟨w.heap.size, 0, none⟩ = some (.bool fold) ∧ V.cell? ⟨w.heap.size, 1, none⟩ = some (.slice a la ca) ∧ V.cell? ⟨w.heap.size + 1, 0, none⟩ = some (.int .i64 (zn : Int)) ∧ V.cell? ⟨w.heap.size + 1, 1, none⟩ = some (.int .i64 at_)) ∧ Wds V b lb css ∧ RowKit.Below w.heap.size w V) := fun V hV => by
          have h := hb13.trans (hV.mono hb13.size)
          exact ⟨hU3.below hV, KS.out V h, HC.out.below h, HB.out.trans (h.mono HB.out.size)⟩
        clear hU3 hb12 hb13 HC HA KS HBG HB HM
        have b3 : RowKit.Below w3.heap.size w3 w3 := Below.refl _ _
        have hT := HT.out
        obtain ⟨FF, hFF⟩ : ∃ T, css.flatten = T := ⟨_, rfl⟩
        have KFD : Hid (∀ (V : World) (zc : Nat) (tc : Int) (A : Option Addr) (n c : Nat) (cs : List (List Int)) (y : List Int), RowKit.Below w3.heap.size w3 V → zc < (nodesL wss).length → 0 ≤ tc → tc + y.length ≤ 4611686020574871551 → Wds V A n cs → n ≤ 1000 → y.length ≤ 200 → cs.flatten = y →
            Calls Tryz.prog 55 #[.pointer (some ⟨B, 0, none⟩), .agg #[.int .i64 (zc : Int), .int .i64 tc], .slice A n c] V fun e w' => ∃ (a1 : Option Addr) (c1 : Nat), e = .returned (.tuple #[.agg #[.int .i64 (feedZ fold wss zc y : Nat), .int .i64 (tc + (y.length : Int))], .slice a1 (scanH fold wss zc tc y).length c1, .int .i64 0]) ∧
              Hts w' a1 (scanH fold wss zc tc y).length (scanH fold wss zc tc y) ∧ (scanH fold wss zc tc y).length ≤ 80000 ∧ OwnH w' V.heap.size (.slice a1 (scanH fold wss zc tc y).length c1) (scanH fold wss zc tc y) ∧ (∀ h ∈ scanH fold wss zc tc y, I64 h.1 ∧ I64 h.2) ∧ RowKit.Below V.heap.size V w') := fun V zc tc A n c cs y hV hzc h0 h1 hc hn hy hcy => by
          have h := feed14_w ((KU.out V hV).1) HRT.out zc tc A n c cs hc (by omega) (by rw [hcy]; omega)
          rw [hcy] at h
          obtain ⟨r1, r2, r3, r4⟩ := fd_scanz (fold := fold) hzc h0 h1
          have hl := fdH_len HRT.out zc tc y
          rw [r2] at hl
          rw [r1, r2, r3, r4] at h
          refine h.mono ?_
          rintro e w' ⟨a1, c1, rfl, _, h2, h4, h3⟩
          exact ⟨a1, c1, rfl, h2, by omega, h4, h2.2, h3⟩
        have hTF : FF.length ≤ 200 := by rw [← hFF]; exact hT
        have H4 := Lib.hid (KFD.out w3 zn at_ b lb cb css FF b3 hZN.out ha0 (by omega) (KU.out w3 b3).2.2.1 (by omega) hTF hFF)
        obtain ⟨⟨s0, s1, s2, s3⟩, _⟩ := (KU.out w3 b3).2
        have HFF := Lib.hid hFF
        clear hFF
        obtain ⟨LL, hLL⟩ : ∃ T, scanH fold wss zn at_ FF = T := ⟨_, rfl⟩
        obtain ⟨nl, hnl⟩ : ∃ T, LL.length = T := ⟨_, rfl⟩
        obtain ⟨ZZ, hZZ⟩ : ∃ T : Int, ((feedZ fold wss zn FF : Nat) : Int) = T := ⟨_, rfl⟩
        obtain ⟨TT, hTT⟩ : ∃ T : Int, at_ + (FF.length : Int) = T := ⟨_, rfl⟩
        rw [hLL, hnl, hZZ, hTT] at H4
        have HLL := Lib.hid hLL
        have HZZ := Lib.hid hZZ
        have HTT := Lib.hid hTT
        have HNL := Lib.hid hnl
        clear hLL hnl hZZ hTT hT
        go_upto_region 5 with (go_at_call 55; refine H4.out.mono ?_; rintro e u4 ⟨a10, c10, rfl, hs10, hnl80, _, _, hb4⟩)
        obtain ⟨V4, hV⟩ : ∃ X, X = u4.alloc (.cells #[.int .i64 ZZ, .int .i64 TT] 88) := ⟨_, rfl⟩
        have hbb : RowKit.Below u4.heap.size u4 V4 := by rw [hV]; exact below_alloc _ _
        have hBX : V4.heap[u4.heap.size]? = some (.cells #[.int .i64 ZZ, .int .i64 TT] 88 (0, 0)) := by rw [hV]; exact World.alloc_heap_new _ _
        rw [← hV]
        have HS10 := Lib.hid (hs10.below hbb)
        obtain ⟨x9, hx⟩ : ∃ b, u4.heap.size = b := ⟨_, rfl⟩
        rw [hx] at hBX ⊢
        have hb34 := hb4.trans (hbb.mono hb4.size)
        have K4 : Hid (∀ V, RowKit.Below V4.heap.size V4 V → (V.cell? ⟨x9, 0, none⟩ = some (.int .i64 ZZ) ∧ V.cell? ⟨x9, 1, none⟩ = some (.int .i64 TT)) ∧ Hts V a10 nl LL ∧ RowKit.Below w3.heap.size w3 V) := fun V hV => by
          have h := (hV.block x9 (Array.getElem?_eq_some_iff.1 hBX).1).trans hBX
          exact ⟨⟨by simp [World.cell?, h], by simp [World.cell?, h]⟩, HS10.out.below hV, hb34.trans (hV.mono hb34.size)⟩
        clear hV hbb hBX hx hb4 hb34 hs10 HS10 H4 s0 s1 s2 s3 b3
        obtain ⟨⟨s0, s1, s2, s3⟩, _⟩ := (KU.out V4 (K4.out V4 (Below.refl _ _)).2.2).2
        go_upto_region 7 with fail
        go_cut [12, 13] (fun s12 s13 wx => ∃ y12 y13 : Nat, s12 = .pointer (some ⟨y12, 0, none⟩) ∧ s13 = .pointer (some ⟨y13, 0, none⟩) ∧ V4.heap.size ≤ y12 ∧ V4.heap.size ≤ y13 ∧ y12 ≠ y13 ∧ wx.heap[y12]? = some (.cells #[.int .i64 (zn : Int), .int .i64 at_] 88 (0, 0)) ∧ wx.heap[y13]? = some (.cells #[.int .i64 (zn : Int), .int .i64 at_] 88 (0, 0)) ∧ RowKit.Below V4.heap.size V4 wx)
        case first =>
          have hlt : w.heap.size + 1 < V4.heap.size := World.block_lt_of_cell? _ _ s2
          have hlt2 : w.heap.size + 1 < V4.heap.size + 1 := Nat.lt_succ_of_lt hlt
          have HTB := Lib.hid (two_bx V4 #[.int .i64 (zn : Int), .int .i64 at_] 88)
          go_region
          · go_wp2_with fail
            go_meet
            exact ⟨_, _, rfl, rfl, Nat.le_refl _, Nat.le_succ _, by omega, HTB.out.1, HTB.out.2.1, HTB.out.2.2⟩
          · go_wp2_with fail
            go_meet
            exact ⟨_, _, rfl, rfl, Nat.le_succ _, Nat.le_refl _, by omega, HTB.out.2.1, HTB.out.1, HTB.out.2.2⟩
        case rest =>
          clear s0 s1 s2 s3
          obtain ⟨y12, y13, rfl, rfl, l12, l13, hne, c12, c13, hb7⟩ := hcut
          obtain ⟨base, hbase⟩ : ∃ n, wc.heap.size = n := ⟨_, rfl⟩
          have h0 : Hid (PST V4 fold wss zn at_ y12 y13 base wc (.slice none 0 0) (.slice none 0 0) [] [] [] []) := by
            have e : scB fold wss zn at_ [] = .cells #[.int .i64 (zn : Int), .int .i64 at_] 88 (0, 0) := by simp [scB, feedZ_nil]
            have h12 := (Array.getElem?_eq_some_iff.1 c12).1
            have h13 := (Array.getElem?_eq_some_iff.1 c13).1
            exact ⟨c12.trans (by rw [e]), c13.trans (by rw [e]), World.ownsRow_nil _ _ _ _, World.ownsRow_nil _ _ _ _, .inl rfl, hb7, by rw [hbase]; exact Nat.le_refl _, ⟨l12, by rw [← hbase]; exact h12⟩, ⟨l13, by rw [← hbase]; exact h13⟩, hne⟩
          clear l12 l13 hne c12 c13 hb7 hbase
          have KLN : Hid (∀ G : List Int, G.length ≤ 200 → (scanH fold wss zn at_ G).length ≤ 80000) := fun G hG => by
            obtain ⟨_, r2, _⟩ := fd_scanz (fold := fold) (F := G) hZN.out ha0 (by omega)
            have hl := fdH_len HRT.out zn at_ G
            rw [r2] at hl
            omega
          have DD : Hid (∀ (V : World) (p q : Value) (F G : List Int) (P Q : List HitP), PST V4 fold wss zn at_ y12 y13 base V p q F G P Q → RowKit.Below w3.heap.size w3 V) := fun V p q F G P Q h => (K4.out V h.bel).2.2
          go_upto_region 10 with fail
          go_loopw [14, 15, 16] (fun s14 s15 s16 wr => ∃ (i : Nat) (p q : Value), p = s14 ∧ q = s15 ∧ i ≤ lb ∧ s16 = .int .i64 (i : Int) ∧ Hid (PST V4 fold wss zn at_ y12 y13 base wr p q (css.take i).flatten (css.take i).flatten (scanH fold wss zn at_ (css.take i).flatten) (scanH fold wss zn at_ (css.take i).flatten))) (fun _ _ s _ => lb - (intOf s).toNat)
          case atStart => exact ⟨0, _, _, rfl, rfl, Nat.zero_le _, rfl, by simpa [scanH] using h0⟩
          case round =>
            clear h0
            obtain ⟨i, p, q, rfl, rfl, hil, rfl, HP⟩ := hrel
            have hb3 := DD.out _ _ _ _ _ _ _ HP.out
            by_cases hlt : i < lb
            · have hd : decide ((i : Int) < (lb : Int)) = true := by simp; omega
              have hW := (KU.out w3 (Below.refl _ _)).2.2.1
              obtain ⟨bb, off, ax, lx, cx, x, rfl, hbl, hcell, hx, hX, hlc⟩ := hW.at_ hlt
              have KCH : Hid (∀ V, RowKit.Below w3.heap.size w3 V → V.cell? ⟨bb, off + i, none⟩ = some (.slice ax lx cx) ∧ Bys V ax lx x) := fun V hV => ⟨(hV.cell hbl).trans hcell, hX.below hV⟩
              obtain ⟨F, hF⟩ : ∃ F, (css.take i).flatten = F := ⟨_, rfl⟩
              have hF' : (css.take (i + 1)).flatten = F ++ x := by rw [take_step hx, List.flatten_append, hF]; simp
              rw [hF] at HP
              have hFl : F.length + x.length ≤ FF.length := by
                have h1 : FF = (css.take (i + 1)).flatten ++ (css.drop (i + 1)).flatten := by rw [← List.flatten_append, List.take_append_drop, HFF.out]
                rw [h1, hF']
                simp only [List.length_append]
                omega
              have HF' := Lib.hid hF'
              have eX : x.length = lx := hX.len
              obtain ⟨Zi, hZi⟩ : ∃ Z : Nat, feedZ fold wss zn F = Z := ⟨_, rfl⟩
              obtain ⟨Ti, hTi⟩ : ∃ T : Int, at_ + (F.length : Int) = T := ⟨_, rfl⟩
              have hZl : Zi < (nodesL wss).length := by rw [← hZi]; exact feedZ_lt hZN.out F
              have hTl : 0 ≤ Ti ∧ Ti + x.length ≤ 4611686020574871551 := by rw [← hTi]; omega
              have KC : Hid (∀ V, RowKit.Below wr.heap.size wr V → (V.cell? ⟨y12, 0, none⟩ = some (.int .i64 (Zi : Int)) ∧ V.cell? ⟨y12, 1, none⟩ = some (.int .i64 Ti)) ∧ V.cell? ⟨bb, off + i, none⟩ = some (.slice ax lx cx) ∧ Bys V ax lx x ∧ RowKit.Below w3.heap.size w3 V) := fun V hV => by
                have h := HP.out.below hV
                obtain ⟨g1, g2, _⟩ := scB_cells h.c12 (by rw [hZi]) hTi
                exact ⟨⟨g1, g2⟩, (KCH.out V (hb3.trans (hV.mono hb3.size))).1, (KCH.out V (hb3.trans (hV.mono hb3.size))).2, hb3.trans (hV.mono hb3.size)⟩
              obtain ⟨Zj, hZj⟩ : ∃ Z : Int, ((feedZ fold wss Zi x : Nat) : Int) = Z := ⟨_, rfl⟩
              obtain ⟨Tj, hTj⟩ : ∃ T : Int, Ti + (x.length : Int) = T := ⟨_, rfl⟩
              obtain ⟨H, hH⟩ : ∃ H, scanH fold wss Zi Ti x = H := ⟨_, rfl⟩
              obtain ⟨n1, hn1⟩ : ∃ n, H.length = n := ⟨_, rfl⟩
              have KF1 : Hid (∀ (V : World) (g : Nat), RowKit.Below wr.heap.size wr V → Wds V (some ⟨g, 0, none⟩) 1 [x] → Calls Tryz.prog 55 #[.pointer (some ⟨B, 0, none⟩), .agg #[.int .i64 (Zi : Int), .int .i64 Ti], .slice (some ⟨g, 0, none⟩) 1 1] V fun e w' => ∃ (a1 : Option Addr) (c1 : Nat), e = .returned (.tuple #[.agg #[.int .i64 Zj, .int .i64 Tj], .slice a1 n1 c1, .int .i64 0]) ∧ (OwnH w' wr.heap.size (.slice a1 n1 c1) H ∧ (∀ h ∈ H, I64 h.1 ∧ I64 h.2) ∧ n1 ≤ 80000) ∧ RowKit.Below V.heap.size V w') := fun V g hV hg => by
                have h := KFD.out V Zi Ti (some ⟨g, 0, none⟩) 1 1 [x] x (KC.out V hV).2.2.2 hZl hTl.1 hTl.2 hg (by decide) (by omega) (by simp)
                rw [hZj, hTj, hH, hn1] at h
                refine h.mono ?_
                rintro e w' ⟨a1, c1, rfl, _, h2, h3, h4, h5⟩
                exact ⟨a1, c1, rfl, ⟨row_mono h3 hV.size, h4, h2⟩, h5⟩
              have KZ : Hid (((feedZ fold wss zn (F ++ x) : Nat) : Int) = Zj) := by rw [Hid, feedZ_append, hZi, hZj]
              have KT : Hid (at_ + ((F ++ x).length : Int) = Tj) := by rw [Hid, ← hTj, ← hTi, List.length_append]; omega
              have KH : Hid (scanH fold wss zn at_ (F ++ x) = scanH fold wss zn at_ F ++ H) := by rw [Hid, scan_app2, hZi, hTi, hH]
              have HEX := Lib.hid eX
              have HFL := Lib.hid hFl
              have KX : Hid (lx ≤ cx) := hlc
              have KTI := Lib.hid hTi
              have KZI := Lib.hid hZi
              have KTL := Lib.hid hTl
              have KN := Lib.hid hn1
              have HFx := Lib.hid hF
              clear hW hcell hx hX hF hF' hFl eX hZi hTi hTl hZj hTj hH hn1 hb3 hbl
              go_upto_region 12 with fail
              clear hd
              go_cut [17, 18, 19] (fun s17 s18 s19 wx => ∃ (g12 : Nat) (a9 : Option Addr) (c9 : Nat), s17 = .pointer (some ⟨g12, 0, none⟩) ∧ s18 = .slice a9 n1 c9 ∧ s19 = .int .i64 0 ∧ RowKit.Below wr.heap.size wr wx ∧ wx.heap[g12]? = some (.cells #[.int .i64 Zj, .int .i64 Tj] 88 (0, 0)) ∧ wr.heap.size ≤ g12 ∧ OwnH wx wr.heap.size (.slice a9 n1 c9) H ∧ (∀ h ∈ H, I64 h.1 ∧ I64 h.2) ∧ n1 ≤ 80000)
              case first =>
                refine wp_region_noPanic ?_
                refine wp_region_held_drew (S := RowKit.Below wr.heap.size wr) (by kernel_rfl) (bel_drewN wr 1) (fun hS => ?_)
                obtain ⟨w5, hw5⟩ : ∃ X, X = wr.drew := ⟨_, rfl⟩
                rw [← hw5] at hS ⊢
                clear hw5
                have hil' : (i : Int) < (lb : Int) := by omega
                refine tkW 0 (v := ?_) ?_ ?_
                rotate_left
                · intro V hV
                  obtain ⟨⟨q0, q1⟩, q2, _⟩ := KC.out V hV
                  first | (go_simp; done) | (go_simp; with_reducible rfl)
                try simp only [Act.put, pA, pB, pC]
                refine tkW 1 (v := ?_) ?_ ?_
                rotate_left
                · intro V hV
                  obtain ⟨⟨q0, q1⟩, q2, _⟩ := KC.out V hV
                  first | (go_simp; done) | (go_simp; with_reducible rfl)
                try simp only [Act.put, pA, pB, pC]
                refine tkW 2 (v := ?_) ?_ ?_
                rotate_left
                · intro V hV
                  obtain ⟨⟨q0, q1⟩, q2, _⟩ := KC.out V hV
                  first | (go_simp; done) | (go_simp; with_reducible rfl)
                try simp only [Act.put, pA, pB, pC]
                refine tkW 3 (v := ?_) ?_ ?_
                rotate_left
                · intro V hV
                  obtain ⟨⟨q0, q1⟩, q2, _⟩ := KC.out V hV
                  first | (go_simp; done) | (go_simp; with_reducible rfl)
                try simp only [Act.put, pA, pB, pC]
                refine tkW 4 (v := ?_) ?_ ?_
                rotate_left
                · intro V hV
                  obtain ⟨⟨q0, q1⟩, q2, _⟩ := KC.out V hV
                  first | (go_simp; done) | (go_simp; with_reducible rfl)
                try simp only [Act.put, pA, pB, pC]
                refine tkW 5 (v := ?_) ?_ ?_
                rotate_left
                · intro V hV
                  obtain ⟨⟨q0, q1⟩, q2, _⟩ := KC.out V hV
                  first | (go_simp; done) | (go_simp; with_reducible rfl)
                try simp only [Act.put, pA, pB, pC]
                refine wpAnyH_chainG 6 7 12 (fun v X => ∃ g, v = .slice (some ⟨g, 0, none⟩) 1 1 ∧ Wds X (some ⟨g, 0, none⟩) 1 [x]) (fun v X => ∃ a1 c1, v = .tuple #[.agg #[.int .i64 Zj, .int .i64 Tj], .slice a1 n1 c1, .int .i64 0] ∧ OwnH X wr.heap.size (.slice a1 n1 c1) H ∧ (∀ h ∈ H, I64 h.1 ∧ I64 h.2) ∧ n1 ≤ 80000) (fun v X => ∃ g, v = .pointer (some ⟨g, 0, none⟩) ∧ X.heap[g]? = some (.cells #[.int .i64 0, .int .i64 0] 88 (0, 0)) ∧ wr.heap.size ≤ g) (by simp only [pD, pE, pF]; rfl) (by simp only [pD, pE, pF]; rfl) (by simp only [pD, pE, pF]; rfl) (by as_aux_lemma => kernel_rfl) (by as_aux_lemma => kernel_rfl) (by as_aux_lemma => kernel_rfl) (by as_aux_lemma => kernel_rfl) (by decide) (by decide) (by decide) (by decide) (by assumption) ?_ ?_ ?_ ?_ ?_ ?_ ?_ ?_ ?_ ?_ ?_
                · intro v V V2 hR hb
                  (obtain ⟨g, h1, h2⟩ := hR; exact ⟨g, h1, h2.below hb⟩)
                · intro v V V2 hR hb
                  (obtain ⟨a1, c1, h1, h2, h3⟩ := hR; exact ⟨a1, c1, h1, h2.below hb, h3⟩)
                · intro v V V2 hR hb
                  (obtain ⟨g, h1, h2, h3⟩ := hR; exact ⟨g, h1, (hb.block g (Array.getElem?_eq_some_iff.1 h2).1).trans h2, h3⟩)
                · intro V hV K hK
                  try simp only [Act.put, pA, pB, pC] at hK ⊢
                  go_simp
                  (exact hK _ _ (hV.trans ((below_alloc V _).mono hV.size)) ⟨_, rfl, wds1 (v1 := (ax, lx, cx)) (Sl1.lay (α := Option Addr × Nat × Nat) _ V [(ax, lx, cx)] _ _ rfl) ((KC.out V hV).2.2.1.below (below_alloc V _)) KX.out⟩ (below_alloc V _))
                · intro V hV K hK
                  try simp only [Act.put, pA, pB, pC] at hK ⊢
                  go_simp
                  (exact hK _ _ (hV.trans ((below_alloc V _).mono hV.size)) ⟨_, rfl, World.alloc_heap_new _ _, hV.size⟩ (below_alloc V _))
                · intro vk V hV K hK
                  try simp only [Act.put, pA, pB, pC] at hK ⊢
                  go_simp
                  (exact hK _ _ (hV.trans ((below_alloc V _).mono hV.size)) ⟨_, rfl, wds1 (v1 := (ax, lx, cx)) (Sl1.lay (α := Option Addr × Nat × Nat) _ V [(ax, lx, cx)] _ _ rfl) ((KC.out V hV).2.2.1.below (below_alloc V _)) KX.out⟩ (below_alloc V _))
                · intro vi V hV K hK
                  obtain ⟨hV, hR⟩ := hV
                  try simp only [Act.put, pA, pB, pC] at hK ⊢
                  (obtain ⟨g, rfl, hg⟩ := hR; go_simp; go_at_call 55; refine (KF1.out V g hV hg).mono ?_; rintro e w9 ⟨a9, c9, rfl, hs9, hb9⟩; exact hK _ _ ⟨hV.trans (hb9.mono hV.size), ⟨g, rfl, hg.below hb9⟩⟩ ⟨a9, c9, rfl, hs9⟩ hb9)
                · intro vi V hV K hK
                  try simp only [Act.put, pA, pB, pC] at hK ⊢
                  go_simp
                  (exact hK _ _ (hV.trans ((below_alloc V _).mono hV.size)) ⟨_, rfl, World.alloc_heap_new _ _, hV.size⟩ (below_alloc V _))
                · intro vi vk V hV K hK
                  obtain ⟨hV, hR⟩ := hV
                  try simp only [Act.put, pA, pB, pC] at hK ⊢
                  (obtain ⟨g, rfl, hg⟩ := hR; go_simp; go_at_call 55; refine (KF1.out V g hV hg).mono ?_; rintro e w9 ⟨a9, c9, rfl, hs9, hb9⟩; exact hK _ _ ⟨hV.trans (hb9.mono hV.size), ⟨g, rfl, hg.below hb9⟩⟩ ⟨a9, c9, rfl, hs9⟩ hb9)
                · rintro vi vj V1 hS1 ⟨g6, rfl, hw6⟩ ⟨a9, c9, rfl, ho9, hH9, hn9⟩ hbV
                  try simp only [Act.put, pA, pB, pC]
                  refine tkW 8 (v := ?_) ?_ ?_
                  rotate_left
                  · intro V hV
                    first | (go_simp; done) | (go_simp; with_reducible rfl)
                  try simp only [Act.put, pA, pB, pC]
                  refine tkW 9 (v := ?_) ?_ ?_
                  rotate_left
                  · intro V hV
                    first | (go_simp; done) | (go_simp; with_reducible rfl)
                  try simp only [Act.put, pA, pB, pC]
                  refine tkW 10 (v := ?_) ?_ ?_
                  rotate_left
                  · intro V hV
                    first | (go_simp; done) | (go_simp; with_reducible rfl)
                  try simp only [Act.put, pA, pB, pC]
                  refine tkW 11 (v := ?_) ?_ ?_
                  rotate_left
                  · intro V hV
                    first | (go_simp; done) | (go_simp; with_reducible rfl)
                  try simp only [Act.put, pA, pB, pC]
                  clear hw6 hbV
                  refine rdy 12 (fun K hK => ?_)
                  go_simp
                  refine hK.out _ _ (hS1.trans ((below_alloc V1 _).mono hS1.size)) (fun hS2 => ?_)
                  clear hK K
                  try simp only [Act.put, pA, pB, pC]
                  have hz12 := World.alloc_heap_new V1 (.cells #[.int .i64 0, .int .i64 0] 88)
                  have hl12 := hS1.size
                  have ho9 := ho9.below (below_alloc V1 (.cells #[.int .i64 0, .int .i64 0] 88))
                  obtain ⟨g12, hg12⟩ : ∃ g, V1.heap.size = g := ⟨_, rfl⟩
                  rw [hg12] at hz12 hl12 ⊢
                  clear hS1 hg12
                  obtain ⟨V2, hV2⟩ : ∃ X, X = V1.alloc (.cells #[.int .i64 0, .int .i64 0] 88) := ⟨_, rfl⟩
                  rw [← hV2] at hz12 ho9 hS2 ⊢
                  clear hV2
                  have hS1 := hS2
                  clear hS2
                  obtain ⟨z0, z1, z2, z3⟩ : V2.cell? ⟨g12, 0, none⟩ = some (.int .i64 0) ∧ V2.cell? ⟨g12, 1, none⟩ = some (.int .i64 0) ∧ V2.frozen? ⟨g12, 0, none⟩ = false ∧ V2.frozen? ⟨g12, 1, none⟩ = false := ⟨by simp [World.cell?, hz12], by simp [World.cell?, hz12], by simp [World.frozen?, hz12], by simp [World.frozen?, hz12]⟩
                  have HSET := Lib.hid (set2 (u0 := .int .i64 Zj) (u1 := .int .i64 Tj) hz12)
                  have HO9 := Lib.hid ho9
                  have HH9 := Lib.hid hH9
                  have HZ12 := Lib.hid hz12
                  have HL12 : Hid (wr.heap.size ≤ g12) := hl12
                  clear ho9 hz12 hl12 hH9
                  refine rdy 13 (fun K hK => ?_)
                  go_simp
                  refine hK.out _ _ ((hS1.setCell HL12.out _).setCell HL12.out _) (fun hS2 => ?_)
                  clear hK K z0 z1 z2 z3
                  try simp only [Act.put, pA, pB, pC]
                  refine tkW 14 (v := ?_) ?_ ?_
                  rotate_left
                  · intro V hV
                    first | (go_simp; done) | (go_simp; with_reducible rfl)
                  try simp only [Act.put, pA, pB, pC]
                  refine tkW 15 (v := ?_) ?_ ?_
                  rotate_left
                  · intro V hV
                    first | (go_simp; done) | (go_simp; with_reducible rfl)
                  try simp only [Act.put, pA, pB, pC]
                  refine wpAnyH_done (by kernel_rfl) ?_ _
                  refine NoPanic.normal ?_
                  have HU1 := Lib.hid (World.ownsRow.kept HO9.out HSET.out.2 (hits_ne HO9.out HZ12.out))
                  go_wp2_with fail
                  go_meet
                  exact ⟨_, _, _, rfl, rfl, rfl, hS2, HSET.out.1, HL12.out, HU1.out, HH9.out, hn9⟩
                · rintro vi vj vk V1 hS1 ⟨g6, rfl, hw6⟩ ⟨a9, c9, rfl, ho9, hH9, hn9⟩ ⟨g12, rfl, hz12, hl12⟩ hbV
                  try simp only [Act.put, pA, pB, pC]
                  refine tkW 8 (v := ?_) ?_ ?_
                  rotate_left
                  · intro V hV
                    first | (go_simp; done) | (go_simp; with_reducible rfl)
                  try simp only [Act.put, pA, pB, pC]
                  refine tkW 9 (v := ?_) ?_ ?_
                  rotate_left
                  · intro V hV
                    first | (go_simp; done) | (go_simp; with_reducible rfl)
                  try simp only [Act.put, pA, pB, pC]
                  refine tkW 10 (v := ?_) ?_ ?_
                  rotate_left
                  · intro V hV
                    first | (go_simp; done) | (go_simp; with_reducible rfl)
                  try simp only [Act.put, pA, pB, pC]
                  refine tkW 11 (v := ?_) ?_ ?_
                  rotate_left
                  · intro V hV
                    first | (go_simp; done) | (go_simp; with_reducible rfl)
                  try simp only [Act.put, pA, pB, pC]
                  clear hw6 hbV
                  obtain ⟨z0, z1, z2, z3⟩ : V1.cell? ⟨g12, 0, none⟩ = some (.int .i64 0) ∧ V1.cell? ⟨g12, 1, none⟩ = some (.int .i64 0) ∧ V1.frozen? ⟨g12, 0, none⟩ = false ∧ V1.frozen? ⟨g12, 1, none⟩ = false := ⟨by simp [World.cell?, hz12], by simp [World.cell?, hz12], by simp [World.frozen?, hz12], by simp [World.frozen?, hz12]⟩
                  have HSET := Lib.hid (set2 (u0 := .int .i64 Zj) (u1 := .int .i64 Tj) hz12)
                  have HO9 := Lib.hid ho9
                  have HH9 := Lib.hid hH9
                  have HZ12 := Lib.hid hz12
                  have HL12 : Hid (wr.heap.size ≤ g12) := hl12
                  clear ho9 hz12 hl12 hH9
                  refine rdy 13 (fun K hK => ?_)
                  go_simp
                  refine hK.out _ _ ((hS1.setCell HL12.out _).setCell HL12.out _) (fun hS2 => ?_)
                  clear hK K z0 z1 z2 z3
                  try simp only [Act.put, pA, pB, pC]
                  refine tkW 14 (v := ?_) ?_ ?_
                  rotate_left
                  · intro V hV
                    first | (go_simp; done) | (go_simp; with_reducible rfl)
                  try simp only [Act.put, pA, pB, pC]
                  refine tkW 15 (v := ?_) ?_ ?_
                  rotate_left
                  · intro V hV
                    first | (go_simp; done) | (go_simp; with_reducible rfl)
                  try simp only [Act.put, pA, pB, pC]
                  refine wpAnyH_done (by kernel_rfl) ?_ _
                  refine NoPanic.normal ?_
                  have HU1 := Lib.hid (World.ownsRow.kept HO9.out HSET.out.2 (hits_ne HO9.out HZ12.out))
                  go_wp2_with fail
                  go_meet
                  exact ⟨_, _, _, rfl, rfl, rfl, hS2, HSET.out.1, HL12.out, HU1.out, HH9.out, hn9⟩
              case rest =>
                obtain ⟨g12, a9, c9, rfl, rfl, rfl, hS2, hz12, hl12, hs9, hh9, hn9⟩ := hcut
                have HPU := Lib.hid (HP.out.below hS2)
                have HUO := Lib.hid hs9
                have HUH := Lib.hid hh9
                have HU12 := Lib.hid hz12
                have HBS : Hid (base ≤ wr.heap.size) := HP.out.bse
                have hPl : (scanH fold wss zn at_ F).length ≤ 80000 := KLN.out F (by have := HFL.out; omega)
                clear hs9 hz12 hl12 hS2 hh9 HP KF1 KC
                obtain ⟨t0, t1⟩ : wc.cell? ⟨g12, 0, none⟩ = some (.int .i64 Zj) ∧ wc.cell? ⟨g12, 1, none⟩ = some (.int .i64 Tj) := ⟨by simp [World.cell?, HU12.out], by simp [World.cell?, HU12.out]⟩
                obtain ⟨u0, u1, f0, f1, _⟩ := scB_cells HPU.out.c12 (Z' := (Zi : Int)) (by rw [KZI.out]) KTI.out
                go_upto_region 16 with fail
                obtain ⟨U2, hU2⟩ : ∃ X, X = (wc.setCell ⟨y12, 0, none⟩ (.int .i64 Zj)).setCell ⟨y12, 1, none⟩ (.int .i64 Tj) := ⟨_, rfl⟩
                have hP2 := HPU.out.sto12 KZ.out KT.out
                have hg2 := (set2 (u0 := .int .i64 Zj) (u1 := .int .i64 Tj) HPU.out.c12).2
                rw [← hU2] at hP2 hg2 ⊢
                have HP2 := Lib.hid hP2
                have ho2 := World.ownsRow.kept HUO.out hg2 (own_ne HUO.out (Nat.lt_of_lt_of_le HPU.out.l12.2 HBS.out))
                obtain ⟨a', c', e, _, hs⟩ := OwnH.hts ho2 HUH.out
                rw [KN.out] at hs e
                cases e
                have HS9 := Lib.hid hs
                clear hU2 hP2 hg2 ho2 hs t0 t1 u0 u1 f0 f1 HPU HUO HUH HU12
                obtain ⟨np, hnp⟩ : ∃ n, (scanH fold wss zn at_ F).length = n := ⟨_, rfl⟩
                rw [hnp] at hPl
                have ho := HP2.out.ownP
                unfold OwnH at ho
                rw [hnp] at ho
                have HOP := Lib.hid ho
                have HNP := Lib.hid hnp
                clear hnp ho
                go_upto_region 17 with (at_builtin; refine wpList_append_slK rfl _ _ 45 rfl base 61 i0 (.agg #[.int .i64 0, .int .i64 0]) 2 16 Tryz.underlying45 hi hz0 hz1 hz2 rfl (by decide) _ _ _ rfl HOP.out a9 n1 c9 (hcells H) rfl HS9.out.1 (hcells_one _) (by unfold maxLen; omega) (by omega) HP2.out.bse ?_; intro v' w5 hown' hgrow hat)
                have ho3 : OwnH w5 base v' (scanH fold wss zn at_ (F ++ x)) := by
                  rw [KH.out]
                  unfold OwnH
                  rw [List.length_append, hcells_append, KN.out, HNP.out]
                  exact hown'
                have h3 : Hid (PST V4 fold wss zn at_ y12 y13 base w5 v' q (F ++ x) (F ++ x.take 0) (scanH fold wss zn at_ (F ++ x)) (scanH fold wss zn at_ (F ++ x.take 0))) := by
                  have h := HP2.out.appP ho3 hgrow hat
                  rw [Hid]
                  simpa using h
                clear ho3 hown' hgrow hat HOP HNP HS9 HP2 hPl KN KH KT KZ hn9 KTI KZI KTL
                have hb5 := DD.out _ _ _ _ _ _ _ h3.out
                obtain ⟨hcell5, _⟩ := KCH.out w5 hb5
                go_upto_region 18 with fail
                clear hcell5 hb5
                go_loopw [15, 20] (fun s15 s20 wr => ∃ (k : Nat) (q2 : Value), q2 = s15 ∧ k ≤ lx ∧ s20 = .int .i64 (k : Int) ∧ Hid (PST V4 fold wss zn at_ y12 y13 base wr v' q2 (F ++ x) (F ++ x.take k) (scanH fold wss zn at_ (F ++ x)) (scanH fold wss zn at_ (F ++ x.take k)))) (fun _ s _ => lx - (intOf s).toNat)
                case atStart => exact ⟨0, _, rfl, Nat.zero_le _, rfl, h3⟩
                case round =>
                  clear h3
                  obtain ⟨k, q2, rfl, hkl, rfl, HQ⟩ := hrel
                  have hb3 := DD.out _ _ _ _ _ _ _ HQ.out
                  by_cases hk : k < lx
                  · have hd : decide ((k : Int) < (lx : Int)) = true := by simp; omega
                    obtain ⟨hcell, hX⟩ := KCH.out wr hb3
                    obtain ⟨y, hy⟩ : ∃ y, (x.drop k).take 1 = y := ⟨_, rfl⟩
                    have hyl : y.length = 1 := by rw [← hy]; have := HEX.out; simp; omega
                    have hG' : x.take (k + 1) = x.take k ++ y := by rw [← hy, List.take_add]
                    obtain ⟨G, hG⟩ : ∃ G, F ++ x.take k = G := ⟨_, rfl⟩
                    have hGG : F ++ x.take (k + 1) = G ++ y := by rw [hG', ← List.append_assoc, hG]
                    have hGl : G.length + 1 ≤ 200 := by
                      have h1 : G.length = F.length + k := by rw [← hG, List.length_append, List.length_take]; have := HEX.out; omega
                      have := HFL.out
                      have := HEX.out
                      omega
                    rw [hG] at HQ
                    have hYB : Hid (∀ V, RowKit.Below wr.heap.size wr V → Bys V (Option.map (fun z => z.add k) ax) 1 y) := fun V hV => by
                      rw [← hy]
                      exact Bys.cut ((KCH.out V (hb3.trans (hV.mono hb3.size))).2) (by omega)
                    obtain ⟨Zi, hZi⟩ : ∃ Z : Nat, feedZ fold wss zn G = Z := ⟨_, rfl⟩
                    obtain ⟨Ti, hTi⟩ : ∃ T : Int, at_ + (G.length : Int) = T := ⟨_, rfl⟩
                    have hZl : Zi < (nodesL wss).length := by rw [← hZi]; exact feedZ_lt hZN.out G
                    have hTl : 0 ≤ Ti ∧ Ti ≤ 4611686018427388104 := by rw [← hTi]; omega
                    have KC : Hid (∀ V, RowKit.Below wr.heap.size wr V → (V.cell? ⟨y13, 0, none⟩ = some (.int .i64 (Zi : Int)) ∧ V.cell? ⟨y13, 1, none⟩ = some (.int .i64 Ti)) ∧ V.cell? ⟨bb, off + i, none⟩ = some (.slice ax lx cx) ∧ Bys V (Option.map (fun z => z.add k) ax) 1 y ∧ RowKit.Below w3.heap.size w3 V) := fun V hV => by
                      have h := HQ.out.below hV
                      obtain ⟨g1, g2, _⟩ := scB_cells h.c13 (by rw [hZi]) hTi
                      exact ⟨⟨g1, g2⟩, (KCH.out V (hb3.trans (hV.mono hb3.size))).1, hYB.out V hV, hb3.trans (hV.mono hb3.size)⟩
                    obtain ⟨Zj, hZj⟩ : ∃ Z : Int, ((feedZ fold wss Zi y : Nat) : Int) = Z := ⟨_, rfl⟩
                    obtain ⟨H, hH⟩ : ∃ H, scanH fold wss Zi Ti y = H := ⟨_, rfl⟩
                    obtain ⟨n1, hn1⟩ : ∃ n, H.length = n := ⟨_, rfl⟩
                    have KF2 : Hid (∀ (V : World) (g : Nat), RowKit.Below wr.heap.size wr V → Wds V (some ⟨g, 0, none⟩) 1 [y] → Calls Tryz.prog 55 #[.pointer (some ⟨B, 0, none⟩), .agg #[.int .i64 (Zi : Int), .int .i64 Ti], .slice (some ⟨g, 0, none⟩) 1 1] V fun e w' => ∃ (a1 : Option Addr) (c1 : Nat), e = .returned (.tuple #[.agg #[.int .i64 Zj, .int .i64 (Ti + 1)], .slice a1 n1 c1, .int .i64 0]) ∧ (OwnH w' wr.heap.size (.slice a1 n1 c1) H ∧ (∀ h ∈ H, I64 h.1 ∧ I64 h.2) ∧ n1 ≤ 80000) ∧ RowKit.Below V.heap.size V w') := fun V g hV hg => by
                      have h := KFD.out V Zi Ti (some ⟨g, 0, none⟩) 1 1 [y] y (KC.out V hV).2.2.2 hZl hTl.1 (by rw [hyl]; omega) hg (by decide) (by omega) (by simp)
                      rw [hZj, hyl, hH, hn1] at h
                      refine h.mono ?_
                      rintro e w' ⟨a1, c1, rfl, _, h2, h3, h4, h5⟩
                      exact ⟨a1, c1, rfl, ⟨row_mono h3 hV.size, h4, h2⟩, h5⟩
                    have KZ : Hid (((feedZ fold wss zn (G ++ y) : Nat) : Int) = Zj) := by rw [Hid, feedZ_append, hZi, hZj]
                    have KT : Hid (at_ + ((G ++ y).length : Int) = Ti + 1) := by rw [Hid, ← hTi, List.length_append, hyl]; omega
                    have KH : Hid (scanH fold wss zn at_ (G ++ y) = scanH fold wss zn at_ G ++ H) := by rw [Hid, scan_app2, hZi, hTi, hH]
                    have KX1 : Hid ((1 : Nat) ≤ cx - k) := by have := KX.out; rw [Hid]; omega
                    have KTI := Lib.hid hTi
                    have KZI := Lib.hid hZi
                    have KN := Lib.hid hn1
                    have HGG := Lib.hid hGG
                    have HGl := Lib.hid hGl
                    have hcxk : lx ≤ cx := KX.out
                    have hck : ¬ cx = k := by omega
                    have kw : IntKind.i64.wrap ((k : Int) + 1) = (k : Int) + 1 := wrap_succ k (by have := HFL.out; have := HEX.out; omega)
                    have kt : ((k : Int) + 1).toNat = k + 1 := by omega
                    have k1 : (k : Int) + 1 ≤ (cx : Int) := by omega
                    have k0 : (0 : Int) ≤ (k : Int) + 1 := by omega
                    have kd : k + 1 - k = 1 := by omega
                    have hTl1 : 0 ≤ Ti := hTl.1
                    have hTl2 : Ti ≤ 4611686018427388104 := hTl.2
                    clear hX hy hyl hG' hG hGG hGl hYB hZi hTi hZl hTl hZj hH hn1
                    go_upto_region 20 with fail
                    clear hcell
                    clear hd
                    go_cut [21, 22, 23] (fun s17 s18 s19 wx => ∃ (g12 : Nat) (a9 : Option Addr) (c9 : Nat), s17 = .pointer (some ⟨g12, 0, none⟩) ∧ s18 = .slice a9 n1 c9 ∧ s19 = .int .i64 0 ∧ RowKit.Below wr.heap.size wr wx ∧ wx.heap[g12]? = some (.cells #[.int .i64 Zj, .int .i64 (Ti + 1)] 88 (0, 0)) ∧ wr.heap.size ≤ g12 ∧ OwnH wx wr.heap.size (.slice a9 n1 c9) H ∧ (∀ h ∈ H, I64 h.1 ∧ I64 h.2) ∧ n1 ≤ 80000)
                    case first =>
                      refine wp_region_noPanic ?_
                      refine wp_region_held_drew (S := RowKit.Below wr.heap.size wr) (by kernel_rfl) (bel_drewN wr 1) (fun hS => ?_)
                      obtain ⟨w5, hw5⟩ : ∃ X, X = wr.drew := ⟨_, rfl⟩
                      rw [← hw5] at hS ⊢
                      clear hw5
                      have hil' : (i : Int) < (lb : Int) := by omega
                      refine tkW 0 (v := ?_) ?_ ?_
                      rotate_left
                      · intro V hV
                        obtain ⟨⟨q0, q1⟩, q2, _⟩ := KC.out V hV
                        first | (go_simp; done) | (go_simp; with_reducible rfl)
                      try simp only [Act.put, pA, pB, pC]
                      refine tkW 1 (v := ?_) ?_ ?_
                      rotate_left
                      · intro V hV
                        obtain ⟨⟨q0, q1⟩, q2, _⟩ := KC.out V hV
                        first | (go_simp; done) | (go_simp; with_reducible rfl)
                      try simp only [Act.put, pA, pB, pC]
                      refine tkW 2 (v := ?_) ?_ ?_
                      rotate_left
                      · intro V hV
                        obtain ⟨⟨q0, q1⟩, q2, _⟩ := KC.out V hV
                        first | (go_simp; done) | (go_simp; with_reducible rfl)
                      try simp only [Act.put, pA, pB, pC]
                      refine tkW 3 (v := ?_) ?_ ?_
                      rotate_left
                      · intro V hV
                        obtain ⟨⟨q0, q1⟩, q2, _⟩ := KC.out V hV
                        first | (go_simp; done) | (go_simp; with_reducible rfl)
                      try simp only [Act.put, pA, pB, pC]
                      refine tkW 4 (v := ?_) ?_ ?_
                      rotate_left
                      · intro V hV
                        obtain ⟨⟨q0, q1⟩, q2, _⟩ := KC.out V hV
                        first | (go_simp; done) | (go_simp; with_reducible rfl)
                      try simp only [Act.put, pA, pB, pC]
                      refine tkW 5 (v := ?_) ?_ ?_
                      rotate_left
                      · intro V hV
                        obtain ⟨⟨q0, q1⟩, q2, _⟩ := KC.out V hV
                        first | (go_simp; done) | (go_simp; with_reducible rfl)
                      try simp only [Act.put, pA, pB, pC]
                      refine tkW 6 (v := ?_) ?_ ?_
                      rotate_left
                      · intro V hV
                        obtain ⟨⟨q0, q1⟩, q2, _⟩ := KC.out V hV
                        first | (go_simp; done) | (go_simp; with_reducible rfl)
                      try simp only [Act.put, pA, pB, pC]
                      refine tkW 7 (v := ?_) ?_ ?_
                      rotate_left
                      · intro V hV
                        obtain ⟨⟨q0, q1⟩, q2, _⟩ := KC.out V hV
                        first | (go_simp; done) | (go_simp; with_reducible rfl)
                      try simp only [Act.put, pA, pB, pC]
                      refine tkW 8 (v := ?_) ?_ ?_
                      rotate_left
                      · intro V hV
                        obtain ⟨⟨q0, q1⟩, q2, _⟩ := KC.out V hV
                        first | (go_simp; done) | (go_simp; with_reducible rfl)
                      try simp only [Act.put, pA, pB, pC]
                      refine tkW 9 (v := ?_) ?_ ?_
                      rotate_left
                      · intro V hV
                        obtain ⟨⟨q0, q1⟩, q2, _⟩ := KC.out V hV
                        first | (go_simp; done) | (go_simp; with_reducible rfl)
                      try simp only [Act.put, pA, pB, pC]
                      refine wpAnyH_chainG 10 11 16 (fun v X => ∃ g, v = .slice (some ⟨g, 0, none⟩) 1 1 ∧ Wds X (some ⟨g, 0, none⟩) 1 [y]) (fun v X => ∃ a1 c1, v = .tuple #[.agg #[.int .i64 Zj, .int .i64 (Ti + 1)], .slice a1 n1 c1, .int .i64 0] ∧ OwnH X wr.heap.size (.slice a1 n1 c1) H ∧ (∀ h ∈ H, I64 h.1 ∧ I64 h.2) ∧ n1 ≤ 80000) (fun v X => ∃ g, v = .pointer (some ⟨g, 0, none⟩) ∧ X.heap[g]? = some (.cells #[.int .i64 0, .int .i64 0] 88 (0, 0)) ∧ wr.heap.size ≤ g) (by simp only [pD, pE, pF]; rfl) (by simp only [pD, pE, pF]; rfl) (by simp only [pD, pE, pF]; rfl) (by as_aux_lemma => kernel_rfl) (by as_aux_lemma => kernel_rfl) (by as_aux_lemma => kernel_rfl) (by as_aux_lemma => kernel_rfl) (by decide) (by decide) (by decide) (by decide) (by assumption) ?_ ?_ ?_ ?_ ?_ ?_ ?_ ?_ ?_ ?_ ?_
                      · intro v V V2 hR hb
                        (obtain ⟨g, h1, h2⟩ := hR; exact ⟨g, h1, h2.below hb⟩)
                      · intro v V V2 hR hb
                        (obtain ⟨a1, c1, h1, h2, h3⟩ := hR; exact ⟨a1, c1, h1, h2.below hb, h3⟩)
                      · intro v V V2 hR hb
                        (obtain ⟨g, h1, h2, h3⟩ := hR; exact ⟨g, h1, (hb.block g (Array.getElem?_eq_some_iff.1 h2).1).trans h2, h3⟩)
                      · intro V hV K hK
                        try simp only [Act.put, pA, pB, pC] at hK ⊢
                        go_simp
                        (exact hK _ _ (hV.trans ((below_alloc V _).mono hV.size)) ⟨_, rfl, wds1 (v1 := (Option.map (fun z => z.add k) ax, 1, cx - k)) (Sl1.lay (α := Option Addr × Nat × Nat) _ V [(Option.map (fun z => z.add k) ax, 1, cx - k)] _ _ rfl) ((KC.out V hV).2.2.1.below (below_alloc V _)) KX1.out⟩ (below_alloc V _))
                      · intro V hV K hK
                        try simp only [Act.put, pA, pB, pC] at hK ⊢
                        go_simp
                        (exact hK _ _ (hV.trans ((below_alloc V _).mono hV.size)) ⟨_, rfl, World.alloc_heap_new _ _, hV.size⟩ (below_alloc V _))
                      · intro vk V hV K hK
                        try simp only [Act.put, pA, pB, pC] at hK ⊢
                        go_simp
                        (exact hK _ _ (hV.trans ((below_alloc V _).mono hV.size)) ⟨_, rfl, wds1 (v1 := (Option.map (fun z => z.add k) ax, 1, cx - k)) (Sl1.lay (α := Option Addr × Nat × Nat) _ V [(Option.map (fun z => z.add k) ax, 1, cx - k)] _ _ rfl) ((KC.out V hV).2.2.1.below (below_alloc V _)) KX1.out⟩ (below_alloc V _))
                      · intro vi V hV K hK
                        obtain ⟨hV, hR⟩ := hV
                        try simp only [Act.put, pA, pB, pC] at hK ⊢
                        (obtain ⟨g, rfl, hg⟩ := hR; go_simp; go_at_call 55; refine (KF2.out V g hV hg).mono ?_; rintro e w9 ⟨a9, c9, rfl, hs9, hb9⟩; exact hK _ _ ⟨hV.trans (hb9.mono hV.size), ⟨g, rfl, hg.below hb9⟩⟩ ⟨a9, c9, rfl, hs9⟩ hb9)
                      · intro vi V hV K hK
                        try simp only [Act.put, pA, pB, pC] at hK ⊢
                        go_simp
                        (exact hK _ _ (hV.trans ((below_alloc V _).mono hV.size)) ⟨_, rfl, World.alloc_heap_new _ _, hV.size⟩ (below_alloc V _))
                      · intro vi vk V hV K hK
                        obtain ⟨hV, hR⟩ := hV
                        try simp only [Act.put, pA, pB, pC] at hK ⊢
                        (obtain ⟨g, rfl, hg⟩ := hR; go_simp; go_at_call 55; refine (KF2.out V g hV hg).mono ?_; rintro e w9 ⟨a9, c9, rfl, hs9, hb9⟩; exact hK _ _ ⟨hV.trans (hb9.mono hV.size), ⟨g, rfl, hg.below hb9⟩⟩ ⟨a9, c9, rfl, hs9⟩ hb9)
                      · rintro vi vj V1 hS1 ⟨g6, rfl, hw6⟩ ⟨a9, c9, rfl, ho9, hH9, hn9⟩ hbV
                        try simp only [Act.put, pA, pB, pC]
                        refine tkW 12 (v := ?_) ?_ ?_
                        rotate_left
                        · intro V hV
                          first | (go_simp; done) | (go_simp; with_reducible rfl)
                        try simp only [Act.put, pA, pB, pC]
                        refine tkW 13 (v := ?_) ?_ ?_
                        rotate_left
                        · intro V hV
                          first | (go_simp; done) | (go_simp; with_reducible rfl)
                        try simp only [Act.put, pA, pB, pC]
                        refine tkW 14 (v := ?_) ?_ ?_
                        rotate_left
                        · intro V hV
                          first | (go_simp; done) | (go_simp; with_reducible rfl)
                        try simp only [Act.put, pA, pB, pC]
                        refine tkW 15 (v := ?_) ?_ ?_
                        rotate_left
                        · intro V hV
                          first | (go_simp; done) | (go_simp; with_reducible rfl)
                        try simp only [Act.put, pA, pB, pC]
                        clear hw6 hbV
                        refine rdy 16 (fun K hK => ?_)
                        go_simp
                        refine hK.out _ _ (hS1.trans ((below_alloc V1 _).mono hS1.size)) (fun hS2 => ?_)
                        clear hK K
                        try simp only [Act.put, pA, pB, pC]
                        have hz12 := World.alloc_heap_new V1 (.cells #[.int .i64 0, .int .i64 0] 88)
                        have hl12 := hS1.size
                        have ho9 := ho9.below (below_alloc V1 (.cells #[.int .i64 0, .int .i64 0] 88))
                        obtain ⟨g12, hg12⟩ : ∃ g, V1.heap.size = g := ⟨_, rfl⟩
                        rw [hg12] at hz12 hl12 ⊢
                        clear hS1 hg12
                        obtain ⟨V2, hV2⟩ : ∃ X, X = V1.alloc (.cells #[.int .i64 0, .int .i64 0] 88) := ⟨_, rfl⟩
                        rw [← hV2] at hz12 ho9 hS2 ⊢
                        clear hV2
                        have hS1 := hS2
                        clear hS2
                        obtain ⟨z0, z1, z2, z3⟩ : V2.cell? ⟨g12, 0, none⟩ = some (.int .i64 0) ∧ V2.cell? ⟨g12, 1, none⟩ = some (.int .i64 0) ∧ V2.frozen? ⟨g12, 0, none⟩ = false ∧ V2.frozen? ⟨g12, 1, none⟩ = false := ⟨by simp [World.cell?, hz12], by simp [World.cell?, hz12], by simp [World.frozen?, hz12], by simp [World.frozen?, hz12]⟩
                        have HSET := Lib.hid (set2 (u0 := .int .i64 Zj) (u1 := .int .i64 (Ti + 1)) hz12)
                        have HO9 := Lib.hid ho9
                        have HH9 := Lib.hid hH9
                        have HZ12 := Lib.hid hz12
                        have HL12 : Hid (wr.heap.size ≤ g12) := hl12
                        clear ho9 hz12 hl12 hH9
                        refine rdy 17 (fun K hK => ?_)
                        go_simp
                        refine hK.out _ _ ((hS1.setCell HL12.out _).setCell HL12.out _) (fun hS2 => ?_)
                        clear hK K z0 z1 z2 z3
                        try simp only [Act.put, pA, pB, pC]
                        refine tkW 18 (v := ?_) ?_ ?_
                        rotate_left
                        · intro V hV
                          first | (go_simp; done) | (go_simp; with_reducible rfl)
                        try simp only [Act.put, pA, pB, pC]
                        refine tkW 19 (v := ?_) ?_ ?_
                        rotate_left
                        · intro V hV
                          first | (go_simp; done) | (go_simp; with_reducible rfl)
                        try simp only [Act.put, pA, pB, pC]
                        refine wpAnyH_done (by kernel_rfl) ?_ _
                        refine NoPanic.normal ?_
                        have HU1 := Lib.hid (World.ownsRow.kept HO9.out HSET.out.2 (hits_ne HO9.out HZ12.out))
                        go_wp2_with fail
                        go_meet
                        exact ⟨_, _, _, rfl, rfl, rfl, hS2, HSET.out.1, HL12.out, HU1.out, HH9.out, hn9⟩
                      · rintro vi vj vk V1 hS1 ⟨g6, rfl, hw6⟩ ⟨a9, c9, rfl, ho9, hH9, hn9⟩ ⟨g12, rfl, hz12, hl12⟩ hbV
                        try simp only [Act.put, pA, pB, pC]
                        refine tkW 12 (v := ?_) ?_ ?_
                        rotate_left
                        · intro V hV
                          first | (go_simp; done) | (go_simp; with_reducible rfl)
                        try simp only [Act.put, pA, pB, pC]
                        refine tkW 13 (v := ?_) ?_ ?_
                        rotate_left
                        · intro V hV
                          first | (go_simp; done) | (go_simp; with_reducible rfl)
                        try simp only [Act.put, pA, pB, pC]
                        refine tkW 14 (v := ?_) ?_ ?_
                        rotate_left
                        · intro V hV
                          first | (go_simp; done) | (go_simp; with_reducible rfl)
                        try simp only [Act.put, pA, pB, pC]
                        refine tkW 15 (v := ?_) ?_ ?_
                        rotate_left
                        · intro V hV
                          first | (go_simp; done) | (go_simp; with_reducible rfl)
                        try simp only [Act.put, pA, pB, pC]
                        clear hw6 hbV
                        obtain ⟨z0, z1, z2, z3⟩ : V1.cell? ⟨g12, 0, none⟩ = some (.int .i64 0) ∧ V1.cell? ⟨g12, 1, none⟩ = some (.int .i64 0) ∧ V1.frozen? ⟨g12, 0, none⟩ = false ∧ V1.frozen? ⟨g12, 1, none⟩ = false := ⟨by simp [World.cell?, hz12], by simp [World.cell?, hz12], by simp [World.frozen?, hz12], by simp [World.frozen?, hz12]⟩
                        have HSET := Lib.hid (set2 (u0 := .int .i64 Zj) (u1 := .int .i64 (Ti + 1)) hz12)
                        have HO9 := Lib.hid ho9
                        have HH9 := Lib.hid hH9
                        have HZ12 := Lib.hid hz12
                        have HL12 : Hid (wr.heap.size ≤ g12) := hl12
                        clear ho9 hz12 hl12 hH9
                        refine rdy 17 (fun K hK => ?_)
                        go_simp
                        refine hK.out _ _ ((hS1.setCell HL12.out _).setCell HL12.out _) (fun hS2 => ?_)
                        clear hK K z0 z1 z2 z3
                        try simp only [Act.put, pA, pB, pC]
                        refine tkW 18 (v := ?_) ?_ ?_
                        rotate_left
                        · intro V hV
                          first | (go_simp; done) | (go_simp; with_reducible rfl)
                        try simp only [Act.put, pA, pB, pC]
                        refine tkW 19 (v := ?_) ?_ ?_
                        rotate_left
                        · intro V hV
                          first | (go_simp; done) | (go_simp; with_reducible rfl)
                        try simp only [Act.put, pA, pB, pC]
                        refine wpAnyH_done (by kernel_rfl) ?_ _
                        refine NoPanic.normal ?_
                        have HU1 := Lib.hid (World.ownsRow.kept HO9.out HSET.out.2 (hits_ne HO9.out HZ12.out))
                        go_wp2_with fail
                        go_meet
                        exact ⟨_, _, _, rfl, rfl, rfl, hS2, HSET.out.1, HL12.out, HU1.out, HH9.out, hn9⟩
                    case rest =>
                      obtain ⟨g12, a9, c9, rfl, rfl, rfl, hS2, hz12, hl12, hs9, hh9, hn9⟩ := hcut
                      have HQU := Lib.hid (HQ.out.below hS2)
                      have HUO := Lib.hid hs9
                      have HUH := Lib.hid hh9
                      have HU12 := Lib.hid hz12
                      have HBS : Hid (base ≤ wr.heap.size) := HQ.out.bse
                      have hPl : (scanH fold wss zn at_ G).length ≤ 80000 := KLN.out G (by have := HGl.out; omega)
                      clear hs9 hz12 hl12 hS2 hh9 HQ KF2 KC hb3
                      obtain ⟨t0, t1⟩ : wc.cell? ⟨g12, 0, none⟩ = some (.int .i64 Zj) ∧ wc.cell? ⟨g12, 1, none⟩ = some (.int .i64 (Ti + 1)) := ⟨by simp [World.cell?, HU12.out], by simp [World.cell?, HU12.out]⟩
                      obtain ⟨u0, u1, f0, f1, _⟩ := scB_cells HQU.out.c13 (Z' := (Zi : Int)) (by rw [KZI.out]) KTI.out
                      go_upto_region 24 with fail
                      obtain ⟨U2, hU2⟩ : ∃ X, X = (wc.setCell ⟨y13, 0, none⟩ (.int .i64 Zj)).setCell ⟨y13, 1, none⟩ (.int .i64 (Ti + 1)) := ⟨_, rfl⟩
                      have hP2 := HQU.out.sto13 KZ.out KT.out
                      have hg2 := (set2 (u0 := .int .i64 Zj) (u1 := .int .i64 (Ti + 1)) HQU.out.c13).2
                      rw [← hU2] at hP2 hg2 ⊢
                      have HP2 := Lib.hid hP2
                      have ho2 := World.ownsRow.kept HUO.out hg2 (own_ne HUO.out (Nat.lt_of_lt_of_le HQU.out.l13.2 HBS.out))
                      obtain ⟨a', c', e, _, hs⟩ := OwnH.hts ho2 HUH.out
                      rw [KN.out] at hs e
                      cases e
                      have HS9 := Lib.hid hs
                      clear hU2 hP2 hg2 ho2 hs t0 t1 u0 u1 f0 f1 HQU HUO HUH HU12
                      obtain ⟨np, hnp⟩ : ∃ n, (scanH fold wss zn at_ G).length = n := ⟨_, rfl⟩
                      rw [hnp] at hPl
                      have ho := HP2.out.ownQ
                      unfold OwnH at ho
                      rw [hnp] at ho
                      have HOP := Lib.hid ho
                      have HNP := Lib.hid hnp
                      clear hnp ho
                      go_wp2_with (at_builtin; refine wpList_append_slK rfl _ _ 45 rfl base 61 i0 (.agg #[.int .i64 0, .int .i64 0]) 2 16 Tryz.underlying45 hi hz0 hz1 hz2 rfl (by decide) _ _ _ rfl HOP.out a9 n1 c9 (hcells H) rfl HS9.out.1 (hcells_one _) (by unfold maxLen; omega) (by omega) HP2.out.bse ?_; intro v9 w5 hown' hgrow hat)
                      have ho3 : OwnH w5 base v9 (scanH fold wss zn at_ (G ++ y)) := by
                        rw [KH.out]
                        unfold OwnH
                        rw [List.length_append, hcells_append, KN.out, HNP.out]
                        exact hown'
                      have h3 := HP2.out.appQ ho3 hgrow hat
                      rw [← HGG.out] at h3
                      have h3 := Lib.hid h3
                      clear ho3 hown' hgrow hat HOP HNP HS9 HP2
                      go_roundw
                      case rel => exact ⟨k + 1, _, rfl, by omega, by go_num, h3⟩
                      case measure => simp [intOf]; omega
                  · have hkx : k = lx := by omega
                    have hd : decide ((k : Int) < (lx : Int)) = false := by simp; omega
                    obtain ⟨hcell, _⟩ := KCH.out wr hb3
                    have hq2 := HQ.out
                    rw [hkx, List.take_of_length_le (by rw [HEX.out]; exact Nat.le_refl _), ← HF'.out] at hq2
                    have HQ2 := Lib.hid hq2
                    clear hq2 hkx hb3 HQ
                    go_wp2
                    go_roundw
                    case rel => exact ⟨i + 1, _, _, rfl, rfl, by omega, by go_num, HQ2⟩
                    case measure => simp [intOf]; omega
            · have hie : i = lb := by omega
              subst hie
              have hd : decide ((i : Int) < (i : Int)) = false := by simp
              have hPE := HP.out
              rw [List.take_of_length_le (by rw [HCL.out]; exact Nat.le_refl _), HFF.out, HLL.out] at hPE
              have HPE := Lib.hid hPE
              obtain ⟨u0, u1, _, _, _⟩ := scB_cells hPE.c12 HZZ.out HTT.out
              obtain ⟨v0, v1, _, _, _⟩ := scB_cells hPE.c13 HZZ.out HTT.out
              obtain ⟨⟨r0, r1⟩, hs10, _⟩ := K4.out wr hPE.bel
              have hLB : ∀ h ∈ LL, I64 h.1 ∧ I64 h.2 := hs10.2
              obtain ⟨ap, cp, rfl, _, hsp⟩ := OwnH.hts hPE.ownP hLB
              obtain ⟨aq, cq, rfl, _, hsq⟩ := OwnH.hts hPE.ownQ hLB
              rw [HNL.out] at hsp hsq ⊢
              have HSP := Lib.hid hsp
              have HSQ := Lib.hid hsq
              have HS10 := Lib.hid hs10
              have hZT : scanR (nodesL wss).length ZZ TT = true := by
                have h1 := feedZ_lt (fold := fold) hZN.out FF
                unfold scanR
                rw [← HZZ.out, ← HTT.out]
                exact decide_eq_true ⟨⟨by omega, by omega⟩, by omega, by omega⟩
              have KR : Hid (∀ V, RowKit.Below wr.heap.size wr V → Calls Tryz.prog 57 #[.pointer (some ⟨B, 0, none⟩), .agg #[.int .i64 ZZ, .int .i64 TT]] V fun e w' => e = .returned (.bool true) ∧ RowKit.Below V.heap.size V w') := fun V hV => by
                have h := right14_any ZZ TT V (KU.out V (hb3.trans (hV.mono hb3.size))).1
                rw [hZT] at h
                exact h
              have KE : Hid (∀ V, RowKit.Below wr.heap.size wr V → RowKit.Below w.heap.size w V ∧ (V.cell? ⟨y12, 0, none⟩ = some (.int .i64 ZZ) ∧ V.cell? ⟨y12, 1, none⟩ = some (.int .i64 TT)) ∧ (V.cell? ⟨y13, 0, none⟩ = some (.int .i64 ZZ) ∧ V.cell? ⟨y13, 1, none⟩ = some (.int .i64 TT)) ∧ (V.cell? ⟨x9, 0, none⟩ = some (.int .i64 ZZ) ∧ V.cell? ⟨x9, 1, none⟩ = some (.int .i64 TT))) := fun V hV => by
                have h := HPE.out.below hV
                obtain ⟨g1, g2, _⟩ := scB_cells h.c12 HZZ.out HTT.out
                obtain ⟨g3, g4, _⟩ := scB_cells h.c13 HZZ.out HTT.out
                exact ⟨(KU.out V (hb3.trans (hV.mono hb3.size))).2.2.2, ⟨g1, g2⟩, ⟨g3, g4⟩, (K4.out V h.bel).1⟩
              have kz : ∀ W, (binOp .eql 88 (.agg #[.int .i64 ZZ, .int .i64 TT]) (.agg #[.int .i64 ZZ, .int .i64 TT])).run Tryz.prog W = .ok (.bool true) W := fun W => by have h := eql_scan (ZZ, TT) (ZZ, TT) W; rw [decide_eq_true rfl] at h; exact h
              have H1 := Lib.hid (rsame6_any ap a10 nl cp nl c10 LL LL wr HSP.out HS10.out (by omega))
              rw [decide_eq_true rfl] at H1
              clear hPE hs10 hLB hsp hsq hZT hb3 HP KFD
              go_upto_region 25 with fail
              go_wp2_with fail
              refine H1.out.mono ?_
              rintro e u1 ⟨rfl, hb1⟩
              have H2 := Lib.hid (rsame6_any aq a10 nl cq nl c10 LL LL u1 (HSQ.out.below hb1) (HS10.out.below hb1) (by omega))
              rw [decide_eq_true rfl] at H2
              clear H1 u0 v0 v1 r0 r1
              go_wp2_with fail
              refine H2.out.mono ?_
              rintro e u2 ⟨rfl, hb2⟩
              have h12 := hb1.trans (hb2.mono hb1.size)
              have H3 := Lib.hid (KR.out u2 h12)
              obtain ⟨_, _, _, r0, r1⟩ := KE.out u2 h12
              clear H2
              go_wp2_with fail
              refine H3.out.mono ?_
              rintro e u3 ⟨rfl, hb3⟩
              have h13 := h12.trans (hb3.mono h12.size)
              clear H3 r0 r1
              go_wp2_with fail
              refine (wakes14 _).mono ?_
              rintro e u4 ⟨rfl, hb4⟩
              go_wp2
              go_ret
              exact ⟨rfl, (KE.out u4 (h13.trans (hb4.mono h13.size))).1⟩
end Go.Proofs.YtbiinfnekhhfkaaGreat
