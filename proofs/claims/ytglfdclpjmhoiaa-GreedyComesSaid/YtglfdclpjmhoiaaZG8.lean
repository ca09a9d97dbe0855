/- Parts of the proof, one behind the other: XF, XG, XH, XI, Ms, XJ. No condition but what each theorem states. -/
import Derived.Test.YtglfdclpjmhoiaaZG3
import Derived.Test.YtglfdclpjmhoiaaZG6
import Derived.Test.YtglfdclpjmhoiaaZG7
set_option linter.unusedVariables false
set_option linter.unusedSimpArgs false

/- Greedy (layer 15): what a chooser tells; walked. -/

namespace Go.Proofs.Ytglfdclpjmhoiaa
open Go.RowKit Go.Sort
attribute [local go_sem] Oper.semAt_some
attribute [local simp] wide_fn wide_depth
attribute [local go_sem] wide_fn wide_depth

/-- What is known behind a range over a function: the record of its deferred calls lies in D. -/
def MidT (a : Act) (F : Nat → World → Prop) : Exit → Act → World → Prop
 | .normal, a', V => ∃ D, a' = { a with defers := { target := .collected D, args := #[] } :: a.defers } ∧ V.heap[D]? = some (.deferred (some [])) ∧ F D V
 | _, _, _ => False
theorem wp_midB {P : Program} {c : Code} {Q : Exit → Act → World → Prop} {a : Act} {w : World} {id : Nat} (F : Nat → World → Prop) (h : c.wp P (Exit.inBlock id (MidT a F)) a w)
  (hq : ∀ D V, F D V → V.heap[D]? = some (.deferred (some [])) → Q .normal { a with defers := { target := .collected D, args := #[] } :: a.defers } V) : c.wp P (Exit.inBlock id Q) a w :=
 Code.wp_mono (fun e a' V hm => by
  cases e with
  | normal =>
   obtain ⟨D, rfl, hD, hF⟩ := hm
   exact hq D V hF hD
  | exit i =>
   by_cases hi : i = id
   ·
    simp only [Exit.inBlock, if_pos hi] at hm ⊢
    obtain ⟨D, rfl, hD, hF⟩ := hm
    exact hq D V hF hD
   ·
    simp only [Exit.inBlock, if_neg hi] at hm
    exact hm.elim
  | _ => exact hm.elim) h

/-- A row's box that lies apart from what the iterator writes; the row lies behind 'base'. -/
def HoldsT (b base : Nat) (l : List HitP) (W : World) : Prop := ∃ v, Boxed W b 25 v ∧ OwnH W b v l ∧ ∀ k, v.ownBlock = some k → base ≤ k
theorem holdsT_owns {α : Type} {B b base : Nat} {Pb : Nat → World → World → Prop} (hb : b < B) (hP : ∀ r W W', Pb r W W' → r < base ∧ r ≠ b) (f : α → List HitP) : OwnsX B Pb (fun s W => HoldsT b base (f s) W) := by
 rintro s W W' row ⟨v, hv, ho, hk⟩ hg hr
 refine ⟨v, (hg.block b hv.lt (fun e => ?_)).trans hv, ho.kept hg ?_, hk⟩
 ·
  rcases hr b e.symm with ⟨h, _⟩ | h
  · omega
  · exact (hP b _ _ h).2 rfl
 ·
  rcases ho.2 with ⟨rfl, _⟩ | ⟨g, cap, cur, rfl, hg0, hgb, _⟩
  · exact .inl rfl
  ·
   refine .inr fun e => ?_
   have e' : row = some g := by rw [← e]; rfl
   have hgb2 := hk g rfl
   rcases hr g e' with ⟨_, o, h1, h2⟩ | h
   · rw [hgb] at h1; cases h1; cases h2
   · have := (hP g _ _ h).1; omega
theorem tkG_all {wss : List (List Int)} {m : Int} : ∀ {l : List HitP}, (∀ x ∈ l, bgG wss x ≤ m) → tkG wss m l = l
 | [], _ => rfl
 | x :: l, h => by
  unfold tkG
  rw [List.takeWhile_cons, if_pos (by simpa using h x List.mem_cons_self)]
  congr 1
  exact tkG_all fun y hy => h y (List.mem_cons_of_mem _ hy)
theorem tkG_stop {wss : List (List Int)} {m : Int} {x : HitP} {r : List HitP} (hx : ¬ bgG wss x ≤ m) : ∀ {p : List HitP}, (∀ x ∈ p, bgG wss x ≤ m) → tkG wss m (p ++ x :: r) = p
 | [], _ => by
  unfold tkG
  rw [List.nil_append, List.takeWhile_cons, if_neg (by simpa using hx)]
 | y :: p, h => by
  unfold tkG
  rw [List.cons_append, List.takeWhile_cons, if_pos (by simpa using h y List.mem_cons_self)]
  congr 1
  exact tkG_stop hx fun z hz => h z (List.mem_cons_of_mem _ hz)

/-- What a chooser's walk leaves as it was: all blocks below B but the chooser's own. -/
structure GrB (B C : Nat) (w w' : World) : Prop where
 os : w'.os = w.os
 tape : w'.tape = w.tape
 output : w'.output = w.output
 size : w.heap.size ≤ w'.heap.size
 block : ∀ k, k < B → k ≠ C → w'.heap[k]? = w.heap[k]?
theorem GrB.of_below {B C : Nat} {w w' : World} (h : Below B w w') : GrB B C w w' := ⟨h.os, h.tape, h.output, h.size, fun k hk _ => h.block k hk⟩
theorem GrB.low {B B' C : Nat} {w w' : World} (h : GrB B C w w') (hb : B' ≤ B) : GrB B' C w w' := ⟨h.os, h.tape, h.output, h.size, fun k h1 h2 => h.block k (by omega) h2⟩
theorem GrB.trans {B C : Nat} {a b c : World} (h : GrB B C a b) (k : GrB B C b c) : GrB B C a c := ⟨k.os.trans h.os, k.tape.trans h.tape, k.output.trans h.output, Nat.le_trans h.size k.size, fun i h1 h2 => (k.block i h1 h2).trans (h.block i h1 h2)⟩
theorem GrB.grown {B C g : Nat} {a b c : World} (h : GrB B C a b) (k : b.grownBy c (some g)) (hg : B ≤ g ∨ g = C) (hB : B ≤ b.heap.size) : GrB B C a c := ⟨k.os.trans h.os, k.tape.trans h.tape, k.output.trans h.output, Nat.le_trans h.size k.size, fun i h1 h2 => (k.block i (by omega) (fun e => by cases e; omega)).trans (h.block i h1 h2)⟩

theorem del46_own {gf : Nat} {lb : Array Value} (p : HitP → Bool) (B : Nat) (v : Value) (l : List HitP) (w : World) (eg : ∀ args w, (callFunc gf args).run Try.prog w = .ok (.enter gf args) w)
  (hO : OwnH w B v l) (hI : ∀ x ∈ l, I64 x.1 ∧ I64 x.2) (hn : l.length ≤ 1000000)
  (hp : ∀ W x, w.grownBy W v.ownBlock → x ∈ l → Calls Try.prog gf (#[.agg #[.int .i64 x.1, .int .i64 x.2]] ++ lb) W fun e W' => e = .returned (.bool (p x)) ∧ Below W.heap.size W W') :
  Calls Try.prog 46 #[v, .func (.func gf) #[] lb] w fun e w' => ∃ h', e = .returned h' ∧ OwnH w' B h' (l.filter fun x => !p x) ∧ w.grownBy w' v.ownBlock := by
 rcases hO.2 with ⟨rfl, h0⟩ | ⟨g, cap, cur, rfl, _⟩
 ·
  have hl : l = [] := List.length_eq_zero_iff.1 h0
  subst hl
  refine (del46_nil (.bool true) w gf lb eg).mono ?_
  rintro e w' ⟨rfl, hb⟩
  exact ⟨_, rfl, World.ownsRow_nil _ _ _ _, grown_of_below hb _⟩
 ·
  refine (del46_any p B g cap l w eg hO hI hn hp).mono ?_
  rintro e w' ⟨rfl, ho, hg⟩
  exact ⟨_, rfl, ho, hg⟩
theorem Sl1.grownG {W V : World} {a : Option Addr} {n : Nat} {xs : List Int} {row : Option Nat} (h : Sl1 (Value.int .i64) W a n xs) (hg : W.grownBy V row) (hne : n ≠ 0 → ∀ q, a = some q → some q.block ≠ row) : Sl1 (Value.int .i64) V a n xs := by
 refine ⟨h.1, ?_⟩
 by_cases h0 : n = 0
 · exact .inl h0
 ·
  obtain ⟨b, off, e, hlt, hc⟩ := h.2.resolve_left h0
  exact .inr ⟨b, off, e, Nat.lt_of_lt_of_le hlt hg.size, fun i u hu => hg.cell (hc i u hu) (show some b ≠ row from hne h0 ⟨b, off, none⟩ e)⟩
theorem tellDel_any (P C B ln cl : Nat) (al : Option Addr) (L pt E : Int) (held v : Value) (clo : Bool) (wss : List (List Int)) (l : List HitP) (V : World) (h1 : V.heap[P]? = some (.cells #[.pointer (some ⟨C, 0, none⟩)] 38 (0, 0))) (h2 : ChB V C al ln cl L pt E held clo) (h3 : OwnH V B v l) (h4 : Sl1 (Value.int .i64) V al ln (lnL wss))
  (hdl : ln ≠ 0 → ∀ q, al = some q → q.block < B) (hP : ∀ k, v.ownBlock = some k → k ≠ P) (hCB : C < B) (hI : ∀ x ∈ l, I64 x.1 ∧ I64 x.2) (hm : ∀ x ∈ l, mayG wss x = true) (hn : l.length ≤ 1000000) :
  Calls Try.prog 46 #[v, .func (.func 47) #[] #[.pointer (some ⟨P, 0, none⟩)]] V fun e w' => ∃ h', e = .returned h' ∧ OwnH w' B h' (l.filter fun x => !decide (bgG wss x < E)) ∧ V.grownBy w' v.ownBlock := by
 have hgB := row_ltG h3
 refine del46_own (fun x => decide (bgG wss x < E)) B _ l V (enters_of Try.func47 (by kernel_rfl) rfl) h3 hI hn (fun X x hX hx => ?_)
 refine tell47_any P C ln cl al L pt E held clo wss x X ((hX.block _ (Array.getElem?_eq_some_iff.1 h1).1 (fun e => hP _ e.symm rfl)).trans h1) ((hX.block C (Array.getElem?_eq_some_iff.1 (show V.heap[C]? = _ from h2)).1 (fun e => by have := (hgB _ e.symm).1; omega)).trans h2) (h4.grownG hX (fun h0 q hq e => by have := (hgB _ e.symm).1; have := hdl h0 q hq; omega)) (hm x hx)
theorem ownsRow_same {W V : World} {base size n : Nat} {e : TypeId} {v : Value} {xs : List Value} (h : W.ownsRow base e size v n xs) (hs : ∀ k, v.ownBlock = some k → V.heap[k]? = W.heap[k]?) : V.ownsRow base e size v n xs := by
 refine ⟨h.1, h.2.imp id ?_⟩
 rintro ⟨g, cap, cur, rfl, h1, h2, r⟩
 exact ⟨g, cap, cur, rfl, h1, (hs g rfl).trans h2, r⟩
theorem GrB.grown' {B C : Nat} {a b c : World} {row : Option Nat} (h : GrB B C a b) (k : b.grownBy c row) (hr : ∀ k, row = some k → B ≤ k ∨ k = C) (hB : B ≤ b.heap.size) : GrB B C a c := ⟨k.os.trans h.os, k.tape.trans h.tape, k.output.trans h.output, Nat.le_trans h.size k.size, fun i h1 h2 => (k.block i (by omega) (fun e => by have := hr i e.symm; omega)).trans (h.block i h1 h2)⟩
def AllG (wss : List (List Int)) (m : Int) (pre : List HitP) : Prop := ∀ y ∈ pre, bgG wss y ≤ m
def StopG (wss : List (List Int)) (m : Int) (pre : List HitP) : Prop := ∃ p x, pre = p ++ [x] ∧ AllG wss m p ∧ ¬ bgG wss x ≤ m

set_option maxRecDepth 100000 in
set_option maxHeartbeats 16000000 in
theorem tell29_any (B C ln cl : Nat) (al : Option Addr) (L pt en m : Int) (held v : Value) (clo : Bool) (wss : List (List Int)) (l : List HitP) (w : World) (hC : ChB w C al ln cl L pt en held clo) (hR : Sl1 (Value.int .i64) w al ln (lnL wss)) (hdl : ln ≠ 0 → ∀ q, al = some q → q.block ≠ C ∧ q.block < B) (hCB : C < B) (hB : B ≤ w.heap.size)
  (hO : OwnH w B v l) (hI : ∀ x ∈ l, I64 x.1 ∧ I64 x.2) (hm : ∀ x ∈ l, mayG wss x = true) (hn : l.length ≤ 1000000) :
  Calls Try.prog 29 #[.pointer (some ⟨C, 0, none⟩), .int .i64 m, v] w fun e w' => ∃ v' h', e = .returned v' ∧ OwnH w' w.heap.size v' (tkG wss m (chG wss en (srtG wss l))) ∧ ChB w' C al ln cl L pt (endG en (tkG wss m (chG wss en (srtG wss l)))) h' clo ∧
   OwnH w' B h' (l.filter fun x => !decide (bgG wss x < endG en (tkG wss m (chG wss en (srtG wss l))))) ∧ GrB B C w w' := by
 obtain ⟨i0, hi, hz0, hz1, hz2⟩ := info_parts hit_info
 obtain ⟨a, c, rfl, hlc, hH⟩ := OwnH.hts hO hI
 obtain ⟨W1, hW1⟩ : ∃ X, X = ((w.alloc (.cells #[.pointer (some ⟨C, 0, none⟩)] 38)).alloc (.cells #[.int .i64 m] 3)).alloc (.cells #[.slice none 0 0] 25) := ⟨_, rfl⟩
 have hB1 : Below w.heap.size w W1 := by rw [hW1]; exact ((below_alloc _ _).alloc (by simp) _).alloc (by simp; omega) _
 have hO1 : Bx w.heap.size [.cells #[.pointer (some ⟨C, 0, none⟩)] 38, .cells #[.int .i64 m] 3, .cells #[.slice none 0 0] 25] W1 := by rw [hW1]; exact (((Bx.nil _ w).snoc _ rfl).snoc _ (by simp)).snoc _ (by simp)
 have hs1 : W1.heap.size = w.heap.size + 1 + 1 + 1 := by rw [hW1]; simp
 have hCl : C < w.heap.size := by omega
 have HH : Hid (∀ V, Below W1.heap.size W1 V → V.cell? ⟨w.heap.size, 0, none⟩ = some (.pointer (some ⟨C, 0, none⟩)) ∧ V.cell? ⟨C, 3, none⟩ = some (.int .i64 en) ∧ Hts V a l.length l ∧ Ln V C al ln cl wss) := fun V hV => by
  have h1 := hB1.trans (hV.mono hB1.size)
  have e := (h1.block C hCl).trans hC
  exact ⟨(hO1.below hV).cell (i := 0) rfl rfl, by simp [World.cell?, e, chC], hH.below h1, ⟨by simp [World.cell?, e, chC], hR.below h1, Nat.lt_of_lt_of_le hCl h1.size⟩⟩
 have HC := Lib.hid hC
 have HO := Lib.hid hO
 have HR := Lib.hid hR
 have HI := Lib.hid hI
 have HM := Lib.hid hm
 have HB1 := Lib.hid hB1
 have HO1 := Lib.hid hO1
 have HDL := Lib.hid hdl
 clear hC hO hR hI hm hB1 hO1 hH hdl
 refine calls_of_wp_M Try.func29 rfl ?_
 simp only [Try.ntmps29, List.size_toArray, List.length_cons, List.length_nil, Nat.reduceAdd, Nat.reduceSub, Array.replicate_succ, Array.replicate_zero, List.push_toArray, List.append_toArray, List.nil_append, List.cons_append]
 go_upto_region 2 with fail
 rw [← hW1]
 clear hW1
 refine wp_region_noPanic ?_
 refine wp_region_held_drew (S := RowKit.Below W1.heap.size W1) (by kernel_rfl) (bel_drewN W1 1) (fun hHeld => ?_)
 change wpAnyH _ _ _ _ _ 9 _ _ _
 refine tkW 0 (v := ?_) ?_ ?_
 rotate_left
 ·
  intro V hV
  obtain ⟨q0, q1, _, _⟩ := HH.out V hV
  first | (go_simp; done) | (go_simp; with_reducible rfl)
 try simp only [Act.put, pA, pB, pC]
 iterate 2 (refine tkF 8 (v := ?_) ?_ ?_; rotate_left; (· intro V hV; first | (go_simp; done) | (go_simp; with_reducible rfl)); try simp only [Act.put, pA, pB, pC])
 refine tkW 3 (v := ?_) ?_ ?_
 rotate_left
 ·
  intro V hV
  obtain ⟨q0, q1, _, _⟩ := HH.out V hV
  first | (go_simp; done) | (go_simp; with_reducible rfl)
 try simp only [Act.put, pA, pB, pC]
 iterate 2 (refine tkF 8 (v := ?_) ?_ ?_; rotate_left; (· intro V hV; first | (go_simp; done) | (go_simp; with_reducible rfl)); try simp only [Act.put, pA, pB, pC])
 refine tkW 6 (v := ?_) ?_ ?_
 rotate_left
 ·
  intro V hV
  obtain ⟨q0, q1, _, _⟩ := HH.out V hV
  first | (go_simp; done) | (go_simp; with_reducible rfl)
 try simp only [Act.put, pA, pB, pC]
 refine tkW 7 (v := ?_) ?_ ?_
 rotate_left
 ·
  intro V hV
  first | (go_simp; done) | (go_simp; with_reducible rfl)
 try simp only [Act.put, pA, pB, pC]
 refine rdy 8 (fun K hK => ?_)
 go_simp
 go_at_call 27; refine (chosen15_any C en a l.length c _).mono ?_; rintro e w2 ⟨rfl, hw2⟩
 refine hK.out _ _ ((by rw [hw2]; exact ((hHeld.alloc hHeld.size _).alloc (by simp <;> omega) _).alloc (by simp <;> omega) _)) (fun hS2 => ?_)
 clear hK K
 try simp only [Act.put, pA, pB, pC]
 refine wpAnyH_done (by kernel_rfl) ?_ _
 refine NoPanic.normal ?_
 have hs2 : w2.heap.size = w.heap.size + 1 + 1 + 1 + 1 + 1 + 1 := by rw [hw2]; simp [hs1]
 have hO2 : Bx W1.heap.size [.cells #[.pointer (some ⟨C, 0, none⟩)] 72, .cells #[.int .i64 en] 3, .cells #[.slice a l.length c] 25] w2 := by rw [hw2]; exact (((Bx.nil _ W1.drew).snoc _ rfl).snoc _ (by simp)).snoc _ (by simp)
 have e1 : W1.drew.heap.size = w.heap.size + 1 + 1 + 1 := hs1
 rw [e1]
 rw [hs1] at hO2
 clear hw2 hHeld e1
 have hblk : l.length ≠ 0 → ∀ q, a = some q → q.block < w.heap.size := fun h0 q hq => by
  obtain ⟨b, off, x, e, hlt, _⟩ := (HH.out W1 (Below.refl _ _)).2.2.1.at_ (k := 0) (by omega)
  have h2 := HO.out
  rw [hq] at h2
  rcases h2.2 with ⟨e4, _⟩ | ⟨g, cap, cur, e4, hg, hgb, _⟩
  · cases e4
  ·
   injection e4 with e5
   injection e5 with e5
   subst e5
   exact (Array.getElem?_eq_some_iff.1 hgb).1
 have hq2 := HH.out w2 hS2
 have hps := chosen15_stopsM (w.heap.size + 1 + 1) (w.heap.size + 1 + 1 + 1 + 1 + 1) (w.heap.size + 1 + 1 + 1) (w.heap.size + 1 + 1 + 1 + 1) C l.length c ln cl al a en wss l 8 w2 (by omega) (fun r hr => by
   have hx : w2.heap[w.heap.size + 1 + 1]? = some (.cells #[.slice none 0 0] 25 (0, 0)) := (HO1.out.below hS2) 2 _ rfl
   unfold rowAt at hr
   simp [World.cell?, hx, Value.ownBlock] at hr) (hO2 2 _ rfl) (hO2 0 _ rfl) (hO2 1 _ rfl) hq2.2.2.1 hn hq2.2.2.2 HM.out ⟨by omega, by omega, by omega, by omega, by omega⟩ ⟨by omega, by omega⟩ (fun h0 q hq => by have := hblk h0 q hq; omega) (fun h0 q hq => by have := (HDL.out h0 q hq).2; omega)
 have HS2 := Lib.hid hS2
 have hbl2 : Boxed w2 (w.heap.size + 1 + 1) 25 (.slice none 0 0) := (HO1.out.below hS2) 2 _ rfl
 have HLC : Hid ((chG wss en (srtG wss l)).length ≤ 1000000) := by
  have h1 := (chG_sub (wss := wss) en (srtG wss l)).length_le
  rw [(srtG_perm l).length_eq] at h1
  rw [Hid]; omega
 have HCM : Hid (∀ x ∈ chG wss en (srtG wss l), mayG wss x = true) := fun x hx => HM.out x (mem_srtG.1 ((chG_sub (wss := wss) en (srtG wss l)).subset hx))
 have HKO : Hid (∀ V, Below (w.heap.size + 1 + 1) w2 V → V.cell? ⟨w.heap.size, 0, none⟩ = some (.pointer (some ⟨C, 0, none⟩)) ∧ V.cell? ⟨w.heap.size + 1, 0, none⟩ = some (.int .i64 m) ∧ ChB V C al ln cl L pt en held clo ∧ Ln V C al ln cl wss) := fun V hV => by
  have f0 : w2.heap[w.heap.size]? = some (.cells #[.pointer (some ⟨C, 0, none⟩)] 38 (0, 0)) := (HO1.out.below HS2.out) 0 _ rfl
  have f1 : w2.heap[w.heap.size + 1]? = some (.cells #[.int .i64 m] 3 (0, 0)) := (HO1.out.below HS2.out) 1 _ rfl
  have e0 := (hV.block w.heap.size (by omega)).trans f0
  have e1 := (hV.block (w.heap.size + 1) (by omega)).trans f1
  have h2 := HB1.out.trans (HS2.out.mono HB1.out.size)
  have h3 : Below w.heap.size w V := h2.trans (hV.mono (by omega))
  have e2 := (h3.block C hCl).trans HC.out
  exact ⟨by simp [World.cell?, e0], by simp [World.cell?, e1], e2, ⟨by simp [World.cell?, e2, chC], HR.out.below h3, Nat.lt_of_lt_of_le hCl h3.size⟩⟩
 clear hq2 hO2 hblk hS2
 go_wp2
 obtain ⟨CH, hCH⟩ : ∃ X, chG wss en (srtG wss l) = X := ⟨_, rfl⟩
 rw [hCH] at hps HLC HCM
 have HCH := Lib.hid hCH
 clear hCH
 refine wp_midB (fun D V => w2.heap.size ≤ D ∧ HoldsT (w.heap.size + 1 + 1) w2.heap.size (tkG wss m CH) V ∧ Below (w.heap.size + 1 + 1) w2 V ∧ w2.heap.size ≤ V.heap.size) ?_ ?_
 ·
  apply rangeX rfl (enters_of Try.func39 (by kernel_rfl) rfl) hps (fun r W W' hr => by rw [hr]; omega) (fun _ _ _ _ _ _ _ _ h => h) KpL.t (KpL.b (by omega)) (fun _ => rfl)
   (fun pre V => HoldsT (w.heap.size + 1 + 1) w2.heap.size (pre.map Subtype.val) V ∧ Below (w.heap.size + 1 + 1) w2 V ∧ w2.heap.size ≤ V.heap.size ∧ AllG wss m (pre.map Subtype.val))
   (fun c pre V => HoldsT (w.heap.size + 1 + 1) w2.heap.size (pre.map Subtype.val).dropLast V ∧ Below (w.heap.size + 1 + 1) w2 V ∧ w2.heap.size ≤ V.heap.size ∧ c = .exit 0 ∧ StopG wss m (pre.map Subtype.val))
  case wA => exact fun x W => W.alloc (.cells #[.int .i64 x.1.1, .int .i64 x.1.2] 30)
  case hwA => exact fun x W => below_alloc _ _
  case hKg => exact fun x W hW => KpL.of_below (below_alloc _ _) (by omega)
  case hI => exact OwnsX.and (holdsT_owns (by omega) (fun r W W' h => by omega) (fun q : List (HitM wss) => q.map Subtype.val)) (OwnsX.and (OwnsX.below (by omega) (by omega) (fun r W W' h => by omega)) (OwnsX.and (OwnsX.size _ _ _) (OwnsX.pure _ _ _)))
  case hIx => exact fun c => OwnsX.and (holdsT_owns (by omega) (fun r W W' h => by omega) (fun q : List (HitM wss) => (q.map Subtype.val).dropLast)) (OwnsX.and (OwnsX.below (by omega) (by omega) (fun r W W' h => by omega)) (OwnsX.and (OwnsX.size _ _ _) (OwnsX.pure _ _ _)))
  case h0 => exact ⟨⟨_, hbl2, World.ownsRow_nil _ _ _ _, fun k h => by cases h⟩, Below.refl _ _, Nat.le_refl _, fun x hx => by cases hx⟩
  case hassign =>
   intro l x W K hK
   unfold htEnc
   gi_wp2
   exact hK
  case hbody =>
   rintro l pre ⟨x, hmx⟩ Wb V hCE ⟨⟨v, hv, hown, hkb⟩, hBe, hsz, hpre⟩ hlen
   try dsimp only
   have hbx := hCE.2 Wb.heap.size _ _ _ (World.alloc_heap_new Wb (.cells #[.int .i64 x.1, .int .i64 x.2] 30))
   obtain ⟨p0, p1, _, p3⟩ := HKO.out V hBe
   have hbg : ∀ d os, Calls Try.prog 43 #[.pointer (some ⟨C, 0, none⟩), .agg #[.int .i64 x.1, .int .i64 x.2]] (grow (redrawn V d) os) fun e w' => e = .returned (.int .i64 (bgG wss x)) ∧ RowKit.Below (grow (redrawn V d) os).heap.size (grow (redrawn V d) os) w' := fun d os => begin15_any C ln cl al wss x _ (p3.below (below_regrown V d os)) hmx
   have k0 : ∀ d os, (grow (redrawn V d) os).cell? ⟨w.heap.size, 0, none⟩ = some (.pointer (some ⟨C, 0, none⟩)) := cell_regrown p0
   have k1 : ∀ d os, (grow (redrawn V d) os).cell? ⟨w.heap.size + 1, 0, none⟩ = some (.int .i64 m) := cell_regrown p1
   have k2 : ∀ d os, (grow (redrawn V d) os).cell? ⟨Wb.heap.size, 0, none⟩ = some (.int .i64 x.1) := cell_regrown (by simp [World.cell?, hbx])
   have k3 : ∀ d os, (grow (redrawn V d) os).cell? ⟨Wb.heap.size, 1, none⟩ = some (.int .i64 x.2) := cell_regrown (by simp [World.cell?, hbx])
   obtain ⟨bg, hbge⟩ : ∃ b, bgG wss x = b := ⟨_, rfl⟩
   rw [hbge] at hbg
   obtain ⟨RR, hRR⟩ : ∃ R, decide (bg > m) = R := ⟨_, rfl⟩
   have hRR' : decide (m < bg) = RR := hRR
   have HBG := Lib.hid hbge
   have HRR := Lib.hid hRR
   have HBE := Lib.hid hBe
   have HPRE := Lib.hid hpre
   have HBX := Lib.hid hbx
   have HV := Lib.hid hv
   have HOWN := Lib.hid hown
   have HKB := Lib.hid hkb
   have HSZ := Lib.hid hsz
   have HS := Lib.hid hs2
   have HLEN := Lib.hid hlen
   clear hbge hBe hpre hbx hv hown hkb p0 p1 p3 hsz hs2 hlen hps
   gi_wp2
   refine regionR_below (wideR _ _ _) mixed (by kernel_rfl) (by kernel_rfl) ?_
   iterate 4 (go_big_quiet_step (fail))
   go_big_quiet_step (exact grown_below (hbg _ _))
   iterate 2 (go_big_quiet_step (fail))
   refine wpQuiet_nil ?_
   rintro _ ⟨⟨dq, osq⟩, rfl⟩
   have hb0 := below_regrown V dq osq
   obtain ⟨V2, hV2⟩ : ∃ X, X = grow (redrawn V dq) osq := ⟨_, rfl⟩
   rw [← hV2] at hb0 ⊢
   have hv2 : Boxed V2 (w.heap.size + 1 + 1) 25 v := (hb0.block _ HV.out.lt).trans HV.out
   have hown2 : OwnH V2 (w.heap.size + 1 + 1) v (pre.map Subtype.val) := own_below_ HOWN.out hb0
   have hBe2 : Below (w.heap.size + 1 + 1) w2 V2 := HBE.out.trans (hb0.mono (by have := HV.out.lt; omega))
   have hsz2 : w2.heap.size ≤ V2.heap.size := Nat.le_trans HSZ.out hb0.size
   clear hbg k0 k1 k2 k3 hRR hRR'
   cases RR with
   | true =>
    have hgt : m < bg := by have h := HRR.out; simpa using h
    have HKF : Hid (KeepsFrom w2.heap.size V V2) := keepsFrom_of_below hb0
    have HV2 := Lib.hid hv2
    have HOWN2 := Lib.hid hown2
    have HBE2 := Lib.hid hBe2
    have HSZ2 := Lib.hid hsz2
    clear hV2 hb0 hv2 hown2 hBe2 hsz2
    gi_wp2
    refine ⟨HKF.out, ⟨v, HV2.out, ?_, HKB.out⟩, HBE2.out, HSZ2.out, by first | exact rfl | trivial, pre.map Subtype.val, x, by simp, HPRE.out, by rw [HBG.out]; omega⟩
    rw [List.map_append]
    show OwnH _ _ _ (pre.map Subtype.val ++ [x]).dropLast
    rw [List.dropLast_concat]
    exact HOWN2.out
   | false =>
    have hle : bg ≤ m := by have h := HRR.out; simpa using h
    have hbx2 := (hb0.block _ (Array.getElem?_eq_some_iff.1 HBX.out).1).trans HBX.out
    have y0 : V2.cell? ⟨Wb.heap.size, 0, none⟩ = some (.int .i64 x.1) := by simp [World.cell?, hbx2]
    have y1 : V2.cell? ⟨Wb.heap.size, 1, none⟩ = some (.int .i64 x.2) := by simp [World.cell?, hbx2]
    have y2 : Wb.heap.size < V2.heap.size := (Array.getElem?_eq_some_iff.1 hbx2).1
    have HKF : Hid (KeepsFrom w2.heap.size V V2) := keepsFrom_of_below hb0
    have HKL : Hid (KpL (w.heap.size + 1 + 1) V V2) := KpL.of_below hb0 HV.out.lt
    obtain ⟨mm, hmm⟩ : ∃ mm, (pre.map Subtype.val).length = mm := ⟨_, rfl⟩
    have hml : mm ≤ 1000000001 := by have := HLEN.out; rw [List.length_map] at hmm; omega
    unfold OwnH at hown2
    rw [hmm] at hown2
    have HMM := Lib.hid hmm
    clear hmm
    obtain ⟨av, cv, rfl, hcv, hsl⟩ := SlK.own hown2
    have c2 := hv2.cell
    have hblt := hv2.lt
    have HLE := Lib.hid hle
    have HBE2 := Lib.hid hBe2
    have HSZ2 := Lib.hid hsz2
    have hbb : w.heap.size + 1 + 1 ≤ V2.heap.size := Nat.le_of_lt hblt
    clear hbx2 hV2 hb0 hBe2 hsz2 hle
    gi_wp2_with (gi_at_builtin; refine wpListIn_append_slK _ rfl _ _ 25 rfl (w.heap.size + 1 + 1) 30 i0 (.agg #[.int .i64 0, .int .i64 0]) 2 16 Try.underlying25 hi hz0 hz1 hz2 rfl (by decide) _ _ _ rfl (hown2.alloc _) (some ⟨V2.heap.size, 0, none⟩) 1 1 [.int .i64 x.1, .int .i64 x.2] rfl (slkG_hit V2 x) (by simp [Value.oneCell']) (by unfold maxLen; omega) (by omega) (by simp; omega) ?_; intro v' w5 hown' hgrow hat; obtain ⟨g', cap', rfl⟩ := ownsRow_succ hown'; obtain ⟨b1, b2, b3, b4, b5⟩ := hv2.appended (of_decide_eq_true (by kernel_rfl)) hown2 hbb (Nat.le_refl _) hown' hgrow; have d1 := b1.cell; have d2 := b1.frozen; have d3 := b1.lt; have hkp := kpl_append hv2 b1 hgrow hat hown')
    refine ⟨HKF.out.trans (b4.from _), HKL.out.t hkp, ⟨_, b2, ?_, ?_⟩, HBE2.out.trans b5, Nat.le_trans HSZ2.out (by have := b5.size; simpa using this), ?_⟩
    ·
     rw [List.map_append]
     show World.ownsRow _ _ _ _ _ (pre.map Subtype.val ++ [x]).length (hcells (pre.map Subtype.val ++ [x]))
     rw [List.length_append, HMM.out, hcells_append]
     exact b3
    ·
     intro k hk
     rcases hat with e | e
     · exact HKB.out k (e.symm.trans hk)
     ·
      rw [e] at hk
      have := HSZ2.out
      simp at hk
      omega
    ·
     intro y hy
     rw [List.map_append, List.mem_append] at hy
     rcases hy with h | h
     · exact HPRE.out y h
     ·
      have : y = x := by simpa using h
      rw [this, HBG.out]
      exact HLE.out
  case hstop =>
   rintro D c pre V hD ⟨r, hr⟩ ⟨hT, hBe, hsz, rfl, p, x, hpx, hp, hx⟩ hD2
   try rw [hpx] at hr hT
   have HR2 := Lib.hid hr
   rw [List.dropLast_concat] at hT
   have HX := Lib.hid hx
   clear hr hs2 hpx hx
   go_wp2
   refine ⟨D, rfl, hD2, hD, ?_, hBe, hsz⟩
   rw [HR2.out, List.append_assoc, List.singleton_append, tkG_stop (x := x) (by have := HX.out; omega) hp]
   exact hT
  case hdone =>
   rintro D xs V hD hxs ⟨hT, hBe, hsz, hp⟩ hD2
   have hxs : xs.map Subtype.val = CH := hxs
   rw [hxs] at hT hp
   exact ⟨D, rfl, hD2, hD, by rw [tkG_all hp]; exact hT, hBe, hsz⟩
 ·
  rintro D V ⟨hD, ⟨v, hv, hown, hkb⟩, hBe, hsz⟩ hD2
  obtain ⟨T, hT⟩ : ∃ T, tkG wss m CH = T := ⟨_, rfl⟩
  rw [hT] at hown
  have HT : Hid (tkG wss m (chG wss en (srtG wss l)) = T) := by rw [Hid, HCH.out]; exact hT
  have HTI : Hid (∀ x ∈ T, I64 x.1 ∧ I64 x.2) := fun x hx => HI.out x (mem_srtG.1 ((chG_sub (wss := wss) en (srtG wss l)).subset (by rw [HCH.out, ← hT] at *; exact (List.takeWhile_sublist _).subset hx)))
  have HTL : Hid (T.length ≤ 1000000) := by
   have h := (List.takeWhile_sublist (p := fun h => decide (bgG wss h ≤ m)) (l := CH)).length_le
   rw [Hid, ← hT]
   have := HLC.out
   unfold tkG
   omega
  clear hps hbl2 hT
  have HBE := Lib.hid hBe
  have HKB := Lib.hid hkb
  have HOWN := Lib.hid hown
  have HVB := Lib.hid hv
  have HD2 := Lib.hid hD2
  have HSZ : Hid (w.heap.size + 6 ≤ V.heap.size) := by rw [Hid]; omega
  have HDD : Hid (w.heap.size + 6 ≤ D) := by rw [Hid]; omega
  have HKB6 : Hid (∀ k, v.ownBlock = some k → w.heap.size + 6 ≤ k) := fun k hk => by have := hkb k hk; omega
  obtain ⟨av, cv, rfl, hcv, hsl⟩ := SlK.own hown
  have c2 := hv.cell
  have HGB : Hid (∀ k, (Value.slice a l.length c).ownBlock = some k → B ≤ k ∧ k < w.heap.size) := row_ltG HO.out
  have HBW : Hid (Below w.heap.size w V) := (HB1.out.trans (HS2.out.mono HB1.out.size)).trans (hBe.mono (by omega))
  obtain ⟨_, _, p2, _⟩ := HKO.out V hBe
  have HP2 := Lib.hid p2
  have HPV : Hid (V.heap[w.heap.size]? = some (.cells #[.pointer (some ⟨C, 0, none⟩)] 38 (0, 0))) := (hBe.block _ (by omega)).trans ((HO1.out.below HS2.out) 0 _ rfl)
  have HOV : Hid (OwnH V B (.slice a l.length c) l) := own_below_ HO.out HBW.out
  have HRV : Hid (Sl1 (Value.int .i64) V al ln (lnL wss)) := HR.out.below HBW.out
  clear hBe hkb hown hD2 hcv hD hsz hs2 hs1 p2
  rcases List.eq_nil_or_concat T with hTe | ⟨p, x, hTe⟩
  ·
   subst hTe
   have h0 : decide ((0 : Int) < 0) = false := rfl
   clear hsl
   go_upto_region 8 with fail
   obtain ⟨X, hX⟩ : ∃ X, X = V := ⟨_, rfl⟩
   rw [← hX]
   obtain ⟨E, hE⟩ : ∃ E, E = endG en [] := ⟨_, rfl⟩
   have HXS : Hid (w.heap.size + 6 ≤ X.heap.size) := by rw [hX]; exact HSZ.out
   have HPX : Hid (X.heap[w.heap.size]? = some (.cells #[.pointer (some ⟨C, 0, none⟩)] 38 (0, 0))) := by rw [hX]; exact HPV.out
   have HCX : Hid (ChB X C al ln cl L pt E held clo) := by rw [hX, hE]; exact HP2.out
   have HOX : Hid (OwnH X B (.slice a l.length c) l) := by rw [hX]; exact HOV.out
   have HRX : Hid (Sl1 (Value.int .i64) X al ln (lnL wss)) := by rw [hX]; exact HRV.out
   have HXV : Hid (∀ k, k ≠ C → k < V.heap.size → X.heap[k]? = V.heap[k]?) := fun k _ _ => by rw [hX]
   have HXL : Hid (V.heap.size ≤ X.heap.size) := by rw [hX]; exact Nat.le_refl _
   have HXG : Hid (GrB B C V X) := by rw [hX]; exact GrB.of_below (Below.refl _ _)
   have HDG : Hid (X.grownBy X.drew (Value.slice a l.length c).ownBlock) := grown_of_below (bel_drewN X 1) _
   clear hX
   have hXs := HXS.out
   have HDX := Lib.hid (tellDel_any w.heap.size C B ln cl al L pt E held (.slice a l.length c) clo wss l X.drew HPX.out HCX.out HOX.out HRX.out (fun h0 q hq => (HDL.out h0 q hq).2) (fun k hk => by have := (HGB.out k hk).2; omega) hCB HI.out HM.out hn)
   refine wp_region_noPanic ?_
   refine wp_region_held_drew (S := fun Y => Y.heap[w.heap.size]? = some (.cells #[.pointer (some ⟨C, 0, none⟩)] 38 (0, 0))) (by kernel_rfl) HPX.out (fun hHeld => ?_)
   change wpAnyH _ _ _ _ _ 7 _ _ _
   refine tkW 0 (v := ?_) ?_ ?_
   rotate_left
   ·
    intro V hV
    have q0 : V.cell? ⟨w.heap.size, 0, none⟩ = some (.pointer (some ⟨C, 0, none⟩)) := by simp [World.cell?, show V.heap[w.heap.size]? = _ from hV]
    first | (go_simp; done) | (go_simp; with_reducible rfl)
   try simp only [Act.put, pA, pB, pC]
   iterate 2 (refine tkF 6 (v := ?_) ?_ ?_; rotate_left; (· intro V hV; first | (go_simp; done) | (go_simp; with_reducible rfl)); try simp only [Act.put, pA, pB, pC])
   refine rdy 3 (fun K hK => ?_)
   go_simp
   go_at_call 46; refine (HDX.out).mono ?_; rintro e w3 ⟨h', rfl, ho3, hg3⟩
   refine hK.out _ _ (((hg3.block _ (Array.getElem?_eq_some_iff.1 HPX.out).1 (fun e => by have := (HGB.out _ e.symm).2; omega)).trans HPX.out)) (fun hS3 => ?_)
   clear hK K
   try simp only [Act.put, pA, pB, pC]
   have hC3 : w3.heap[C]? = some (.cells (chC al ln cl L pt E held clo) 61 (0, 0)) := (hg3.block C (Array.getElem?_eq_some_iff.1 (show X.heap[C]? = _ from HCX.out)).1 (fun e => by have := (HGB.out _ e.symm).1; omega)).trans HCX.out
   have t0 : w3.cell? ⟨C, 4, none⟩ = some held := by simp [World.cell?, hC3, chC]
   have t1 : w3.frozen? ⟨C, 4, none⟩ = false := by simp [World.frozen?, hC3]
   have hCl3 : C < w3.heap.size := (Array.getElem?_eq_some_iff.1 hC3).1
   obtain ⟨ah, ch, eh, _, _⟩ := SlK.own ho3
   obtain ⟨nf, hnf⟩ : ∃ nf, (l.filter fun x => !decide (bgG wss x < E)).length = nf := ⟨_, rfl⟩
   rw [hnf] at eh
   subst eh
   have HO3 : Hid (OwnH w3 B (.slice ah nf ch) (l.filter fun x => !decide (bgG wss x < E))) := ho3
   clear hnf
   have HG3 := Lib.hid hg3
   have HC3 := Lib.hid hC3
   clear ho3 hg3 hC3 hHeld
   iterate 2 (refine tkF 6 (v := ?_) ?_ ?_; rotate_left; (· intro V hV; first | (go_simp; done) | (go_simp; with_reducible rfl)); try simp only [Act.put, pA, pB, pC])
   refine rdy 6 (fun K hK => ?_)
   go_simp
   obtain ⟨Y, hY⟩ : ∃ Y, Y = w3.setCell ⟨C, 4, none⟩ (.slice ah nf ch) := ⟨_, rfl⟩
   rw [← hY]
   have HYW : Hid (∀ k, k ≠ C → Y.heap[k]? = w3.heap[k]?) := fun k hk => by rw [hY]; exact Below.heap_setCell w3 ⟨C, 4, none⟩ _ k hk
   have HYX : Hid (∀ k, k ≠ C → ¬ (B ≤ k ∧ k < w.heap.size) → k < V.heap.size → Y.heap[k]? = V.heap[k]?) := fun k h1 h2 h3 => (HYW.out k h1).trans ((HG3.out.block k (Nat.lt_of_lt_of_le h3 HXL.out) (fun e => h2 (HGB.out k e.symm))).trans (HXV.out k h1 h3))
   have HYC : Hid (ChB Y C al ln cl L pt E (.slice ah nf ch) clo) := by rw [hY]; exact set_at (i := 4) HC3.out (.slice ah nf ch)
   have HYG : Hid (w3.grownBy Y (some C)) := by rw [hY]; exact grown_set2 w3 C 4 (.slice ah nf ch)
   refine hK.out _ _ ((HYW.out _ (by omega)).trans ((HG3.out.block _ (Array.getElem?_eq_some_iff.1 HPX.out).1 (fun e => by have := (HGB.out _ e.symm).2; omega)).trans HPX.out)) (fun hS4 => ?_)
   clear hK K hY t0 t1 hS3 hS4 HDX
   try simp only [Act.put, pA, pB, pC]
   refine wpAnyH_done (by kernel_rfl) ?_ _
   refine NoPanic.normal ?_
   have hVs := HSZ.out
   have hDs := HDD.out
   have hBY : Boxed Y (w.heap.size + 1 + 1) 25 _ := (HYX.out _ (by omega) (by omega) (by omega)).trans HVB.out
   have c2 := hBY.cell
   have hDV : D < V.heap.size := (Array.getElem?_eq_some_iff.1 HD2.out).1
   have hDY : Y.heap[D]? = some (.deferred (some [])) := (HYX.out D (by omega) (by omega) hDV).trans HD2.out
   have HVOW : Hid (OwnH Y w.heap.size _ _) := ownsRow_lowerG (ownsRow_same HOWN.out (fun k hk => HYX.out k (by have := HKB6.out k hk; omega) (by have := HKB6.out k hk; omega) ((row_ltG HOWN.out k hk).2))) (by omega)
   have HFO : Hid (OwnH Y B (.slice ah nf ch) (l.filter fun x => !decide (bgG wss x < E))) := ownsRow_same HO3.out (fun k hk => HYW.out k (by have := (row_ltG HO3.out k hk).1; omega))
   have HGR : Hid (GrB B C w Y) := (((((GrB.of_below HBW.out : GrB w.heap.size C w V)).low hB).trans HXG.out).grown' (HDG.out.trans HG3.out) (fun k e => .inl (HGB.out k e).1) (by have := HXL.out; omega)).grown' HYG.out (fun k e => .inr (Option.some.inj e).symm) (by have := HXL.out; have := HG3.out.size; have h9 : X.drew.heap.size = X.heap.size := rfl; omega)
   clear hBY hDV
   go_wp2
   have q1 := ownsRow_putObj HVOW.out (.deferred none) hDY rfl
   have q2 := ownsRow_putObj HFO.out (.deferred none) hDY rfl
   refine endM rfl hDY (results_tmp rfl _ _ _) ⟨_, (.slice ah nf ch), rfl, ?_, ?_, ?_, ?_⟩
   ·
    rw [HT.out]
    exact q1
   ·
    rw [HT.out, ← hE]
    exact (World.putObj_heap_other (by omega)).trans HYC.out
   ·
    rw [HT.out, ← hE]
    exact q2
   · exact HGR.out.grown' (grownBy_putObj' Y D _) (fun k e => .inl (by cases e; omega)) (by have := HGR.out.size; omega)
  ·
   have hTe : T = p ++ [x] := by simpa using hTe
   obtain ⟨b0, o0, y, e0, hl0, x0, x1, hx, _, _⟩ := Hts.at_ (w := V) (a := av) (len := T.length) (l := T) ⟨hsl, HTI.out⟩ (k := p.length) (by rw [hTe]; simp)
   have hyx : y = x := by rw [hTe] at hx; simpa using hx.symm
   subst hyx
   subst e0
   obtain ⟨kk, hkk⟩ : ∃ kk, p.length = kk := ⟨_, rfl⟩
   have hTl : T.length = kk + 1 := by rw [hTe]; simp [hkk]
   rw [hkk] at x0 x1
   have HTE := Lib.hid hTe
   have HVB1 : Hid (Boxed V (w.heap.size + 1 + 1) 25 (.slice (some ⟨b0, o0, none⟩) (kk + 1) cv)) := by rw [← hTl]; exact HVB.out
   have HOWN1 : Hid (OwnH V (w.heap.size + 1 + 1) (.slice (some ⟨b0, o0, none⟩) (kk + 1) cv) T) := by rw [← hTl]; exact HOWN.out
   have HKB1 : Hid (∀ k, (Value.slice (some ⟨b0, o0, none⟩) (kk + 1) cv).ownBlock = some k → w.heap.size + 6 ≤ k) := HKB6.out
   have hkl : kk ≤ 1000000 := by have := HTL.out; omega
   clear c2 hv
   have c2 := HVB1.out.cell
   have p0 : V.cell? ⟨w.heap.size, 0, none⟩ = some (.pointer (some ⟨C, 0, none⟩)) := by simp [World.cell?, HPV.out]
   have p3 : V.cell? ⟨C, 3, none⟩ = some (.int .i64 en) := by simp [World.cell?, show V.heap[C]? = _ from HP2.out, chC]
   have p4 : V.frozen? ⟨C, 3, none⟩ = false := by simp [World.frozen?, show V.heap[C]? = _ from HP2.out]
   have p5 : C < V.heap.size := (Array.getElem?_eq_some_iff.1 (show V.heap[C]? = _ from HP2.out)).1
   have h0 : decide ((kk : Int) + 1 > 0) = true := decide_eq_true (by omega)
   have h0' : decide (0 < (kk : Int) + 1) = true := decide_eq_true (by omega)
   have h0'' : decide (((kk + 1 : Nat) : Int) > 0) = true := decide_eq_true (by omega)
   have w1 : IntKind.i64.wrap ((kk : Int) + 1 - 1) = (kk : Int) := by rw [IntKind.wrap_i64]; omega
   have w2' : IntKind.i64.wrap (((kk + 1 : Nat) : Int) - 1) = (kk : Int) := by rw [IntKind.wrap_i64]; omega
   have i1 : (0 : Int) ≤ (kk : Int) := by omega
   have i2 : (kk : Int) < (kk : Int) + 1 := by omega
   have hOT : Hid (OwnH V (w.heap.size + 1 + 1) (.slice (some ⟨b0, o0, none⟩) (kk + 1) cv) T) := HOWN1.out
   clear hsl HVB HOWN HKB6 HKB hx hTe hTl hkk
   go_upto_region 7 with fail
   go_region
   go_upto_region 8 with fail
   obtain ⟨X, hX⟩ : ∃ X, X = (V.setCell ⟨C, 3, none⟩ (.int .i64 y.1)).drew := ⟨_, rfl⟩
   rw [← hX]
   obtain ⟨E, hE⟩ : ∃ E, E = endG en T := ⟨_, rfl⟩
   have hEy : E = y.1 := by rw [hE, HTE.out, endG_one]
   have HXV : Hid (∀ k, k ≠ C → k < V.heap.size → X.heap[k]? = V.heap[k]?) := fun k hk _ => by rw [hX]; exact Below.heap_setCell V ⟨C, 3, none⟩ _ k hk
   have HXL : Hid (V.heap.size ≤ X.heap.size) := by rw [hX]; show _ ≤ (V.setCell ⟨C, 3, none⟩ (.int .i64 y.1)).heap.size; simp [World.setCell]
   have HXS : Hid (w.heap.size + 6 ≤ X.heap.size) := Nat.le_trans HSZ.out HXL.out
   have HPX : Hid (X.heap[w.heap.size]? = some (.cells #[.pointer (some ⟨C, 0, none⟩)] 38 (0, 0))) := (HXV.out _ (by omega) (Array.getElem?_eq_some_iff.1 HPV.out).1).trans HPV.out
   have HVX : Hid (V.grownBy X (some C)) := by rw [hX]; exact (grown_set2 V C 3 (.int .i64 y.1)).trans (grown_of_below (bel_drewN _ 1) _)
   have HCX : Hid (ChB X C al ln cl L pt E held clo) := by rw [hX, hEy]; exact set_at (i := 3) HP2.out (.int .i64 y.1)
   have HOX : Hid (OwnH X B (.slice a l.length c) l) := ownsRow_same HOV.out (fun k hk => HXV.out k (by have := (HGB.out k hk).1; omega) (row_ltG HOV.out k hk).2)
   have HRX : Hid (Sl1 (Value.int .i64) X al ln (lnL wss)) := HRV.out.grownG HVX.out (fun h0 q hq e => (HDL.out h0 q hq).1 (Option.some.inj e))
   have HXG : Hid (GrB B C V X) := (GrB.of_below (Below.refl B V)).grown' HVX.out (fun k e => .inr (Option.some.inj e).symm) (by have := HSZ.out; omega)
   have HDG : Hid (X.grownBy X.drew (Value.slice a l.length c).ownBlock) := grown_of_below (bel_drewN X 1) _
   clear hX hEy c2 p0 p3 p4 p5 h0 h0' h0'' w1 w2' i1 i2 x0 x1
   have hXs := HXS.out
   have HDX := Lib.hid (tellDel_any w.heap.size C B ln cl al L pt E held (.slice a l.length c) clo wss l X.drew HPX.out HCX.out HOX.out HRX.out (fun h0 q hq => (HDL.out h0 q hq).2) (fun k hk => by have := (HGB.out k hk).2; omega) hCB HI.out HM.out hn)
   refine wp_region_noPanic ?_
   refine wp_region_held_drew (S := fun Y => Y.heap[w.heap.size]? = some (.cells #[.pointer (some ⟨C, 0, none⟩)] 38 (0, 0))) (by kernel_rfl) HPX.out (fun hHeld => ?_)
   change wpAnyH _ _ _ _ _ 7 _ _ _
   refine tkW 0 (v := ?_) ?_ ?_
   rotate_left
   ·
    intro V hV
    have q0 : V.cell? ⟨w.heap.size, 0, none⟩ = some (.pointer (some ⟨C, 0, none⟩)) := by simp [World.cell?, show V.heap[w.heap.size]? = _ from hV]
    first | (go_simp; done) | (go_simp; with_reducible rfl)
   try simp only [Act.put, pA, pB, pC]
   iterate 2 (refine tkF 6 (v := ?_) ?_ ?_; rotate_left; (· intro V hV; first | (go_simp; done) | (go_simp; with_reducible rfl)); try simp only [Act.put, pA, pB, pC])
   refine rdy 3 (fun K hK => ?_)
   go_simp
   go_at_call 46; refine (HDX.out).mono ?_; rintro e w3 ⟨h', rfl, ho3, hg3⟩
   refine hK.out _ _ (((hg3.block _ (Array.getElem?_eq_some_iff.1 HPX.out).1 (fun e => by have := (HGB.out _ e.symm).2; omega)).trans HPX.out)) (fun hS3 => ?_)
   clear hK K
   try simp only [Act.put, pA, pB, pC]
   have hC3 : w3.heap[C]? = some (.cells (chC al ln cl L pt E held clo) 61 (0, 0)) := (hg3.block C (Array.getElem?_eq_some_iff.1 (show X.heap[C]? = _ from HCX.out)).1 (fun e => by have := (HGB.out _ e.symm).1; omega)).trans HCX.out
   have t0 : w3.cell? ⟨C, 4, none⟩ = some held := by simp [World.cell?, hC3, chC]
   have t1 : w3.frozen? ⟨C, 4, none⟩ = false := by simp [World.frozen?, hC3]
   have hCl3 : C < w3.heap.size := (Array.getElem?_eq_some_iff.1 hC3).1
   obtain ⟨ah, ch, eh, _, _⟩ := SlK.own ho3
   obtain ⟨nf, hnf⟩ : ∃ nf, (l.filter fun x => !decide (bgG wss x < E)).length = nf := ⟨_, rfl⟩
   rw [hnf] at eh
   subst eh
   have HO3 : Hid (OwnH w3 B (.slice ah nf ch) (l.filter fun x => !decide (bgG wss x < E))) := ho3
   clear hnf
   have HG3 := Lib.hid hg3
   have HC3 := Lib.hid hC3
   clear ho3 hg3 hC3 hHeld
   iterate 2 (refine tkF 6 (v := ?_) ?_ ?_; rotate_left; (· intro V hV; first | (go_simp; done) | (go_simp; with_reducible rfl)); try simp only [Act.put, pA, pB, pC])
   refine rdy 6 (fun K hK => ?_)
   go_simp
   obtain ⟨Y, hY⟩ : ∃ Y, Y = w3.setCell ⟨C, 4, none⟩ (.slice ah nf ch) := ⟨_, rfl⟩
   rw [← hY]
   have HYW : Hid (∀ k, k ≠ C → Y.heap[k]? = w3.heap[k]?) := fun k hk => by rw [hY]; exact Below.heap_setCell w3 ⟨C, 4, none⟩ _ k hk
   have HYX : Hid (∀ k, k ≠ C → ¬ (B ≤ k ∧ k < w.heap.size) → k < V.heap.size → Y.heap[k]? = V.heap[k]?) := fun k h1 h2 h3 => (HYW.out k h1).trans ((HG3.out.block k (Nat.lt_of_lt_of_le h3 HXL.out) (fun e => h2 (HGB.out k e.symm))).trans (HXV.out k h1 h3))
   have HYC : Hid (ChB Y C al ln cl L pt E (.slice ah nf ch) clo) := by rw [hY]; exact set_at (i := 4) HC3.out (.slice ah nf ch)
   have HYG : Hid (w3.grownBy Y (some C)) := by rw [hY]; exact grown_set2 w3 C 4 (.slice ah nf ch)
   refine hK.out _ _ ((HYW.out _ (by omega)).trans ((HG3.out.block _ (Array.getElem?_eq_some_iff.1 HPX.out).1 (fun e => by have := (HGB.out _ e.symm).2; omega)).trans HPX.out)) (fun hS4 => ?_)
   clear hK K hY t0 t1 hS3 hS4 HDX
   try simp only [Act.put, pA, pB, pC]
   refine wpAnyH_done (by kernel_rfl) ?_ _
   refine NoPanic.normal ?_
   have hVs := HSZ.out
   have hDs := HDD.out
   have hBY : Boxed Y (w.heap.size + 1 + 1) 25 _ := (HYX.out _ (by omega) (by omega) (by omega)).trans HVB1.out
   have c2 := hBY.cell
   have hDV : D < V.heap.size := (Array.getElem?_eq_some_iff.1 HD2.out).1
   have hDY : Y.heap[D]? = some (.deferred (some [])) := (HYX.out D (by omega) (by omega) hDV).trans HD2.out
   have HVOW : Hid (OwnH Y w.heap.size _ _) := ownsRow_lowerG (ownsRow_same HOWN1.out (fun k hk => HYX.out k (by have := HKB1.out k hk; omega) (by have := HKB1.out k hk; omega) ((row_ltG HOWN1.out k hk).2))) (by omega)
   have HFO : Hid (OwnH Y B (.slice ah nf ch) (l.filter fun x => !decide (bgG wss x < E))) := ownsRow_same HO3.out (fun k hk => HYW.out k (by have := (row_ltG HO3.out k hk).1; omega))
   have HGR : Hid (GrB B C w Y) := (((((GrB.of_below HBW.out : GrB w.heap.size C w V)).low hB).trans HXG.out).grown' (HDG.out.trans HG3.out) (fun k e => .inl (HGB.out k e).1) (by have := HXL.out; omega)).grown' HYG.out (fun k e => .inr (Option.some.inj e).symm) (by have := HXL.out; have := HG3.out.size; have h9 : X.drew.heap.size = X.heap.size := rfl; omega)
   clear hBY hDV
   go_wp2
   have q1 := ownsRow_putObj HVOW.out (.deferred none) hDY rfl
   have q2 := ownsRow_putObj HFO.out (.deferred none) hDY rfl
   refine endM rfl hDY (results_tmp rfl _ _ _) ⟨_, (.slice ah nf ch), rfl, ?_, ?_, ?_, ?_⟩
   ·
    rw [HT.out]
    exact q1
   ·
    rw [HT.out, ← hE]
    exact (World.putObj_heap_other (by omega)).trans HYC.out
   ·
    rw [HT.out, ← hE]
    exact q2
   · exact HGR.out.grown' (grownBy_putObj' Y D _) (fun k e => .inl (by cases e; omega)) (by have := HGR.out.size; omega)
end Go.Proofs.Ytglfdclpjmhoiaa

/- Greedy (layer 15): a chooser is fed; walked. -/

namespace Go.Proofs.Ytglfdclpjmhoiaa
open Go.RowKit Go.Sort

set_option maxRecDepth 100000 in
theorem feed14_nil (at_ : Int) (b : Option Addr) (n c : Nat) (w : World) :
  Calls Try.prog 14 #[.pointer none, .int .i64 at_, .slice b n c] w fun e w' => e = .returned (.tuple #[.slice none 0 0, .int .i64 2]) ∧ w' = w := by
 go_enter Try.func14, Try.ntmps14
 go_wp2
 go_ret2
 exact ⟨rfl, rfl⟩

set_option maxRecDepth 100000 in
theorem feed14_no (C n c m d : Nat) (a b : Option Addr) (L pt en at_ : Int) (held : Value) (cl : Bool) (w : World) (hC : ChB w C a n c L pt en held cl) (hno : cl = true ∨ at_ < pt) :
  Calls Try.prog 14 #[.pointer (some ⟨C, 0, none⟩), .int .i64 at_, .slice b m d] w fun e w' => e = .returned (.tuple #[.slice none 0 0, .int .i64 2]) ∧ Below w.heap.size w w' := by
 have HT := Lib.hid (takes28_no C n c m d a b L pt en at_ held cl w hC hno)
 clear hC hno
 go_enter Try.func14, Try.ntmps14
 go_wp2_with (go_at_call 28; refine HT.out.mono ?_; rintro e w1 ⟨rfl, hb1⟩)
 go_ret2
 exact ⟨rfl, hb1⟩

theorem Hts.grownG {W V : World} {a : Option Addr} {n : Nat} {l : List HitP} {row : Option Nat} (h : Hts W a n l) (hg : W.grownBy V row) (hne : n ≠ 0 → ∀ q, a = some q → some q.block ≠ row) : Hts V a n l := by
 refine ⟨⟨h.1.1, ?_⟩, h.2⟩
 by_cases h0 : n = 0
 · exact .inl h0
 ·
  obtain ⟨b, off, e, hlt, hc⟩ := h.1.2.resolve_left h0
  exact .inr ⟨b, off, e, Nat.lt_of_lt_of_le hlt hg.size, fun i u hu => hg.cell (hc i u hu) (show some b ≠ row from hne h0 ⟨b, off, none⟩ e)⟩

set_option maxRecDepth 100000 in
set_option maxHeartbeats 16000000 in
theorem feed14_yes (C B0 ln cl n c : Nat) (al b : Option Addr) (L pt en at_ : Int) (held : Value) (wss : List (List Int)) (lh l2 : List HitP) (w : World) (hC : ChB w C al ln cl L pt en held false) (hR : Sl1 (Value.int .i64) w al ln (lnL wss)) (hdl : ln ≠ 0 → ∀ q, al = some q → q.block ≠ C)
  (hO : OwnH w B0 held lh) (hCB : C < B0) (hH : Hts w b n l2) (hHC : n ≠ 0 → ∀ q, b = some q → q.block ≠ C) (hI : ∀ x ∈ lh, I64 x.1 ∧ I64 x.2) (hm1 : ∀ x ∈ lh, mayG wss x = true) (hm2 : ∀ x ∈ l2, mayG wss x = true) (hn1 : lh.length ≤ 400000) (hn2 : n ≤ 400000)
  (hpt : 0 ≤ pt) (h1 : pt ≤ at_) (h2 : at_ ≤ lastG) (hG : GoodG wss (pt + 1) at_ l2) (hL0 : 0 ≤ L) (hL1 : L ≤ 1000000) :
  Calls Try.prog 14 #[.pointer (some ⟨C, 0, none⟩), .int .i64 at_, .slice b n c] w fun e w' => ∃ v' h', e = .returned (.tuple #[v', .int .i64 0]) ∧ OwnH w' w.heap.size v' (tkG wss (at_ - L) (chG wss en (srtG wss (lh ++ l2)))) ∧ ChB w' C al ln cl L at_ (endG en (tkG wss (at_ - L) (chG wss en (srtG wss (lh ++ l2))))) h' false ∧
   OwnH w' w.heap.size h' ((lh ++ l2).filter fun x => !decide (bgG wss x < endG en (tkG wss (at_ - L) (chG wss en (srtG wss (lh ++ l2)))))) ∧ GrB w.heap.size C w w' := by
 have hCl : C < w.heap.size := (Array.getElem?_eq_some_iff.1 (show w.heap[C]? = _ from hC)).1
 obtain ⟨ha, hc, rfl, _, hHh⟩ := OwnH.hts hO hI
 have hob := row_ltG hO
 have HT := Lib.hid (takes28_yes C ln cl n c al b L pt en at_ (.slice ha lh.length hc) wss l2 w hC hR hH (by omega) hpt h1 h2 hG)
 have h2' : at_ ≤ 4611686020574871551 := h2
 have hws : IntKind.i64.wrap (at_ - L) = at_ - L := by rw [IntKind.wrap_i64]; omega
 -- from the world that 'takes' leaves, the place written
 have HX : Hid (∀ w1, Below w.heap.size w w1 → ChB (w1.setCell ⟨C, 2, none⟩ (.int .i64 at_)) C al ln cl L at_ en (.slice ha lh.length hc) false ∧ Sl1 (Value.int .i64) (w1.setCell ⟨C, 2, none⟩ (.int .i64 at_)) al ln (lnL wss) ∧ Hts (w1.setCell ⟨C, 2, none⟩ (.int .i64 at_)) ha lh.length lh ∧ Hts (w1.setCell ⟨C, 2, none⟩ (.int .i64 at_)) b n l2 ∧ GrB w.heap.size C w (w1.setCell ⟨C, 2, none⟩ (.int .i64 at_)) ∧ w1.cell? ⟨C, 2, none⟩ = some (.int .i64 pt) ∧ w1.frozen? ⟨C, 2, none⟩ = false ∧ C < w1.heap.size) := fun w1 hb => by
  have e := (hb.block C hCl).trans hC
  have hg := grown_set2 w1 C 2 (.int .i64 at_)
  refine ⟨set_at (i := 2) e (.int .i64 at_), (hR.below hb).grownG hg (fun h0 q hq e2 => hdl h0 q hq (Option.some.inj e2)), (hHh.below hb).grownG hg (fun h0 q hq e2 => ?_), (hH.below hb).grownG hg (fun h0 q hq e2 => hHC h0 q hq (Option.some.inj e2)), (GrB.of_below hb).grown' hg (fun k e => .inr (Option.some.inj e).symm) hb.size, by simp [World.cell?, e, chC], by simp [World.frozen?, e], Nat.lt_of_lt_of_le hCl hb.size⟩
  have := hob q.block (by rw [hq]; rfl)
  have := Option.some.inj e2
  omega
 have HM : Hid (∀ x ∈ lh ++ l2, mayG wss x = true) := fun x hx => (List.mem_append.1 hx).elim (hm1 x) (hm2 x)
 have HII : Hid (∀ x ∈ lh ++ l2, I64 x.1 ∧ I64 x.2) := fun x hx => (List.mem_append.1 hx).elim (hI x) (hH.2 x)
 have HNN : Hid ((lh ++ l2).length ≤ 1000000) := by rw [Hid, List.length_append, hH.len]; omega
 have HDL : Hid (ln ≠ 0 → ∀ q, al = some q → q.block ≠ C ∧ q.block < w.heap.size) := fun h0 q hq => by
  refine ⟨hdl h0 q hq, ?_⟩
  obtain ⟨b1, off, e, hlt, _⟩ := hR.2.resolve_left h0
  rw [hq] at e
  have e2 := Option.some.inj e
  rw [e2]
  exact hlt
 clear hC hR hdl hO hH hHC hI hm1 hm2 hHh hob hG h2
 go_enter Try.func14, Try.ntmps14
 go_upto_region 3 with (go_at_call 28; refine HT.out.mono ?_; rintro e w1 ⟨rfl, hb1⟩)
 obtain ⟨z1, z2, z3, z4, z5, z6, z7, z8⟩ := HX.out w1 hb1
 have HB1 := Lib.hid hb1
 clear hb1
 go_upto_region 4 with fail
 obtain ⟨X, hX⟩ : ∃ X, X = w1.setCell ⟨C, 2, none⟩ (.int .i64 at_) := ⟨_, rfl⟩
 rw [← hX] at z1 z2 z3 z4 z5 ⊢
 clear hX z6 z7 z8
 have c1 : X.cell? ⟨C, 1, none⟩ = some (.int .i64 L) := by simp [World.cell?, show X.heap[C]? = _ from z1, chC]
 have c4 : X.cell? ⟨C, 4, none⟩ = some (.slice ha lh.length hc) := by simp [World.cell?, show X.heap[C]? = _ from z1, chC]
 have Z1 := Lib.hid z1
 have Z2 := Lib.hid z2
 have Z3 := Lib.hid z3
 have Z4 := Lib.hid z4
 have Z5 := Lib.hid z5
 clear z1 z2 z3 z4 z5
 refine wp_region_noPanic ?_
 refine wp_region_held_drew (S := fun Y => Y.cell? ⟨C, 1, none⟩ = some (.int .i64 L)) (by kernel_rfl) c1 (fun hHeld => ?_)
 change wpAnyH _ _ _ _ _ 18 _ _ _
 iterate 6 (refine tkF 17 (v := ?_) ?_ ?_; rotate_left; (· intro V hV; first | (go_simp; done) | (go_simp; with_reducible rfl)); try simp only [Act.put, pA, pB, pC])
 refine tkW 6 (v := ?_) ?_ ?_
 rotate_left
 ·
  intro V hV
  have q0 : V.cell? ⟨C, 1, none⟩ = some (.int .i64 L) := hV
  first | (go_simp; done) | (go_simp; with_reducible rfl)
 try simp only [Act.put, pA, pB, pC]
 iterate 4 (refine tkF 17 (v := ?_) ?_ ?_; rotate_left; (· intro V hV; first | (go_simp; done) | (go_simp; with_reducible rfl)); try simp only [Act.put, pA, pB, pC])
 refine tkW 12 (v := ?_) ?_ ?_
 rotate_left
 ·
  intro V hV
  first | (go_simp; done) | (go_simp; with_reducible rfl)
 try simp only [Act.put, pA, pB, pC]
 have c4' : X.drew.cell? ⟨C, 4, none⟩ = some (.slice ha lh.length hc) := c4
 refine rdy 11 (fun K hK => ?_)
 go_simp
 refine hK.out _ _ hHeld (fun h11 => ?_)
 clear hK K h11
 try simp only [Act.put, pA, pB, pC]
 refine rdy 13 (fun K hK => ?_)
 go_simp
 obtain ⟨W3, hW3⟩ : ∃ Y, Y = (X.alloc (.cells #[.slice ha lh.length hc, .slice b n c] 25)).drew := ⟨_, rfl⟩
 rw [← hW3]
 have hb3 : Below X.heap.size X W3 := by rw [hW3]; exact (below_alloc X _).trans ((bel_drewN _ 1).mono (by simp))
 have hx3 : W3.heap[X.heap.size]? = some (.cells #[.slice ha lh.length hc, .slice b n c] 25 (0, 0)) := by rw [hW3]; exact World.alloc_heap_new X _
 have hXl : C < X.heap.size := (Array.getElem?_eq_some_iff.1 (show X.heap[C]? = _ from Z1.out)).1
 refine hK.out _ _ ((hb3.cell (p := ⟨C, 1, none⟩) hXl).trans c1) (fun h13 => ?_)
 have HCC := Lib.hid (concat30_any X.heap.size lh.length n hc c 2 ha b lh l2 W3 hx3 (Z3.out.below hb3) (Z4.out.below hb3) hn1 hn2)
 have HB3 := Lib.hid hb3
 clear hK K h13 hW3 hb3 hx3 c4 c4' hHeld
 try simp only [Act.put, pA, pB, pC]
 refine rdy 14 (fun K hK => ?_)
 go_simp
 go_at_call 30; refine (HCC.out).mono ?_; rintro e w4 ⟨v4, rfl, ho4, hb4⟩
 refine hK.out _ _ ((((HB3.out.trans (hb4.mono HB3.out.size)).cell (p := ⟨C, 1, none⟩) hXl).trans c1)) (fun hS4 => ?_)
 clear hK K
 try simp only [Act.put, pA, pB, pC]
 have hb4' := HB3.out.trans (hb4.mono HB3.out.size)
 have HB4 := Lib.hid hb4'
 have hz5 := Z5.out.size
 have hw4 : w.heap.size ≤ w4.heap.size := Nat.le_trans hz5 hb4'.size
 have hC4 : ChB w4 C al ln cl L at_ en (.slice ha lh.length hc) false := (hb4'.block C hXl).trans Z1.out
 have HTL := Lib.hid (tell29_any w.heap.size C ln cl al L at_ en (at_ - L) (.slice ha lh.length hc) v4 false wss (lh ++ l2) w4 hC4 (Z2.out.below hb4') HDL.out hCl hw4 (ownsRow_lowerG ho4 (by have := HB3.out.size; omega)) HII.out HM.out HNN.out)
 have HW4 := Lib.hid hw4
 clear ho4 hb4 hb4' hC4 hz5 hw4 HCC
 refine rdy 15 (fun K hK => ?_)
 go_simp
 go_at_call 29; refine (HTL.out).mono ?_; rintro e w5 ⟨v', h', rfl, q1, q2, q3, q4⟩
 refine hK.out _ _ ((by simp [World.cell?, show w5.heap[C]? = _ from q2, chC])) (fun hS5 => ?_)
 clear hK K
 try simp only [Act.put, pA, pB, pC]
 have Q1 := Lib.hid q1
 have Q2 := Lib.hid q2
 have Q3 := Lib.hid q3
 have Q4 := Lib.hid q4
 clear q1 q2 q3 q4 hS4 c1 HTL
 iterate 2 (refine tkF 17 (v := ?_) ?_ ?_; rotate_left; (· intro V hV; first | (go_simp; done) | (go_simp; with_reducible rfl)); try simp only [Act.put, pA, pB, pC])
 refine wpAnyH_done (by kernel_rfl) ?_ _
 refine NoPanic.normal ?_
 go_wp2
 go_ret2
 refine ⟨v', h', rfl, ownsRow_lowerG Q1.out HW4.out, Q2.out, Q3.out, ?_⟩
 exact ((Z5.out.trans (GrB.of_below (HB4.out.mono Z5.out.size))).trans Q4.out)
end Go.Proofs.Ytglfdclpjmhoiaa

/- Greedy (layer 15): a chooser is closed; walked. -/

namespace Go.Proofs.Ytglfdclpjmhoiaa
open Go.RowKit Go.Sort

set_option maxRecDepth 100000 in
theorem close16_nil (w : World) : Calls Try.prog 16 #[.pointer none] w fun e w' => e = .returned (.slice none 0 0) ∧ w' = w := by
 go_enter Try.func16, Try.ntmps16
 go_wp2
 go_ret
 exact ⟨rfl, rfl⟩

set_option maxRecDepth 100000 in
set_option maxHeartbeats 16000000 in
theorem close16_yes (C B0 ln cl : Nat) (al : Option Addr) (L pt en : Int) (held : Value) (wss : List (List Int)) (lh : List HitP) (w : World) (hC : ChB w C al ln cl L pt en held false) (hR : Sl1 (Value.int .i64) w al ln (lnL wss)) (hdl : ln ≠ 0 → ∀ q, al = some q → q.block ≠ C)
  (hO : OwnH w B0 held lh) (hCB : C < B0) (hI : ∀ x ∈ lh, I64 x.1 ∧ I64 x.2) (hm1 : ∀ x ∈ lh, mayG wss x = true) (hn1 : lh.length ≤ 1000000) :
  Calls Try.prog 16 #[.pointer (some ⟨C, 0, none⟩)] w fun e w' => ∃ v' E, e = .returned v' ∧ OwnH w' w.heap.size v' (tkG wss lastG (chG wss en (srtG wss lh))) ∧ ChB w' C al ln cl L pt E (.slice none 0 0) true ∧ GrB w.heap.size C w w' := by
 have hCl : C < w.heap.size := (Array.getElem?_eq_some_iff.1 (show w.heap[C]? = _ from hC)).1
 obtain ⟨ha, hc, rfl, _, hHh⟩ := OwnH.hts hO hI
 have hob := row_ltG hO
 obtain ⟨X, hX⟩ : ∃ X, X = w.setCell ⟨C, 5, none⟩ (.bool true) := ⟨_, rfl⟩
 have hg := grown_set2 w C 5 (.bool true)
 rw [← hX] at hg
 have z1 : ChB X C al ln cl L pt en (.slice ha lh.length hc) true := by rw [hX]; exact set_at (i := 5) hC (.bool true)
 have z2 : Sl1 (Value.int .i64) X al ln (lnL wss) := hR.grownG hg (fun h0 q hq e2 => hdl h0 q hq (Option.some.inj e2))
 have z3 : Hts X ha lh.length lh := hHh.grownG hg (fun h0 q hq e2 => by
  have := hob q.block (by rw [hq]; rfl)
  have := Option.some.inj e2
  omega)
 have z5 : GrB w.heap.size C w X := (GrB.of_below (Below.refl _ w)).grown' hg (fun k e => .inr (Option.some.inj e).symm) (Nat.le_refl _)
 have c5 : w.cell? ⟨C, 5, none⟩ = some (.bool false) := by simp [World.cell?, show w.heap[C]? = _ from hC, chC]
 have f5 : w.frozen? ⟨C, 5, none⟩ = false := by simp [World.frozen?, show w.heap[C]? = _ from hC]
 have c4 : X.cell? ⟨C, 4, none⟩ = some (.slice ha lh.length hc) := by simp [World.cell?, show X.heap[C]? = _ from z1, chC]
 have HDL : Hid (ln ≠ 0 → ∀ q, al = some q → q.block ≠ C ∧ q.block < w.heap.size) := fun h0 q hq => by
  refine ⟨hdl h0 q hq, ?_⟩
  obtain ⟨b1, off, e, hlt, _⟩ := hR.2.resolve_left h0
  rw [hq] at e
  have e2 := Option.some.inj e
  rw [e2]
  exact hlt
 have Z1 := Lib.hid z1
 have Z2 := Lib.hid z2
 have Z5 := Lib.hid z5
 have HM := Lib.hid hm1
 have HI := Lib.hid hI
 have HCL := Lib.hid (clone31_any ha lh.length hc lh X z3 hn1)
 clear hC hR hO hHh hob hg z1 z2 z3 z5 hm1 hI hdl
 go_enter Try.func16, Try.ntmps16
 go_upto_region 4 with fail
 rw [← hX]
 clear hX c5 f5
 go_wp2_with fail
 refine HCL.out.mono ?_
 rintro e w4 ⟨v4, rfl, ho4, hb4⟩
 have hXl : C < X.heap.size := (Array.getElem?_eq_some_iff.1 (show X.heap[C]? = _ from Z1.out)).1
 have hz5 := Z5.out.size
 have hw4 : w.heap.size ≤ w4.heap.size := Nat.le_trans hz5 hb4.size
 have hC4 : ChB w4 C al ln cl L pt en (.slice ha lh.length hc) true := (hb4.block C hXl).trans Z1.out
 have HTL := Lib.hid (tell29_any w.heap.size C ln cl al L pt en lastG (.slice ha lh.length hc) v4 true wss lh w4 hC4 (Z2.out.below hb4) HDL.out hCl hw4 (ownsRow_lowerG ho4 hz5) HI.out HM.out hn1)
 have HW4 := Lib.hid hw4
 have HB4 := Lib.hid hb4
 clear ho4 hb4 hC4 hz5 hw4 HCL c4
 go_wp2_with fail
 refine HTL.out.mono ?_
 rintro e w5 ⟨v', h', rfl, q1, q2, q3, q4⟩
 have t0 : w5.cell? ⟨C, 4, none⟩ = some h' := by simp [World.cell?, show w5.heap[C]? = _ from q2, chC]
 have t1 : w5.frozen? ⟨C, 4, none⟩ = false := by simp [World.frozen?, show w5.heap[C]? = _ from q2]
 have t2 : C < w5.heap.size := (Array.getElem?_eq_some_iff.1 (show w5.heap[C]? = _ from q2)).1
 have Q1 := Lib.hid q1
 have Q2 := Lib.hid q2
 have Q4 := Lib.hid q4
 clear q1 q2 q3 q4 HTL
 go_wp2
 go_ret
 have hg2 := grown_set2 w5 C 4 (.slice none 0 0)
 refine ⟨v', _, rfl, ?_, set_at (i := 4) Q2.out (.slice none 0 0), ?_⟩
 · exact ownsRow_lowerG (ownsRow_same Q1.out (fun k hk => hg2.block k (row_ltG Q1.out k hk).2 (fun e => by have := (row_ltG Q1.out k hk).1; have := Option.some.inj e; have := HW4.out; omega))) HW4.out
 · exact (((Z5.out.trans (GrB.of_below (HB4.out.mono Z5.out.size))).trans Q4.out).grown' hg2 (fun k e => .inr (Option.some.inj e).symm) (by have := Q4.out.size; have := HW4.out; omega))
end Go.Proofs.Ytglfdclpjmhoiaa

/- Greedy (layer 15): the document's length, beginning and may of a hit; walked. -/

namespace Go.Proofs.Ytglfdclpjmhoiaa
open Go.RowKit Go.Sort

set_option maxRecDepth 100000 in
set_option maxHeartbeats 8000000 in
theorem length22_any (fold : Bool) (a : Option Addr) (la ca : Nat) (wss : List (List Int)) (h : HitP) (w : World) (hA : Wds w a la wss) :
  Calls Try.prog 22 #[.agg (setV fold a la ca), .agg #[.int .i64 h.1, .int .i64 h.2]] w fun e w' => e = .returned (.int .i64 (lenW wss h.2)) ∧ Below w.heap.size w w' := by
 obtain ⟨W, hW⟩ : ∃ W, W = (w.alloc (.cells (setV fold a la ca) 24)).alloc (.cells #[.int .i64 h.1, .int .i64 h.2] 30) := ⟨_, rfl⟩
 have hB : Below w.heap.size w W := by rw [hW]; exact (below_alloc _ _).alloc (by simp) _
 have hO : Bx w.heap.size [.cells (setV fold a la ca) 24, .cells #[.int .i64 h.1, .int .i64 h.2] 30] W := by rw [hW]; exact ((Bx.nil _ w).snoc _ rfl).snoc _ (by simp)
 have s1 : W.cell? ⟨w.heap.size, 1, none⟩ = some (.slice a la ca) := hO.cell (i := 0) rfl rfl
 have s2 : W.cell? ⟨w.heap.size + 1, 0, none⟩ = some (.int .i64 h.1) := hO.cell (i := 1) rfl rfl
 have s3 : W.cell? ⟨w.heap.size + 1, 1, none⟩ = some (.int .i64 h.2) := hO.cell (i := 1) rfl rfl
 have hl := hA.len
 have hA2 := hA.below hB
 have HB := Lib.hid hB
 clear hO hA hB
 obtain ⟨h1, h2⟩ := h
 dsimp only at s2 s3 ⊢
 by_cases g0 : 0 ≤ h2
 ·
  obtain ⟨k, rfl⟩ := Int.eq_ofNat_of_zero_le g0
  have d0 : decide ((k : Int) < 0) = false := by simp
  by_cases g1 : k < la
  ·
   have d1 : decide ((k : Int) ≥ (la : Int)) = false := by simp; omega
   have d1' : decide ((la : Int) ≤ (k : Int)) = false := by simp; omega
   have d1'' : decide (la ≤ k) = false := by simp; omega
   obtain ⟨bb, off, a', l, c, x, rfl, hbl, hcell, hx, hX, hlc⟩ := hA2.at_ g1
   have hv : lenW wss (k : Int) = (l : Int) := by
    unfold lenW
    rw [if_pos ⟨by omega, by omega⟩, Int.toNat_natCast, hx, Option.getD_some, hX.len]
   have i1 : (0 : Int) ≤ (k : Int) := by omega
   have i2 : (k : Int) < (la : Int) := by omega
   have HV := Lib.hid hv
   rw [hv]
   clear hv hx hX hA2 hl g0 g1
   go_enter Try.func22, Try.ntmps22
   go_upto_region 1 with fail
   rw [← hW]
   clear hW
   go_wp2
   go_ret
   exact ⟨rfl, HB.out⟩
  ·
   have d1 : decide ((k : Int) ≥ (la : Int)) = true := by simp; omega
   have d1' : decide ((la : Int) ≤ (k : Int)) = true := by simp; omega
   have d1'' : decide (la ≤ k) = true := by simp; omega
   have hv : lenW wss (k : Int) = 0 := by
    unfold lenW
    rw [if_neg (by omega)]
   rw [hv]
   clear hv hA2 hl g0 g1
   go_enter Try.func22, Try.ntmps22
   go_upto_region 1 with fail
   rw [← hW]
   clear hW
   go_wp2
   go_ret
   exact ⟨rfl, HB.out⟩
 ·
  have d0 : decide (h2 < 0) = true := by simp; omega
  have hv : lenW wss h2 = 0 := by
   unfold lenW
   rw [if_neg (by omega)]
  rw [hv]
  clear hv hA2 hl g0
  go_enter Try.func22, Try.ntmps22
  go_upto_region 1 with fail
  rw [← hW]
  clear hW
  go_wp2
  go_ret
  exact ⟨rfl, HB.out⟩

set_option maxRecDepth 100000 in
set_option maxHeartbeats 8000000 in
theorem rbegin11_any (fold : Bool) (a : Option Addr) (la ca : Nat) (wss : List (List Int)) (h : HitP) (w : World) (hA : Wds w a la wss) (hm : mayG wss h = true) :
  Calls Try.prog 11 #[.agg (setV fold a la ca), .agg #[.int .i64 h.1, .int .i64 h.2]] w fun e w' => e = .returned (.int .i64 (bgG wss h)) ∧ Below w.heap.size w w' := by
 obtain ⟨W, hW⟩ : ∃ W, W = (w.alloc (.cells (setV fold a la ca) 24)).alloc (.cells #[.int .i64 h.1, .int .i64 h.2] 30) := ⟨_, rfl⟩
 have hB : Below w.heap.size w W := by rw [hW]; exact (below_alloc _ _).alloc (by simp) _
 have hO : Bx w.heap.size [.cells (setV fold a la ca) 24, .cells #[.int .i64 h.1, .int .i64 h.2] 30] W := by rw [hW]; exact ((Bx.nil _ w).snoc _ rfl).snoc _ (by simp)
 have k0 : ∀ d os, (grow (redrawn W d) os).cell? ⟨w.heap.size, 0, none⟩ = some (.bool fold) := cell_regrown (hO.cell (i := 0) rfl rfl)
 have k1 : ∀ d os, (grow (redrawn W d) os).cell? ⟨w.heap.size, 1, none⟩ = some (.slice a la ca) := cell_regrown (hO.cell (i := 0) rfl rfl)
 have k2 : ∀ d os, (grow (redrawn W d) os).cell? ⟨w.heap.size + 1, 0, none⟩ = some (.int .i64 h.1) := cell_regrown (hO.cell (i := 1) rfl rfl)
 have k3 : ∀ d os, (grow (redrawn W d) os).cell? ⟨w.heap.size + 1, 1, none⟩ = some (.int .i64 h.2) := cell_regrown (hO.cell (i := 1) rfl rfl)
 have hA2 := hA.below hB
 have hlen : ∀ d os, Calls Try.prog 22 #[.agg (setV fold a la ca), .agg #[.int .i64 h.1, .int .i64 h.2]] (grow (redrawn W d) os) fun e w' => e = .returned (.int .i64 (lenW wss h.2)) ∧ RowKit.Below (grow (redrawn W d) os).heap.size (grow (redrawn W d) os) w' := fun d os => length22_any fold a la ca wss h _ (hA2.below (below_regrown W d os))
 obtain ⟨m1, m2, m3, m4⟩ := mayG_iff.1 hm
 have hnn := lenW_nn (wss := wss) h.2
 have hws : IntKind.i64.wrap (h.1 - lenW wss h.2) = bgG wss h := by
  unfold bgG
  rw [IntKind.wrap_i64]
  have m4 : h.1 ≤ 4611686020574871551 := m4
  omega
 obtain ⟨lw, hlw⟩ : ∃ lw, lenW wss h.2 = lw := ⟨_, rfl⟩
 rw [hlw] at hlen hws
 have HB := Lib.hid hB
 clear hO hA hB hA2 hm m1 m2 m3 m4 hnn hlw
 go_enter Try.func11, Try.ntmps11
 go_upto_region 1 with fail
 rw [← hW]
 clear hW
 refine wp_region_quiet_below mixed (by kernel_rfl) ?_
 iterate 4 (go_big_quiet_step (fail))
 go_big_quiet_step (exact grown_below (hlen _ _))
 iterate 2 (go_big_quiet_step (fail))
 refine wpQuiet_nil ?_
 rintro _ ⟨⟨dq, osq⟩, rfl⟩
 have hb2 := below_regrown W dq osq
 go_wp2
 go_ret
 exact ⟨rfl, HB.out.trans (hb2.mono HB.out.size)⟩

/-- The document's may. -/
def mayD (wss : List (List Int)) (h : HitP) : Bool := decide (0 < lenW wss h.2) && (decide (lenW wss h.2 ≤ h.1) && decide (h.1 ≤ lastG))
theorem mayD_eq {wss : List (List Int)} (hne : ∀ x ∈ wss, x ≠ []) (h : HitP) : mayD wss h = mayG wss h := by
 rw [Bool.eq_iff_iff]
 simp only [mayD, mayG, Bool.and_eq_true, decide_eq_true_eq]
 constructor
 ·
  rintro ⟨h1, h2, h3⟩
  by_cases g : 0 ≤ h.2 ∧ h.2 < (wss.length : Int)
  · exact ⟨g.1, g.2, h2, h3⟩
  ·
   unfold lenW at h1
   rw [if_neg g] at h1
   omega
 ·
  rintro ⟨h0, h1, h2, h3⟩
  refine ⟨?_, h2, h3⟩
  unfold lenW
  rw [if_pos ⟨h0, h1⟩]
  have hlt : h.2.toNat < wss.length := by omega
  rw [List.getElem?_eq_getElem hlt, Option.getD_some]
  have := hne _ (List.getElem_mem hlt)
  have := List.length_pos_iff.2 this
  omega
set_option maxRecDepth 100000 in
set_option maxHeartbeats 16000000 in
theorem rmay8_any (fold : Bool) (a : Option Addr) (la ca : Nat) (wss : List (List Int)) (h : HitP) (w : World) (hA : Wds w a la wss) :
  Calls Try.prog 8 #[.agg (setV fold a la ca), .agg #[.int .i64 h.1, .int .i64 h.2]] w fun e w' => e = .returned (.bool (mayD wss h)) ∧ Below w.heap.size w w' := by
 obtain ⟨W, hW⟩ : ∃ W, W = (w.alloc (.cells (setV fold a la ca) 24)).alloc (.cells #[.int .i64 h.1, .int .i64 h.2] 30) := ⟨_, rfl⟩
 have hB : Below w.heap.size w W := by rw [hW]; exact (below_alloc _ _).alloc (by simp) _
 have hO : Bx w.heap.size [.cells (setV fold a la ca) 24, .cells #[.int .i64 h.1, .int .i64 h.2] 30] W := by rw [hW]; exact ((Bx.nil _ w).snoc _ rfl).snoc _ (by simp)
 have k0 : ∀ d os, (grow (redrawn W d) os).cell? ⟨w.heap.size, 0, none⟩ = some (.bool fold) := cell_regrown (hO.cell (i := 0) rfl rfl)
 have k1 : ∀ d os, (grow (redrawn W d) os).cell? ⟨w.heap.size, 1, none⟩ = some (.slice a la ca) := cell_regrown (hO.cell (i := 0) rfl rfl)
 have k2 : ∀ d os, (grow (redrawn W d) os).cell? ⟨w.heap.size + 1, 0, none⟩ = some (.int .i64 h.1) := cell_regrown (hO.cell (i := 1) rfl rfl)
 have k3 : ∀ d os, (grow (redrawn W d) os).cell? ⟨w.heap.size + 1, 1, none⟩ = some (.int .i64 h.2) := cell_regrown (hO.cell (i := 1) rfl rfl)
 have hA2 := hA.below hB
 have hlen : ∀ d os, Calls Try.prog 22 #[.agg (setV fold a la ca), .agg #[.int .i64 h.1, .int .i64 h.2]] (grow (redrawn W d) os) fun e w' => e = .returned (.int .i64 (lenW wss h.2)) ∧ RowKit.Below (grow (redrawn W d) os).heap.size (grow (redrawn W d) os) w' := fun d os => length22_any fold a la ca wss h _ (hA2.below (below_regrown W d os))
 unfold mayD
 obtain ⟨lw, hlw⟩ : ∃ lw, lenW wss h.2 = lw := ⟨_, rfl⟩
 rw [hlw] at hlen ⊢
 obtain ⟨D1, hD1⟩ : ∃ b, decide (0 < lw) = b := ⟨_, rfl⟩
 obtain ⟨D2, hD2⟩ : ∃ b, decide (lw ≤ h.1) = b := ⟨_, rfl⟩
 obtain ⟨D3, hD3⟩ : ∃ b, decide (h.1 ≤ lastG) = b := ⟨_, rfl⟩
 have hD1' : decide (lw > 0) = D1 := hD1
 have hD2' : decide (h.1 ≥ lw) = D2 := hD2
 have hD3' : decide (h.1 ≤ 4611686020574871551) = D3 := hD3
 rw [hD1, hD2, hD3]
 have HB := Lib.hid hB
 clear hO hA hB hA2 hlw hD3
 go_enter Try.func8, Try.ntmps8
 go_upto_region 1 with fail
 rw [← hW]
 clear hW
 cases D1 with
 | false =>
  refine wp_region_quiet_below mixed (by kernel_rfl) ?_
  iterate 2 (go_big_quiet_step (fail))
  go_big_quiet_step (exact grown_below (hlen _ _))
  iterate 15 (go_big_quiet_step (fail))
  refine wpQuiet_nil ?_
  rintro _ ⟨⟨dq, osq⟩, rfl⟩
  have hb2 := below_regrown W dq osq
  go_wp2
  go_ret
  exact ⟨rfl, HB.out.trans (hb2.mono HB.out.size)⟩
 | true =>
  cases D2 with
  | false =>
   refine wp_region_quiet_below mixed (by kernel_rfl) ?_
   iterate 2 (go_big_quiet_step (fail))
   go_big_quiet_step (exact grown_below (hlen _ _))
   iterate 6 (go_big_quiet_step (fail))
   go_big_quiet_step (exact grown_below (hlen _ _))
   iterate 8 (go_big_quiet_step (fail))
   refine wpQuiet_nil ?_
   rintro _ ⟨⟨dq, osq⟩, rfl⟩
   have hb2 := below_regrown W dq osq
   go_wp2
   go_ret
   exact ⟨rfl, HB.out.trans (hb2.mono HB.out.size)⟩
  | true =>
   refine wp_region_quiet_below mixed (by kernel_rfl) ?_
   iterate 2 (go_big_quiet_step (fail))
   go_big_quiet_step (exact grown_below (hlen _ _))
   iterate 6 (go_big_quiet_step (fail))
   go_big_quiet_step (exact grown_below (hlen _ _))
   iterate 8 (go_big_quiet_step (fail))
   refine wpQuiet_nil ?_
   rintro _ ⟨⟨dq, osq⟩, rfl⟩
   have hb2 := below_regrown W dq osq
   go_wp2
   go_ret
   exact ⟨rfl, HB.out.trans (hb2.mono HB.out.size)⟩
end Go.Proofs.Ytglfdclpjmhoiaa

/- Hits compared (document): walked. -/

namespace Go.Proofs.Ytglfdclpjmhoiaa
open Go.RowKit Go.Sort

set_option maxHeartbeats 2000000 in
theorem rsame13_any (a b : Option Addr) (la ca lb cb : Nat) (l m : List HitP) (w : World) (hA : Hts w a la l) (hB : Hts w b lb m) (hla : la ≤ 4611686018427387904) :
  Calls Try.prog 15 #[.slice a la ca, .slice b lb cb] w fun e w' => e = .returned (.bool (decide (l = m))) ∧ Below w.heap.size w w' := by
 have HA := Lib.hid hA.len
 have HB := Lib.hid hB.len
 have hgt := hit_guard
 by_cases hl : la = lb
 ·
  subst hl
  go_enter Try.func15, Try.ntmps15
  go_wp2
  go_loopw [5] (fun i wr => ∃ k : Nat, k ≤ la ∧ i = .int .i64 k ∧ Hid (l.take k = m.take k) ∧ Below w.heap.size w wr) (fun i _ => la - (intOf i).toNat)
  case atStart => exact ⟨0, Nat.zero_le _, rfl, by simp [Hid], Below.refl _ _⟩
  case round =>
   obtain ⟨k, hk, rfl, HK, hBe⟩ := hrel
   by_cases hlt : k < la
   ·
    obtain ⟨b1, o1, x, rfl, hb1, x0, x1, hx, _, _⟩ := (hA.below hBe).at_ hlt
    obtain ⟨b2, o2, y, rfl, hb2, y0, y1, hy, _, _⟩ := (hB.below hBe).at_ hlt
    have HX := Lib.hid hx
    have HY := Lib.hid hy
    clear hx hy
    have hd : decide ((k : Int) < la) = true := by simp; omega
    have hne := fun W => neq_hit x y W
    by_cases h : x = y
    ·
     have HS : Hid (l.take (k + 1) = m.take (k + 1)) := by rw [take_step HX.out, take_step HY.out, HK.out, h]; rfl
     have hdd : decide (x = y) = true := by simp [h]
     rw [hdd] at hne
     clear h hdd
     go_wp2
     go_quiet (fail)
     go_wp2
     go_roundw
     case rel => exact ⟨k + 1, by omega, by go_num, HS, hBe.trans ⟨rfl, rfl, rfl, Nat.le_refl _, fun _ _ => rfl⟩⟩
     case measure => simp [intOf]; omega
    ·
     have HS : Hid (decide (l = m) = false) := by
      have : l ≠ m := fun e => by
       have h1 := HX.out
       rw [e, HY.out] at h1
       exact h (Option.some.inj h1).symm
      simp [Hid, this]
     have hdd : decide (x = y) = false := by simp [h]
     rw [hdd] at hne
     clear h hdd
     go_wp2
     go_quiet (fail)
     go_wp2
     go_ret
     exact ⟨by rw [HS.out]; rfl, hBe.trans ⟨rfl, rfl, rfl, Nat.le_refl _, fun _ _ => rfl⟩⟩
   ·
    obtain rfl : k = la := by omega
    have HS : Hid (decide (l = m) = true) := by
     have h := HK.out
     rw [List.take_of_length_le (by rw [HA.out]; exact Nat.le_refl _), List.take_of_length_le (by rw [HB.out]; exact Nat.le_refl _)] at h
     simp [Hid, h]
    go_wp2
    go_ret
    exact ⟨by rw [HS.out]; rfl, hBe⟩
 ·
  have HS : Hid (decide (l = m) = false) := by
   have : l ≠ m := fun e => hl (by rw [← HA.out, ← HB.out, e])
   simp [Hid, this]
  have hne : ((la : Int) != (lb : Int)) = true := by simp; omega
  go_enter Try.func15, Try.ntmps15
  go_wp2
  go_ret
  exact ⟨by rw [HS.out]; rfl, Below.refl _ _⟩
end Go.Proofs.Ytglfdclpjmhoiaa

/- Greedy (layer 15): is a hit among others (law); walked. -/

namespace Go.Proofs.Ytglfdclpjmhoiaa
open Go.RowKit Go.Sort

set_option maxRecDepth 100000 in
set_option maxHeartbeats 8000000 in
theorem among10_any (b : Option Addr) (n c : Nat) (l : List HitP) (h : HitP) (w : World) (hH : Hts w b n l) (hn : n ≤ 1000000) :
  Calls Try.prog 10 #[.slice b n c, .agg #[.int .i64 h.1, .int .i64 h.2]] w fun e w' => e = .returned (.bool (decide (h ∈ l))) ∧ Below w.heap.size w w' := by
 obtain ⟨W, hW⟩ : ∃ W, W = w.alloc (.cells #[.int .i64 h.1, .int .i64 h.2] 30) := ⟨_, rfl⟩
 have hB : Below w.heap.size w W := by rw [hW]; exact below_alloc _ _
 have hO : Bx w.heap.size [.cells #[.int .i64 h.1, .int .i64 h.2] 30] W := by rw [hW]; exact (Bx.nil _ w).snoc _ rfl
 have HLEN := Lib.hid hH.len
 have hgt := hit_guard
 have HK : Hid (∀ V, Below W.heap.size W V → V.cell? ⟨w.heap.size, 0, none⟩ = some (.int .i64 h.1) ∧ V.cell? ⟨w.heap.size, 1, none⟩ = some (.int .i64 h.2) ∧ Hts V b n l ∧ Below w.heap.size w V) := fun V hV => by
  have hx := hO.below hV
  have h1 := hB.trans (hV.mono hB.size)
  exact ⟨hx.cell (i := 0) rfl rfl, hx.cell (i := 0) rfl rfl, hH.below h1, h1⟩
 clear hO hH hB
 go_enter Try.func10, Try.ntmps10
 go_upto_region 2 with fail
 rw [← hW]
 clear hW
 go_loopw [5] (fun s5 wr => ∃ k : Nat, k ≤ n ∧ s5 = .int .i64 (k : Int) ∧ Hid (h ∉ l.take k) ∧ Hid (Below W.heap.size W wr)) (fun s _ => n - (intOf s).toNat)
 case atStart => exact ⟨0, Nat.zero_le _, rfl, by simp [Hid], Below.refl _ _⟩
 case round =>
  obtain ⟨k, hk, rfl, HN, HBE⟩ := hrel
  obtain ⟨s0, s1, hH, hBw⟩ := HK.out wr HBE.out
  by_cases hlt : k < n
  ·
   have d0 : decide ((k : Int) < (n : Int)) = true := by simp; omega
   have d0' : decide (k < n) = true := by simp; omega
   obtain ⟨b0, o0, x, rfl, hl0, x0, x1, hx, _, _⟩ := hH.at_ hlt
   have i1 : (0 : Int) ≤ (k : Int) := by omega
   have i2 : (k : Int) < (n : Int) := by omega
   have heq := fun W => eql_hit x h W
   obtain ⟨q, hq⟩ : ∃ q, decide (x = h) = q := ⟨_, rfl⟩
   rw [hq] at heq
   have HQ := Lib.hid hq
   have HX := Lib.hid hx
   have HLT := Lib.hid hlt
   have HBW := Lib.hid hBw
   have HD := Lib.hid (fun q => HBE.out.trans ((bel_drewN wr q).mono HBE.out.size))
   clear hx hq hlt hH hBw
   cases q with
   | true =>
    go_upto_region 4 with fail
    go_quiet (fail)
    go_wp2
    go_ret
    refine ⟨?_, (HK.out _ (HD.out _)).2.2.2⟩
    have e : x = h := of_decide_eq_true HQ.out
    rw [decide_eq_true (by rw [← e]; exact List.mem_of_getElem? HX.out)]
    rfl
   | false =>
    go_upto_region 4 with fail
    go_quiet (fail)
    go_wp2
    go_roundw
    case rel =>
     refine ⟨k + 1, HLT.out, by go_num, ?_, HD.out _⟩
     rw [Hid, take_step HX.out, List.mem_append, List.mem_singleton]
     rintro (g | g)
     · exact HN.out g
     · exact of_decide_eq_false HQ.out g.symm
    case measure =>
     have := HLT.out
     simp [intOf]
     omega
  ·
   obtain rfl : k = n := by omega
   have d0 : decide ((k : Int) < (k : Int)) = false := by simp
   have HF : Hid (decide (h ∈ l) = false) := by
    have g := HN.out
    rw [List.take_of_length_le (by rw [HLEN.out]; exact Nat.le_refl _)] at g
    exact decide_eq_false g
   have HBW := Lib.hid hBw
   clear hH hBw hlt
   go_wp2
   go_ret
   exact ⟨by rw [HF.out]; rfl, HBW.out⟩
end Go.Proofs.Ytglfdclpjmhoiaa
