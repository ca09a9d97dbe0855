/- Parts of the proof, one behind the other: O9, D1, D2. No condition but what each theorem states. -/
import Derived.Deep.RegionHeld3
import Derived.Test.YtmpmjkbjnklgfaaQ5
import Derived.Test.YtmpmjkbjnklgfaaQ8

/- What the document says of usher from 10 on (layer 6): walked. -/


namespace Go.Proofs.Ytmpmjkbjnklgfaa
open Go.RowKit Go.Sort
set_option linter.unusedVariables false
set_option linter.unusedSimpArgs false

theorem conv_lit_drew (w : World) (C : Array Value) (n c k : Nat) (h : w.heap.size = k) : (convert 40 40 (.slice (some ⟨k, 0, none⟩) n c)).run Try.prog (w.alloc (.cells C 5)).drew = .ok (.slice (some ⟨k, 0, none⟩) n c) (w.alloc (.cells C 5 (C.size, C.size + 1))).drew :=
  conv_lit w.drew C n c k h

/-- What lies there all the way. -/
structure UCtx (p g : Nat) (a : Addr) (W : World) : Prop where
  lt : p < W.heap.size
  c0 : W.cell? ⟨p, 0, none⟩ = some (.bool false)
  c1 : W.cell? ⟨p, 1, none⟩ = some (.slice (some a) 3 3)
  wds : Wds W (some a) 3 heW
  hts : Hts W (some ⟨g, 0, none⟩) 3 usherH
theorem UCtx.below {p g : Nat} {a : Addr} {W W' : World} (h : UCtx p g a W) (hb : Below W.heap.size W W') : UCtx p g a W' :=
  ⟨Nat.lt_of_lt_of_le h.lt hb.size, (hb.cell (p := ⟨p, 0, none⟩) h.lt).trans h.c0, (hb.cell (p := ⟨p, 1, none⟩) h.lt).trans h.c1, h.wds.below hb, h.hts.below hb⟩
theorem UCtx.cells {p g : Nat} {a : Addr} {W : World} (h : UCtx p g a W) : W.cell? ⟨g, 0, none⟩ = some (.int .i64 14) ∧ W.cell? ⟨g, 1, none⟩ = some (.int .i64 1) ∧ W.cell? ⟨g, 2, none⟩ = some (.int .i64 14) ∧ W.cell? ⟨g, 3, none⟩ = some (.int .i64 0) ∧ W.cell? ⟨g, 4, none⟩ = some (.int .i64 15) ∧ W.cell? ⟨g, 5, none⟩ = some (.int .i64 2) := by
  obtain ⟨b, off, e, _, hc⟩ := h.hts.1.2.resolve_left (by decide)
  injection e with e
  injection e with e1 e2
  subst e1 e2
  have f := fun i u hu => hc i u hu
  simp only [Nat.zero_add] at f
  exact ⟨f 0 _ rfl, f 1 _ rfl, f 2 _ rfl, f 3 _ rfl, f 4 _ rfl, f 5 _ rfl⟩

/-- The same, with all cells in sight. -/
def SU (w : World) (p g : Nat) (a : Addr) (W : World) : Prop :=
  (W.cell? ⟨p, 0, none⟩ = some (.bool false) ∧ W.cell? ⟨p, 1, none⟩ = some (.slice (some a) 3 3) ∧ W.cell? ⟨g, 0, none⟩ = some (.int .i64 14) ∧ W.cell? ⟨g, 1, none⟩ = some (.int .i64 1) ∧ W.cell? ⟨g, 2, none⟩ = some (.int .i64 14) ∧ W.cell? ⟨g, 3, none⟩ = some (.int .i64 0) ∧ W.cell? ⟨g, 4, none⟩ = some (.int .i64 15) ∧ W.cell? ⟨g, 5, none⟩ = some (.int .i64 2)) ∧ UCtx p g a W ∧ RowKit.Below w.heap.size w W
theorem SU.of {w : World} {p g : Nat} {a : Addr} {W : World} (h : UCtx p g a W) (hb : RowKit.Below w.heap.size w W) : SU w p g a W := by
  obtain ⟨h0, h1, h2, h3, h4, h5⟩ := h.cells
  exact ⟨⟨h.c0, h.c1, h0, h1, h2, h3, h4, h5⟩, h, hb⟩
theorem SU.below {w : World} {p g : Nat} {a : Addr} {W W' : World} (h : SU w p g a W) (hb : RowKit.Below W.heap.size W W') : SU w p g a W' := SU.of (h.2.1.below hb) (h.2.2.trans (hb.mono h.2.2.size))
theorem SU.drew {w : World} {p g : Nat} {a : Addr} {W : World} (h : SU w p g a W) : SU w p g a W.drew := h.below ⟨rfl, rfl, rfl, Nat.le_refl _, fun _ _ => rfl⟩
theorem SU.alloc {w : World} {p g : Nat} {a : Addr} {W : World} (h : SU w p g a W) (o : Obj) : SU w p g a (W.alloc o) := h.below (below_alloc _ _)

theorem hts_lay {w : World} {n : Nat} (l : List HitP) (hl : ∀ h ∈ l, I64 h.1 ∧ I64 h.2) (h : w.heap.size = n) : Hts (w.alloc (.cells (hcells l).toArray 43)) (some ⟨n, 0, none⟩) l.length l := by
  refine ⟨⟨hcells_length l, .inr ⟨n, 0, rfl, by simp [h], fun i u hu => ?_⟩⟩, hl⟩
  have := cells_new (w := w) (hcells l).toArray 43 h i u (by simpa using hu)
  rwa [add_plain] at this
theorem SU.ctx {w : World} {p g : Nat} {a : Addr} {W : World} (h : SU w p g a W) : UCtx p g a W := h.2.1
section
variable {w : World} {p g : Nat} {a : Addr} {W : World}
def stB (e k : Int) : Bool := mayP false heW 10 && standsH false heW 10 usherT (e, k)
theorem st_U (h : SU w p g a W) (tb : Option Addr) (hT : Bys W tb 5 usherT) (e k : Int) (he : I64 e ∧ I64 k) :
    Calls Try.prog 31 #[.agg #[.bool false, .slice (some a) 3 3], .int .i64 10, .slice tb 5 5, .agg #[.int .i64 e, .int .i64 k]] W fun e' w' => e' = .returned (.bool (stB e k)) ∧ SU w p g a w' :=
  (stands_any false (some a) tb 3 3 5 5 10 usherT (e, k) heW W h.2.1.wds hT (by decide) (by decide) (by decide) he_len he_beg he).mono fun _ _ ⟨h1, h2⟩ => ⟨h1, h.below h2⟩
theorem ls_U (h : SU w p g a W) (x1 x2 y1 y2 : Int) :
    Calls Try.prog 33 #[.agg #[.bool false, .slice (some a) 3 3], .agg #[.int .i64 x1, .int .i64 x2], .agg #[.int .i64 y1, .int .i64 y2]] W fun e' w' => e' = .returned (.bool (lessH heW (x1, x2) (y1, y2))) ∧ SU w p g a w' :=
  (less_any false (some a) 3 3 (x1, x2) (y1, y2) heW W h.2.1.wds (by decide)).mono fun _ _ ⟨h1, h2⟩ => ⟨h1, h.below h2⟩
theorem ri_U1 (h : SU w p g a W) (c : Nat) :
    Calls Try.prog 35 #[.agg #[.bool false, .slice (some a) 3 3], .slice (some ⟨g, 0, none⟩) 3 c] W fun e' w' => e' = .returned (.bool true) ∧ SU w p g a w' :=
  (orise_any false (some a) _ 3 3 3 c usherH heW W h.2.1.wds h.2.1.hts (by decide) (by decide)).mono fun _ _ ⟨h1, h2⟩ => ⟨by rw [h1, he_ri1], h.below h2⟩
theorem ri_U2 (h : SU w p g a W) (b : Option Addr) (hb : Hts W b 2 [(14, 1), (14, 1)]) :
    Calls Try.prog 35 #[.agg #[.bool false, .slice (some a) 3 3], .slice b 2 2] W fun e' w' => e' = .returned (.bool false) ∧ SU w p g a w' :=
  (orise_any false (some a) b 3 3 2 2 [(14, 1), (14, 1)] heW W h.2.1.wds hb (by decide) (by decide)).mono fun _ _ ⟨h1, h2⟩ => ⟨by rw [h1, he_ri2], h.below h2⟩
theorem bt_U (h : SU w p g a W) (c : Nat) :
    Calls Try.prog 37 #[.int .i64 14, .int .i64 15, .slice (some ⟨g, 0, none⟩) 3 c] W fun e' w' => ∃ b d, e' = .returned (.slice b 1 d) ∧ Hts w' b 1 [(15, 2)] ∧ SU w p g a w' :=
  (between_h 14 15 _ 3 c usherH W h.2.1.hts (by decide)).mono fun _ _ ⟨v, h1, h2, h3⟩ => by
    rw [he_bt] at h2
    obtain ⟨b, d, e, _, h4⟩ := h2.hts (by unfold I64; decide)
    exact ⟨b, d, by rw [h1, e]; rfl, h4, h.below h3⟩
theorem sm_U (h : SU w p g a W) (b d : Option Addr) (lb cb ld cd : Nat) (l m : List HitP) (hb : Hts W b lb l) (hd : Hts W d ld m) (hl : lb ≤ 100) :
    Calls Try.prog 40 #[.slice b lb cb, .slice d ld cd] W fun e' w' => e' = .returned (.bool (decide (l = m))) ∧ SU w p g a w' :=
  (osame_any b d lb cb ld cd l m W hb hd (by omega)).mono fun _ _ ⟨h1, h2⟩ => ⟨h1, h.below h2⟩
theorem jn_U (h : SU w p g a W) (b : Option Addr) (hb : Hss W b 3 [[(14, 1)], [], [(14, 0), (15, 2)]]) :
    Calls Try.prog 39 #[.slice b 3 3] W fun e' w' => ∃ b' d, e' = .returned (.slice b' 3 d) ∧ Hts w' b' 3 usherH ∧ SU w p g a w' :=
  (join_h b 3 3 _ W hb (by decide) (by decide)).mono fun _ _ ⟨v, h1, h2, h3⟩ => by
    obtain ⟨b', d, e, _, h4⟩ := OwnH.hts (l := usherH) h2 (by unfold usherH I64; decide)
    exact ⟨b', d, by rw [h1, e]; rfl, h4, h.below h3⟩
theorem jn_laid (h : SU w p g a W) (c : Nat) (t : TypeId) : Hss (W.alloc (.cells #[.slice (some ⟨g, 0, none⟩) 1 c, .slice none 0 0, .slice (some ⟨g, 2, none⟩) 2 (c - 1)] t)) (some ⟨W.heap.size, 0, none⟩) 3 [[(14, 1)], [], [(14, 0), (15, 2)]] := by
  have hh := (h.alloc (.cells #[.slice (some ⟨g, 0, none⟩) 1 c, .slice none 0 0, .slice (some ⟨g, 2, none⟩) 2 (c - 1)] t)).2.1.hts
  refine ⟨[(some ⟨g, 0, none⟩, 1, c), (none, 0, 0), (some ⟨g, 2, none⟩, 2, c - 1)], Sl1.lay (α := Option Addr × Nat × Nat) _ W [(some ⟨g, 0, none⟩, 1, c), (none, 0, 0), (some ⟨g, 2, none⟩, 2, c - 1)] t _ rfl, rfl, fun i v l hv hl => ?_⟩
  match i with
  | 0 => simp at hv hl; subst hv hl; exact hh.cut (lo := 0) (m := 1) (by decide)
  | 1 => simp at hv hl; subst hv hl; exact ⟨⟨rfl, .inl rfl⟩, by simp⟩
  | 2 => simp at hv hl; subst hv hl; exact hh.cut (lo := 1) (m := 2) (by decide)
  | n + 3 => simp at hv
end

set_option maxRecDepth 100000 in
set_option maxHeartbeats 4000000 in
theorem wakes6 (w : World) : Calls Try.prog 27 #[] w fun e w' => e = .returned (.bool true) ∧ Below w.heap.size w w' := by
  have kc := conv_lit
  have kd := conv_lit_drew
  go_enter Try.func27, Try.ntmps27
  go_wp2_with fail
  refine (she_any _).mono ?_
  rintro e w1 ⟨a, rfl, hW, hb1⟩
  go_wp2_with fail
  have hB2 : Below w1.heap.size w1 ((w1.alloc (.cells (setV false (some a) 3 3) 39)).alloc (.cells #[.int .u8 117, .int .u8 115, .int .u8 104, .int .u8 101, .int .u8 114] 5 (5, 6))) := (below_alloc _ _).alloc (by simp) _
  refine (occ_yes false (some a) _ 3 3 5 5 10 usherT heW _ (hW.below hB2) (bys_lay usherT (by decide) _ _ (by simp)) (by decide) (by decide) (by decide) he_len he_beg he_may (by rw [he_raw]; exact sortOK_small 3 (by decide))).mono ?_
  rintro e w2 ⟨v, rfl, hown, hb2⟩
  rw [he_occ] at hown
  obtain ⟨g, c, rfl⟩ := ownsRow_succ (k := 2) hown
  obtain ⟨a', c', e, hc3, hts⟩ := hown.hts (by unfold usherH I64; decide)
  injection e with e1 e2 e3
  subst e1 e3
  clear e2
  have hlt1 := hb2.size
  simp only [World.size_alloc] at hlt1
  have n2 : w2.heap[w1.heap.size]? = some (.cells (setV false (some a) 3 3) 39 (0, 0)) := (hb2.block _ (by simp; omega)).trans ((Below.heap_alloc _ _ _ (by simp)).trans (World.alloc_heap_new _ _))
  have x2 : UCtx w1.heap.size g a w2 := ⟨by omega, by simp [World.cell?, n2], by simp [World.cell?, n2], (hW.below hB2).below hb2, hts⟩
  have hBw2 : Below w.heap.size w w2 := hb1.trans ((hB2.trans (hb2.mono (by simp; omega))).mono hb1.size)
  obtain ⟨p, hp⟩ : ∃ p, w1.heap.size = p := ⟨_, rfl⟩
  rw [hp] at x2 ⊢
  clear hp hW hB2 hb2 hown hts n2 hlt1 hb1
  obtain ⟨h0, h1, h2, h3, h4, h5⟩ := x2.cells
  have hc3n : 3 ≤ c := hc3
  clear hc3
  go_wp2_with fail
  refine (occ_no false none none 0 0 0 0 0 [] [] _ ⟨[], ⟨rfl, .inl rfl⟩, rfl, fun i v xs h => by simp at h⟩ (by decide) (by simp) (by decide) he_none).mono ?_
  rintro e w3 ⟨rfl, hb3⟩
  clear h0 h1 h2 h3 h4 h5
  have x3 := x2.below hb3
  have hBw3 : Below w.heap.size w w3 := hBw2.trans (hb3.mono hBw2.size)
  have hS3 : SU w p g a w3 := SU.of x3 hBw3
  clear x2 x3 hBw2 hBw3 hb3
  have q1 := he_st1
  have q2 := he_st2
  have q3 := he_ls1
  have q4 := he_ls2
  have q5 := he_ri1
  have q6 := he_ri2
  obtain ⟨k0, k1, k2, k3, k4, k5, k6, k7⟩ := hS3.1
  have heq := eql_hit
  have r1 : stB 15 2 = true := he_st1
  have r2 : stB 15 0 = false := he_st2
  have r3 := he_ls1
  have r4 := he_ls2
  have hn2 : ¬ c = 2 := by omega
  have hn1 : ¬ c = 1 := by omega
  clear q1 q2 q3 q4 q5 q6
  go_wp2
  clear heq k0 k1 k2 k3 k4 k5 k6 k7
  simp only [List.append_eq, List.cons_append, List.nil_append]
  refine wp_region_noPanic ?_
  refine wp_region_held_drew (S := SU w p g a) (by kernel_rfl) ?_ (fun hHeld => ?_)
  · (first | assumption | (refine SU.drew (w := w) (p := p) (g := g) (a := a) ?_; assumption) | (refine SU.alloc (w := w) (p := p) (g := g) (a := a) ?_ _; assumption) | (refine SU.drew (w := w) (p := p) (g := g) (a := a) (SU.alloc ?_ _); assumption))
  refine wpAnyH_take (i := 0) (v := ?_) (by simp only [List.getElem?_toArray, List.getElem?_cons_zero, List.getElem?_cons_succ]; rfl) (by kernel_rfl) (by kernel_rfl) (by kernel_rfl) (fun _ _ _ h => h) (Or.inl ⟨by rfl, ?_⟩) (by assumption) ?_
  rotate_left
  · intro V hV
    obtain ⟨k0, k1, k2, k3, k4, k5, k6, k7⟩ := hV.1
    first | (go_simp; done) | (go_simp; with_reducible rfl)
  try simp only [Act.put, List.setIfInBounds_toArray, List.set_cons_zero, List.set_cons_succ]
  refine wpAnyH_take (i := 1) (v := ?_) (by simp only [List.getElem?_toArray, List.getElem?_cons_zero, List.getElem?_cons_succ]; rfl) (by kernel_rfl) (by kernel_rfl) (by kernel_rfl) (fun _ _ _ h => h) (Or.inl ⟨by rfl, ?_⟩) (by assumption) ?_
  rotate_left
  · intro V hV
    obtain ⟨k0, k1, k2, k3, k4, k5, k6, k7⟩ := hV.1
    first | (go_simp; done) | (go_simp; with_reducible rfl)
  try simp only [Act.put, List.setIfInBounds_toArray, List.set_cons_zero, List.set_cons_succ]
  refine wpAnyH_take (i := 2) (v := ?_) (by simp only [List.getElem?_toArray, List.getElem?_cons_zero, List.getElem?_cons_succ]; rfl) (by kernel_rfl) (by kernel_rfl) (by kernel_rfl) (fun _ _ _ h => h) (Or.inl ⟨by rfl, ?_⟩) (by assumption) ?_
  rotate_left
  · intro V hV
    obtain ⟨k0, k1, k2, k3, k4, k5, k6, k7⟩ := hV.1
    first | (go_simp; done) | (go_simp; with_reducible rfl)
  try simp only [Act.put, List.setIfInBounds_toArray, List.set_cons_zero, List.set_cons_succ]
  refine wpAnyH_take (i := 5) (v := ?_) (by simp only [List.getElem?_toArray, List.getElem?_cons_zero, List.getElem?_cons_succ]; rfl) (by kernel_rfl) (by kernel_rfl) (by kernel_rfl) (fun _ _ _ h => h) (Or.inl ⟨by rfl, ?_⟩) (by assumption) ?_
  rotate_left
  · intro V hV
    obtain ⟨k0, k1, k2, k3, k4, k5, k6, k7⟩ := hV.1
    first | (go_simp; done) | (go_simp; with_reducible rfl)
  try simp only [Act.put, List.setIfInBounds_toArray, List.set_cons_zero, List.set_cons_succ]
  refine wpAnyH_take (i := 6) (v := ?_) (by simp only [List.getElem?_toArray, List.getElem?_cons_zero, List.getElem?_cons_succ]; rfl) (by kernel_rfl) (by kernel_rfl) (by kernel_rfl) (fun _ _ _ h => h) (Or.inl ⟨by rfl, ?_⟩) (by assumption) ?_
  rotate_left
  · intro V hV
    obtain ⟨k0, k1, k2, k3, k4, k5, k6, k7⟩ := hV.1
    first | (go_simp; done) | (go_simp; with_reducible rfl)
  try simp only [Act.put, List.setIfInBounds_toArray, List.set_cons_zero, List.set_cons_succ]
  refine wpAnyH_take (i := 7) (v := ?_) (by simp only [List.getElem?_toArray, List.getElem?_cons_zero, List.getElem?_cons_succ]; rfl) (by kernel_rfl) (by kernel_rfl) (by kernel_rfl) (fun _ _ _ h => h) (Or.inl ⟨by rfl, ?_⟩) (by assumption) ?_
  rotate_left
  · intro V hV
    obtain ⟨k0, k1, k2, k3, k4, k5, k6, k7⟩ := hV.1
    first | (go_simp; done) | (go_simp; with_reducible rfl)
  try simp only [Act.put, List.setIfInBounds_toArray, List.set_cons_zero, List.set_cons_succ]
  refine wpAnyH_ready (rs := [3]) (by kernel_rfl) (by simp) ?_
  refine AllReadyH.cons (by simp only [List.getElem?_toArray, List.getElem?_cons_zero, List.getElem?_cons_succ]; rfl) (fun K hK => ?_) AllReadyH.nil
  have hOld := hHeld
  go_simp
  refine hK.out _ _ ?_ (fun hNew => ?_)
  · (first | assumption | (refine SU.drew (w := w) (p := p) (g := g) (a := a) ?_; assumption) | (refine SU.alloc (w := w) (p := p) (g := g) (a := a) ?_ _; assumption) | (refine SU.drew (w := w) (p := p) (g := g) (a := a) (SU.alloc ?_ _); assumption))
  clear hK K hHeld hOld
  have hHeld := hNew
  clear hNew
  try simp only [Act.put, List.setIfInBounds_toArray, List.set_cons_zero, List.set_cons_succ]
  refine wpAnyH_ready (rs := [4]) (by kernel_rfl) (by simp) ?_
  refine AllReadyH.cons (by simp only [List.getElem?_toArray, List.getElem?_cons_zero, List.getElem?_cons_succ]; rfl) (fun K hK => ?_) AllReadyH.nil
  have hOld := hHeld
  go_simp
  refine hK.out _ _ ?_ (fun hNew => ?_)
  · (first | assumption | (refine SU.drew (w := w) (p := p) (g := g) (a := a) ?_; assumption) | (refine SU.alloc (w := w) (p := p) (g := g) (a := a) ?_ _; assumption) | (refine SU.drew (w := w) (p := p) (g := g) (a := a) (SU.alloc ?_ _); assumption))
  clear hK K hHeld hOld
  have hHeld := hNew
  clear hNew
  try simp only [Act.put, List.setIfInBounds_toArray, List.set_cons_zero, List.set_cons_succ]
  refine wpAnyH_ready (rs := [8]) (by kernel_rfl) (by simp) ?_
  refine AllReadyH.cons (by simp only [List.getElem?_toArray, List.getElem?_cons_zero, List.getElem?_cons_succ]; rfl) (fun K hK => ?_) AllReadyH.nil
  have hOld := hHeld
  go_simp
  go_at_call 31; (with_reducible refine (st_U (w := w) (p := p) (g := g) ?_ _ ?_ _ _ ?_).mono ?_); (assumption); (first | exact bys_lay usherT (by decide) _ _ rfl | exact Bys.below (bys_lay usherT (by decide) _ _ rfl) (below_drew _)); (unfold I64; decide); rintro e w' ⟨rfl, hS⟩
  refine hK.out _ _ ?_ (fun hNew => ?_)
  · (first | assumption | (refine SU.drew (w := w) (p := p) (g := g) (a := a) ?_; assumption) | (refine SU.alloc (w := w) (p := p) (g := g) (a := a) ?_ _; assumption) | (refine SU.drew (w := w) (p := p) (g := g) (a := a) (SU.alloc ?_ _); assumption))
  clear hK K hHeld hOld
  have hHeld := hNew
  clear hNew
  try simp only [Act.put, List.setIfInBounds_toArray, List.set_cons_zero, List.set_cons_succ]
  refine wpAnyH_take (i := 9) (v := ?_) (by simp only [List.getElem?_toArray, List.getElem?_cons_zero, List.getElem?_cons_succ]; rfl) (by kernel_rfl) (by kernel_rfl) (by kernel_rfl) (fun _ _ _ h => h) (Or.inl ⟨by rfl, ?_⟩) (by assumption) ?_
  rotate_left
  · intro V hV
    obtain ⟨k0, k1, k2, k3, k4, k5, k6, k7⟩ := hV.1
    first | (go_simp; done) | (go_simp; with_reducible rfl)
  try simp only [Act.put, List.setIfInBounds_toArray, List.set_cons_zero, List.set_cons_succ]
  refine wpAnyH_take (i := 10) (v := ?_) (by simp only [List.getElem?_toArray, List.getElem?_cons_zero, List.getElem?_cons_succ]; rfl) (by kernel_rfl) (by kernel_rfl) (by kernel_rfl) (fun _ _ _ h => h) (Or.inl ⟨by rfl, ?_⟩) (by assumption) ?_
  rotate_left
  · intro V hV
    obtain ⟨k0, k1, k2, k3, k4, k5, k6, k7⟩ := hV.1
    first | (go_simp; done) | (go_simp; with_reducible rfl)
  try simp only [Act.put, List.setIfInBounds_toArray, List.set_cons_zero, List.set_cons_succ]
  refine wpAnyH_take (i := 11) (v := ?_) (by simp only [List.getElem?_toArray, List.getElem?_cons_zero, List.getElem?_cons_succ]; rfl) (by kernel_rfl) (by kernel_rfl) (by kernel_rfl) (fun _ _ _ h => h) (Or.inl ⟨by rfl, ?_⟩) (by assumption) ?_
  rotate_left
  · intro V hV
    obtain ⟨k0, k1, k2, k3, k4, k5, k6, k7⟩ := hV.1
    first | (go_simp; done) | (go_simp; with_reducible rfl)
  try simp only [Act.put, List.setIfInBounds_toArray, List.set_cons_zero, List.set_cons_succ]
  refine wpAnyH_take (i := 14) (v := ?_) (by simp only [List.getElem?_toArray, List.getElem?_cons_zero, List.getElem?_cons_succ]; rfl) (by kernel_rfl) (by kernel_rfl) (by kernel_rfl) (fun _ _ _ h => h) (Or.inl ⟨by rfl, ?_⟩) (by assumption) ?_
  rotate_left
  · intro V hV
    obtain ⟨k0, k1, k2, k3, k4, k5, k6, k7⟩ := hV.1
    first | (go_simp; done) | (go_simp; with_reducible rfl)
  try simp only [Act.put, List.setIfInBounds_toArray, List.set_cons_zero, List.set_cons_succ]
  refine wpAnyH_ready (rs := [12]) (by kernel_rfl) (by simp) ?_
  refine AllReadyH.cons (by simp only [List.getElem?_toArray, List.getElem?_cons_zero, List.getElem?_cons_succ]; rfl) (fun K hK => ?_) AllReadyH.nil
  have hOld := hHeld
  go_simp
  refine hK.out _ _ ?_ (fun hNew => ?_)
  · (first | assumption | (refine SU.drew (w := w) (p := p) (g := g) (a := a) ?_; assumption) | (refine SU.alloc (w := w) (p := p) (g := g) (a := a) ?_ _; assumption) | (refine SU.drew (w := w) (p := p) (g := g) (a := a) (SU.alloc ?_ _); assumption))
  clear hK K hHeld hOld
  have hHeld := hNew
  clear hNew
  try simp only [Act.put, List.setIfInBounds_toArray, List.set_cons_zero, List.set_cons_succ]
  refine wpAnyH_ready (rs := [13]) (by kernel_rfl) (by simp) ?_
  refine AllReadyH.cons (by simp only [List.getElem?_toArray, List.getElem?_cons_zero, List.getElem?_cons_succ]; rfl) (fun K hK => ?_) AllReadyH.nil
  have hOld := hHeld
  go_simp
  refine hK.out _ _ ?_ (fun hNew => ?_)
  · (first | assumption | (refine SU.drew (w := w) (p := p) (g := g) (a := a) ?_; assumption) | (refine SU.alloc (w := w) (p := p) (g := g) (a := a) ?_ _; assumption) | (refine SU.drew (w := w) (p := p) (g := g) (a := a) (SU.alloc ?_ _); assumption))
  clear hK K hHeld hOld
  have hHeld := hNew
  clear hNew
  try simp only [Act.put, List.setIfInBounds_toArray, List.set_cons_zero, List.set_cons_succ]
  refine wpAnyH_ready (rs := [15]) (by kernel_rfl) (by simp) ?_
  refine AllReadyH.cons (by simp only [List.getElem?_toArray, List.getElem?_cons_zero, List.getElem?_cons_succ]; rfl) (fun K hK => ?_) AllReadyH.nil
  have hOld := hHeld
  go_simp
  go_at_call 31; (with_reducible refine (st_U (w := w) (p := p) (g := g) ?_ _ ?_ _ _ ?_).mono ?_); (assumption); (first | exact bys_lay usherT (by decide) _ _ rfl | exact Bys.below (bys_lay usherT (by decide) _ _ rfl) (below_drew _)); (unfold I64; decide); rintro e w' ⟨rfl, hS⟩
  refine hK.out _ _ ?_ (fun hNew => ?_)
  · (first | assumption | (refine SU.drew (w := w) (p := p) (g := g) (a := a) ?_; assumption) | (refine SU.alloc (w := w) (p := p) (g := g) (a := a) ?_ _; assumption) | (refine SU.drew (w := w) (p := p) (g := g) (a := a) (SU.alloc ?_ _); assumption))
  clear hK K hHeld hOld
  have hHeld := hNew
  clear hNew
  try simp only [Act.put, List.setIfInBounds_toArray, List.set_cons_zero, List.set_cons_succ]
  refine wpAnyH_take (i := 16) (v := ?_) (by simp only [List.getElem?_toArray, List.getElem?_cons_zero, List.getElem?_cons_succ]; rfl) (by kernel_rfl) (by kernel_rfl) (by kernel_rfl) (fun _ _ _ h => h) (Or.inl ⟨by rfl, ?_⟩) (by assumption) ?_
  rotate_left
  · intro V hV
    obtain ⟨k0, k1, k2, k3, k4, k5, k6, k7⟩ := hV.1
    first | (go_simp; done) | (go_simp; with_reducible rfl)
  try simp only [Act.put, List.setIfInBounds_toArray, List.set_cons_zero, List.set_cons_succ]
  refine wpAnyH_take (i := 17) (v := ?_) (by simp only [List.getElem?_toArray, List.getElem?_cons_zero, List.getElem?_cons_succ]; rfl) (by kernel_rfl) (by kernel_rfl) (by kernel_rfl) (fun _ _ _ h => h) (Or.inl ⟨by rfl, ?_⟩) (by assumption) ?_
  rotate_left
  · intro V hV
    obtain ⟨k0, k1, k2, k3, k4, k5, k6, k7⟩ := hV.1
    first | (go_simp; done) | (go_simp; with_reducible rfl)
  try simp only [Act.put, List.setIfInBounds_toArray, List.set_cons_zero, List.set_cons_succ]
  refine wpAnyH_take (i := 18) (v := ?_) (by simp only [List.getElem?_toArray, List.getElem?_cons_zero, List.getElem?_cons_succ]; rfl) (by kernel_rfl) (by kernel_rfl) (by kernel_rfl) (fun _ _ _ h => h) (Or.inl ⟨by rfl, ?_⟩) (by assumption) ?_
  rotate_left
  · intro V hV
    obtain ⟨k0, k1, k2, k3, k4, k5, k6, k7⟩ := hV.1
    first | (go_simp; done) | (go_simp; with_reducible rfl)
  try simp only [Act.put, List.setIfInBounds_toArray, List.set_cons_zero, List.set_cons_succ]
  refine wpAnyH_take (i := 19) (v := ?_) (by simp only [List.getElem?_toArray, List.getElem?_cons_zero, List.getElem?_cons_succ]; rfl) (by kernel_rfl) (by kernel_rfl) (by kernel_rfl) (fun _ _ _ h => h) (Or.inl ⟨by rfl, ?_⟩) (by assumption) ?_
  rotate_left
  · intro V hV
    obtain ⟨k0, k1, k2, k3, k4, k5, k6, k7⟩ := hV.1
    first | (go_simp; done) | (go_simp; with_reducible rfl)
  try simp only [Act.put, List.setIfInBounds_toArray, List.set_cons_zero, List.set_cons_succ]
  refine wpAnyH_take (i := 20) (v := ?_) (by simp only [List.getElem?_toArray, List.getElem?_cons_zero, List.getElem?_cons_succ]; rfl) (by kernel_rfl) (by kernel_rfl) (by kernel_rfl) (fun _ _ _ h => h) (Or.inl ⟨by rfl, ?_⟩) (by assumption) ?_
  rotate_left
  · intro V hV
    obtain ⟨k0, k1, k2, k3, k4, k5, k6, k7⟩ := hV.1
    first | (go_simp; done) | (go_simp; with_reducible rfl)
  try simp only [Act.put, List.setIfInBounds_toArray, List.set_cons_zero, List.set_cons_succ]
  refine wpAnyH_take (i := 21) (v := ?_) (by simp only [List.getElem?_toArray, List.getElem?_cons_zero, List.getElem?_cons_succ]; rfl) (by kernel_rfl) (by kernel_rfl) (by kernel_rfl) (fun _ _ _ h => h) (Or.inl ⟨by rfl, ?_⟩) (by assumption) ?_
  rotate_left
  · intro V hV
    obtain ⟨k0, k1, k2, k3, k4, k5, k6, k7⟩ := hV.1
    first | (go_simp; done) | (go_simp; with_reducible rfl)
  try simp only [Act.put, List.setIfInBounds_toArray, List.set_cons_zero, List.set_cons_succ]
  refine wpAnyH_take (i := 22) (v := ?_) (by simp only [List.getElem?_toArray, List.getElem?_cons_zero, List.getElem?_cons_succ]; rfl) (by kernel_rfl) (by kernel_rfl) (by kernel_rfl) (fun _ _ _ h => h) (Or.inl ⟨by rfl, ?_⟩) (by assumption) ?_
  rotate_left
  · intro V hV
    obtain ⟨k0, k1, k2, k3, k4, k5, k6, k7⟩ := hV.1
    first | (go_simp; done) | (go_simp; with_reducible rfl)
  try simp only [Act.put, List.setIfInBounds_toArray, List.set_cons_zero, List.set_cons_succ]
  refine wpAnyH_take (i := 23) (v := ?_) (by simp only [List.getElem?_toArray, List.getElem?_cons_zero, List.getElem?_cons_succ]; rfl) (by kernel_rfl) (by kernel_rfl) (by kernel_rfl) (fun _ _ _ h => h) (Or.inl ⟨by rfl, ?_⟩) (by assumption) ?_
  rotate_left
  · intro V hV
    obtain ⟨k0, k1, k2, k3, k4, k5, k6, k7⟩ := hV.1
    first | (go_simp; done) | (go_simp; with_reducible rfl)
  try simp only [Act.put, List.setIfInBounds_toArray, List.set_cons_zero, List.set_cons_succ]
  refine wpAnyH_take (i := 24) (v := ?_) (by simp only [List.getElem?_toArray, List.getElem?_cons_zero, List.getElem?_cons_succ]; rfl) (by kernel_rfl) (by kernel_rfl) (by kernel_rfl) (fun _ _ _ h => h) (Or.inl ⟨by rfl, ?_⟩) (by assumption) ?_
  rotate_left
  · intro V hV
    obtain ⟨k0, k1, k2, k3, k4, k5, k6, k7⟩ := hV.1
    first | (go_simp; done) | (go_simp; with_reducible rfl)
  try simp only [Act.put, List.setIfInBounds_toArray, List.set_cons_zero, List.set_cons_succ]
  refine wpAnyH_take (i := 25) (v := ?_) (by simp only [List.getElem?_toArray, List.getElem?_cons_zero, List.getElem?_cons_succ]; rfl) (by kernel_rfl) (by kernel_rfl) (by kernel_rfl) (fun _ _ _ h => h) (Or.inl ⟨by rfl, ?_⟩) (by assumption) ?_
  rotate_left
  · intro V hV
    obtain ⟨k0, k1, k2, k3, k4, k5, k6, k7⟩ := hV.1
    first | (go_simp; done) | (go_simp; with_reducible rfl)
  try simp only [Act.put, List.setIfInBounds_toArray, List.set_cons_zero, List.set_cons_succ]
  refine wpAnyH_ready (rs := [26]) (by kernel_rfl) (by simp) ?_
  refine AllReadyH.cons (by simp only [List.getElem?_toArray, List.getElem?_cons_zero, List.getElem?_cons_succ]; rfl) (fun K hK => ?_) AllReadyH.nil
  have hOld := hHeld
  go_simp
  go_at_call 33; (with_reducible refine (ls_U (w := w) (p := p) (g := g) ?_ _ _ _ _).mono ?_); (assumption); rintro e w' ⟨rfl, hS⟩
  refine hK.out _ _ ?_ (fun hNew => ?_)
  · (first | assumption | (refine SU.drew (w := w) (p := p) (g := g) (a := a) ?_; assumption) | (refine SU.alloc (w := w) (p := p) (g := g) (a := a) ?_ _; assumption) | (refine SU.drew (w := w) (p := p) (g := g) (a := a) (SU.alloc ?_ _); assumption))
  clear hK K hHeld hOld
  have hHeld := hNew
  clear hNew
  try simp only [Act.put, List.setIfInBounds_toArray, List.set_cons_zero, List.set_cons_succ]
  refine wpAnyH_take (i := 27) (v := ?_) (by simp only [List.getElem?_toArray, List.getElem?_cons_zero, List.getElem?_cons_succ]; rfl) (by kernel_rfl) (by kernel_rfl) (by kernel_rfl) (fun _ _ _ h => h) (Or.inl ⟨by rfl, ?_⟩) (by assumption) ?_
  rotate_left
  · intro V hV
    obtain ⟨k0, k1, k2, k3, k4, k5, k6, k7⟩ := hV.1
    first | (go_simp; done) | (go_simp; with_reducible rfl)
  try simp only [Act.put, List.setIfInBounds_toArray, List.set_cons_zero, List.set_cons_succ]
  refine wpAnyH_take (i := 28) (v := ?_) (by simp only [List.getElem?_toArray, List.getElem?_cons_zero, List.getElem?_cons_succ]; rfl) (by kernel_rfl) (by kernel_rfl) (by kernel_rfl) (fun _ _ _ h => h) (Or.inl ⟨by rfl, ?_⟩) (by assumption) ?_
  rotate_left
  · intro V hV
    obtain ⟨k0, k1, k2, k3, k4, k5, k6, k7⟩ := hV.1
    first | (go_simp; done) | (go_simp; with_reducible rfl)
  try simp only [Act.put, List.setIfInBounds_toArray, List.set_cons_zero, List.set_cons_succ]
  refine wpAnyH_take (i := 29) (v := ?_) (by simp only [List.getElem?_toArray, List.getElem?_cons_zero, List.getElem?_cons_succ]; rfl) (by kernel_rfl) (by kernel_rfl) (by kernel_rfl) (fun _ _ _ h => h) (Or.inl ⟨by rfl, ?_⟩) (by assumption) ?_
  rotate_left
  · intro V hV
    obtain ⟨k0, k1, k2, k3, k4, k5, k6, k7⟩ := hV.1
    first | (go_simp; done) | (go_simp; with_reducible rfl)
  try simp only [Act.put, List.setIfInBounds_toArray, List.set_cons_zero, List.set_cons_succ]
  refine wpAnyH_take (i := 30) (v := ?_) (by simp only [List.getElem?_toArray, List.getElem?_cons_zero, List.getElem?_cons_succ]; rfl) (by kernel_rfl) (by kernel_rfl) (by kernel_rfl) (fun _ _ _ h => h) (Or.inl ⟨by rfl, ?_⟩) (by assumption) ?_
  rotate_left
  · intro V hV
    obtain ⟨k0, k1, k2, k3, k4, k5, k6, k7⟩ := hV.1
    first | (go_simp; done) | (go_simp; with_reducible rfl)
  try simp only [Act.put, List.setIfInBounds_toArray, List.set_cons_zero, List.set_cons_succ]
  refine wpAnyH_take (i := 31) (v := ?_) (by simp only [List.getElem?_toArray, List.getElem?_cons_zero, List.getElem?_cons_succ]; rfl) (by kernel_rfl) (by kernel_rfl) (by kernel_rfl) (fun _ _ _ h => h) (Or.inl ⟨by rfl, ?_⟩) (by assumption) ?_
  rotate_left
  · intro V hV
    obtain ⟨k0, k1, k2, k3, k4, k5, k6, k7⟩ := hV.1
    first | (go_simp; done) | (go_simp; with_reducible rfl)
  try simp only [Act.put, List.setIfInBounds_toArray, List.set_cons_zero, List.set_cons_succ]
  refine wpAnyH_take (i := 32) (v := ?_) (by simp only [List.getElem?_toArray, List.getElem?_cons_zero, List.getElem?_cons_succ]; rfl) (by kernel_rfl) (by kernel_rfl) (by kernel_rfl) (fun _ _ _ h => h) (Or.inl ⟨by rfl, ?_⟩) (by assumption) ?_
  rotate_left
  · intro V hV
    obtain ⟨k0, k1, k2, k3, k4, k5, k6, k7⟩ := hV.1
    first | (go_simp; done) | (go_simp; with_reducible rfl)
  try simp only [Act.put, List.setIfInBounds_toArray, List.set_cons_zero, List.set_cons_succ]
  refine wpAnyH_take (i := 33) (v := ?_) (by simp only [List.getElem?_toArray, List.getElem?_cons_zero, List.getElem?_cons_succ]; rfl) (by kernel_rfl) (by kernel_rfl) (by kernel_rfl) (fun _ _ _ h => h) (Or.inl ⟨by rfl, ?_⟩) (by assumption) ?_
  rotate_left
  · intro V hV
    obtain ⟨k0, k1, k2, k3, k4, k5, k6, k7⟩ := hV.1
    first | (go_simp; done) | (go_simp; with_reducible rfl)
  try simp only [Act.put, List.setIfInBounds_toArray, List.set_cons_zero, List.set_cons_succ]
  refine wpAnyH_take (i := 34) (v := ?_) (by simp only [List.getElem?_toArray, List.getElem?_cons_zero, List.getElem?_cons_succ]; rfl) (by kernel_rfl) (by kernel_rfl) (by kernel_rfl) (fun _ _ _ h => h) (Or.inl ⟨by rfl, ?_⟩) (by assumption) ?_
  rotate_left
  · intro V hV
    obtain ⟨k0, k1, k2, k3, k4, k5, k6, k7⟩ := hV.1
    first | (go_simp; done) | (go_simp; with_reducible rfl)
  try simp only [Act.put, List.setIfInBounds_toArray, List.set_cons_zero, List.set_cons_succ]
  refine wpAnyH_take (i := 35) (v := ?_) (by simp only [List.getElem?_toArray, List.getElem?_cons_zero, List.getElem?_cons_succ]; rfl) (by kernel_rfl) (by kernel_rfl) (by kernel_rfl) (fun _ _ _ h => h) (Or.inl ⟨by rfl, ?_⟩) (by assumption) ?_
  rotate_left
  · intro V hV
    obtain ⟨k0, k1, k2, k3, k4, k5, k6, k7⟩ := hV.1
    first | (go_simp; done) | (go_simp; with_reducible rfl)
  try simp only [Act.put, List.setIfInBounds_toArray, List.set_cons_zero, List.set_cons_succ]
  refine wpAnyH_ready (rs := [36]) (by kernel_rfl) (by simp) ?_
  refine AllReadyH.cons (by simp only [List.getElem?_toArray, List.getElem?_cons_zero, List.getElem?_cons_succ]; rfl) (fun K hK => ?_) AllReadyH.nil
  have hOld := hHeld
  go_simp
  go_at_call 33; (with_reducible refine (ls_U (w := w) (p := p) (g := g) ?_ _ _ _ _).mono ?_); (assumption); rintro e w' ⟨rfl, hS⟩
  refine hK.out _ _ ?_ (fun hNew => ?_)
  · (first | assumption | (refine SU.drew (w := w) (p := p) (g := g) (a := a) ?_; assumption) | (refine SU.alloc (w := w) (p := p) (g := g) (a := a) ?_ _; assumption) | (refine SU.drew (w := w) (p := p) (g := g) (a := a) (SU.alloc ?_ _); assumption))
  clear hK K hHeld hOld
  have hHeld := hNew
  clear hNew
  try simp only [Act.put, List.setIfInBounds_toArray, List.set_cons_zero, List.set_cons_succ]
  refine wpAnyH_take (i := 37) (v := ?_) (by simp only [List.getElem?_toArray, List.getElem?_cons_zero, List.getElem?_cons_succ]; rfl) (by kernel_rfl) (by kernel_rfl) (by kernel_rfl) (fun _ _ _ h => h) (Or.inl ⟨by rfl, ?_⟩) (by assumption) ?_
  rotate_left
  · intro V hV
    obtain ⟨k0, k1, k2, k3, k4, k5, k6, k7⟩ := hV.1
    first | (go_simp; done) | (go_simp; with_reducible rfl)
  try simp only [Act.put, List.setIfInBounds_toArray, List.set_cons_zero, List.set_cons_succ]
  refine wpAnyH_take (i := 38) (v := ?_) (by simp only [List.getElem?_toArray, List.getElem?_cons_zero, List.getElem?_cons_succ]; rfl) (by kernel_rfl) (by kernel_rfl) (by kernel_rfl) (fun _ _ _ h => h) (Or.inl ⟨by rfl, ?_⟩) (by assumption) ?_
  rotate_left
  · intro V hV
    obtain ⟨k0, k1, k2, k3, k4, k5, k6, k7⟩ := hV.1
    first | (go_simp; done) | (go_simp; with_reducible rfl)
  try simp only [Act.put, List.setIfInBounds_toArray, List.set_cons_zero, List.set_cons_succ]
  refine wpAnyH_take (i := 39) (v := ?_) (by simp only [List.getElem?_toArray, List.getElem?_cons_zero, List.getElem?_cons_succ]; rfl) (by kernel_rfl) (by kernel_rfl) (by kernel_rfl) (fun _ _ _ h => h) (Or.inl ⟨by rfl, ?_⟩) (by assumption) ?_
  rotate_left
  · intro V hV
    obtain ⟨k0, k1, k2, k3, k4, k5, k6, k7⟩ := hV.1
    first | (go_simp; done) | (go_simp; with_reducible rfl)
  try simp only [Act.put, List.setIfInBounds_toArray, List.set_cons_zero, List.set_cons_succ]
  refine wpAnyH_take (i := 40) (v := ?_) (by simp only [List.getElem?_toArray, List.getElem?_cons_zero, List.getElem?_cons_succ]; rfl) (by kernel_rfl) (by kernel_rfl) (by kernel_rfl) (fun _ _ _ h => h) (Or.inl ⟨by rfl, ?_⟩) (by assumption) ?_
  rotate_left
  · intro V hV
    obtain ⟨k0, k1, k2, k3, k4, k5, k6, k7⟩ := hV.1
    first | (go_simp; done) | (go_simp; with_reducible rfl)
  try simp only [Act.put, List.setIfInBounds_toArray, List.set_cons_zero, List.set_cons_succ]
  refine wpAnyH_take (i := 41) (v := ?_) (by simp only [List.getElem?_toArray, List.getElem?_cons_zero, List.getElem?_cons_succ]; rfl) (by kernel_rfl) (by kernel_rfl) (by kernel_rfl) (fun _ _ _ h => h) (Or.inl ⟨by rfl, ?_⟩) (by assumption) ?_
  rotate_left
  · intro V hV
    obtain ⟨k0, k1, k2, k3, k4, k5, k6, k7⟩ := hV.1
    first | (go_simp; done) | (go_simp; with_reducible rfl)
  try simp only [Act.put, List.setIfInBounds_toArray, List.set_cons_zero, List.set_cons_succ]
  refine wpAnyH_ready (rs := [42]) (by kernel_rfl) (by simp) ?_
  refine AllReadyH.cons (by simp only [List.getElem?_toArray, List.getElem?_cons_zero, List.getElem?_cons_succ]; rfl) (fun K hK => ?_) AllReadyH.nil
  have hOld := hHeld
  go_simp
  go_at_call 35; (with_reducible refine (ri_U1 (w := w) (p := p) (g := g) ?_ _).mono ?_); (assumption); rintro e w' ⟨rfl, hS⟩
  refine hK.out _ _ ?_ (fun hNew => ?_)
  · (first | assumption | (refine SU.drew (w := w) (p := p) (g := g) (a := a) ?_; assumption) | (refine SU.alloc (w := w) (p := p) (g := g) (a := a) ?_ _; assumption) | (refine SU.drew (w := w) (p := p) (g := g) (a := a) (SU.alloc ?_ _); assumption))
  clear hK K hHeld hOld
  have hHeld := hNew
  clear hNew
  try simp only [Act.put, List.setIfInBounds_toArray, List.set_cons_zero, List.set_cons_succ]
  refine wpAnyH_take (i := 43) (v := ?_) (by simp only [List.getElem?_toArray, List.getElem?_cons_zero, List.getElem?_cons_succ]; rfl) (by kernel_rfl) (by kernel_rfl) (by kernel_rfl) (fun _ _ _ h => h) (Or.inl ⟨by rfl, ?_⟩) (by assumption) ?_
  rotate_left
  · intro V hV
    obtain ⟨k0, k1, k2, k3, k4, k5, k6, k7⟩ := hV.1
    first | (go_simp; done) | (go_simp; with_reducible rfl)
  try simp only [Act.put, List.setIfInBounds_toArray, List.set_cons_zero, List.set_cons_succ]
  refine wpAnyH_take (i := 44) (v := ?_) (by simp only [List.getElem?_toArray, List.getElem?_cons_zero, List.getElem?_cons_succ]; rfl) (by kernel_rfl) (by kernel_rfl) (by kernel_rfl) (fun _ _ _ h => h) (Or.inl ⟨by rfl, ?_⟩) (by assumption) ?_
  rotate_left
  · intro V hV
    obtain ⟨k0, k1, k2, k3, k4, k5, k6, k7⟩ := hV.1
    first | (go_simp; done) | (go_simp; with_reducible rfl)
  try simp only [Act.put, List.setIfInBounds_toArray, List.set_cons_zero, List.set_cons_succ]
  refine wpAnyH_take (i := 45) (v := ?_) (by simp only [List.getElem?_toArray, List.getElem?_cons_zero, List.getElem?_cons_succ]; rfl) (by kernel_rfl) (by kernel_rfl) (by kernel_rfl) (fun _ _ _ h => h) (Or.inl ⟨by rfl, ?_⟩) (by assumption) ?_
  rotate_left
  · intro V hV
    obtain ⟨k0, k1, k2, k3, k4, k5, k6, k7⟩ := hV.1
    first | (go_simp; done) | (go_simp; with_reducible rfl)
  try simp only [Act.put, List.setIfInBounds_toArray, List.set_cons_zero, List.set_cons_succ]
  refine wpAnyH_take (i := 46) (v := ?_) (by simp only [List.getElem?_toArray, List.getElem?_cons_zero, List.getElem?_cons_succ]; rfl) (by kernel_rfl) (by kernel_rfl) (by kernel_rfl) (fun _ _ _ h => h) (Or.inl ⟨by rfl, ?_⟩) (by assumption) ?_
  rotate_left
  · intro V hV
    obtain ⟨k0, k1, k2, k3, k4, k5, k6, k7⟩ := hV.1
    first | (go_simp; done) | (go_simp; with_reducible rfl)
  try simp only [Act.put, List.setIfInBounds_toArray, List.set_cons_zero, List.set_cons_succ]
  refine wpAnyH_take (i := 47) (v := ?_) (by simp only [List.getElem?_toArray, List.getElem?_cons_zero, List.getElem?_cons_succ]; rfl) (by kernel_rfl) (by kernel_rfl) (by kernel_rfl) (fun _ _ _ h => h) (Or.inl ⟨by rfl, ?_⟩) (by assumption) ?_
  rotate_left
  · intro V hV
    obtain ⟨k0, k1, k2, k3, k4, k5, k6, k7⟩ := hV.1
    first | (go_simp; done) | (go_simp; with_reducible rfl)
  try simp only [Act.put, List.setIfInBounds_toArray, List.set_cons_zero, List.set_cons_succ]
  refine wpAnyH_take (i := 48) (v := ?_) (by simp only [List.getElem?_toArray, List.getElem?_cons_zero, List.getElem?_cons_succ]; rfl) (by kernel_rfl) (by kernel_rfl) (by kernel_rfl) (fun _ _ _ h => h) (Or.inl ⟨by rfl, ?_⟩) (by assumption) ?_
  rotate_left
  · intro V hV
    obtain ⟨k0, k1, k2, k3, k4, k5, k6, k7⟩ := hV.1
    first | (go_simp; done) | (go_simp; with_reducible rfl)
  try simp only [Act.put, List.setIfInBounds_toArray, List.set_cons_zero, List.set_cons_succ]
  refine wpAnyH_take (i := 49) (v := ?_) (by simp only [List.getElem?_toArray, List.getElem?_cons_zero, List.getElem?_cons_succ]; rfl) (by kernel_rfl) (by kernel_rfl) (by kernel_rfl) (fun _ _ _ h => h) (Or.inl ⟨by rfl, ?_⟩) (by assumption) ?_
  rotate_left
  · intro V hV
    obtain ⟨k0, k1, k2, k3, k4, k5, k6, k7⟩ := hV.1
    first | (go_simp; done) | (go_simp; with_reducible rfl)
  try simp only [Act.put, List.setIfInBounds_toArray, List.set_cons_zero, List.set_cons_succ]
  refine wpAnyH_take (i := 50) (v := ?_) (by simp only [List.getElem?_toArray, List.getElem?_cons_zero, List.getElem?_cons_succ]; rfl) (by kernel_rfl) (by kernel_rfl) (by kernel_rfl) (fun _ _ _ h => h) (Or.inl ⟨by rfl, ?_⟩) (by assumption) ?_
  rotate_left
  · intro V hV
    obtain ⟨k0, k1, k2, k3, k4, k5, k6, k7⟩ := hV.1
    first | (go_simp; done) | (go_simp; with_reducible rfl)
  try simp only [Act.put, List.setIfInBounds_toArray, List.set_cons_zero, List.set_cons_succ]
  refine wpAnyH_take (i := 51) (v := ?_) (by simp only [List.getElem?_toArray, List.getElem?_cons_zero, List.getElem?_cons_succ]; rfl) (by kernel_rfl) (by kernel_rfl) (by kernel_rfl) (fun _ _ _ h => h) (Or.inl ⟨by rfl, ?_⟩) (by assumption) ?_
  rotate_left
  · intro V hV
    obtain ⟨k0, k1, k2, k3, k4, k5, k6, k7⟩ := hV.1
    first | (go_simp; done) | (go_simp; with_reducible rfl)
  try simp only [Act.put, List.setIfInBounds_toArray, List.set_cons_zero, List.set_cons_succ]
  refine wpAnyH_ready (rs := [52]) (by kernel_rfl) (by simp) ?_
  refine AllReadyH.cons (by simp only [List.getElem?_toArray, List.getElem?_cons_zero, List.getElem?_cons_succ]; rfl) (fun K hK => ?_) AllReadyH.nil
  have hOld := hHeld
  go_simp
  refine hK.out _ _ ?_ (fun hNew => ?_)
  · (first | assumption | (refine SU.drew (w := w) (p := p) (g := g) (a := a) ?_; assumption) | (refine SU.alloc (w := w) (p := p) (g := g) (a := a) ?_ _; assumption) | (refine SU.drew (w := w) (p := p) (g := g) (a := a) (SU.alloc ?_ _); assumption))
  clear hK K hHeld hOld
  have hHeld := hNew
  clear hNew
  try simp only [Act.put, List.setIfInBounds_toArray, List.set_cons_zero, List.set_cons_succ]
  refine wpAnyH_ready (rs := [53]) (by kernel_rfl) (by simp) ?_
  refine AllReadyH.cons (by simp only [List.getElem?_toArray, List.getElem?_cons_zero, List.getElem?_cons_succ]; rfl) (fun K hK => ?_) AllReadyH.nil
  have hOld := hHeld
  go_simp
  go_at_call 35; (with_reducible refine (ri_U2 (w := w) (p := p) (g := g) ?_ _ ?_).mono ?_); (assumption); (exact hts_lay [(14, 1), (14, 1)] (by unfold I64; decide) rfl); rintro e w' ⟨rfl, hS⟩
  refine hK.out _ _ ?_ (fun hNew => ?_)
  · (first | assumption | (refine SU.drew (w := w) (p := p) (g := g) (a := a) ?_; assumption) | (refine SU.alloc (w := w) (p := p) (g := g) (a := a) ?_ _; assumption) | (refine SU.drew (w := w) (p := p) (g := g) (a := a) (SU.alloc ?_ _); assumption))
  clear hK K hHeld hOld
  have hHeld := hNew
  clear hNew
  try simp only [Act.put, List.setIfInBounds_toArray, List.set_cons_zero, List.set_cons_succ]
  refine wpAnyH_take (i := 54) (v := ?_) (by simp only [List.getElem?_toArray, List.getElem?_cons_zero, List.getElem?_cons_succ]; rfl) (by kernel_rfl) (by kernel_rfl) (by kernel_rfl) (fun _ _ _ h => h) (Or.inl ⟨by rfl, ?_⟩) (by assumption) ?_
  rotate_left
  · intro V hV
    obtain ⟨k0, k1, k2, k3, k4, k5, k6, k7⟩ := hV.1
    first | (go_simp; done) | (go_simp; with_reducible rfl)
  try simp only [Act.put, List.setIfInBounds_toArray, List.set_cons_zero, List.set_cons_succ]
  refine wpAnyH_take (i := 55) (v := ?_) (by simp only [List.getElem?_toArray, List.getElem?_cons_zero, List.getElem?_cons_succ]; rfl) (by kernel_rfl) (by kernel_rfl) (by kernel_rfl) (fun _ _ _ h => h) (Or.inl ⟨by rfl, ?_⟩) (by assumption) ?_
  rotate_left
  · intro V hV
    obtain ⟨k0, k1, k2, k3, k4, k5, k6, k7⟩ := hV.1
    first | (go_simp; done) | (go_simp; with_reducible rfl)
  try simp only [Act.put, List.setIfInBounds_toArray, List.set_cons_zero, List.set_cons_succ]
  refine wpAnyH_take (i := 56) (v := ?_) (by simp only [List.getElem?_toArray, List.getElem?_cons_zero, List.getElem?_cons_succ]; rfl) (by kernel_rfl) (by kernel_rfl) (by kernel_rfl) (fun _ _ _ h => h) (Or.inl ⟨by rfl, ?_⟩) (by assumption) ?_
  rotate_left
  · intro V hV
    obtain ⟨k0, k1, k2, k3, k4, k5, k6, k7⟩ := hV.1
    first | (go_simp; done) | (go_simp; with_reducible rfl)
  try simp only [Act.put, List.setIfInBounds_toArray, List.set_cons_zero, List.set_cons_succ]
  refine wpAnyH_take (i := 57) (v := ?_) (by simp only [List.getElem?_toArray, List.getElem?_cons_zero, List.getElem?_cons_succ]; rfl) (by kernel_rfl) (by kernel_rfl) (by kernel_rfl) (fun _ _ _ h => h) (Or.inl ⟨by rfl, ?_⟩) (by assumption) ?_
  rotate_left
  · intro V hV
    obtain ⟨k0, k1, k2, k3, k4, k5, k6, k7⟩ := hV.1
    first | (go_simp; done) | (go_simp; with_reducible rfl)
  try simp only [Act.put, List.setIfInBounds_toArray, List.set_cons_zero, List.set_cons_succ]
  refine wpAnyH_take (i := 59) (v := ?_) (by simp only [List.getElem?_toArray, List.getElem?_cons_zero, List.getElem?_cons_succ]; rfl) (by kernel_rfl) (by kernel_rfl) (by kernel_rfl) (fun _ _ _ h => h) (Or.inl ⟨by rfl, ?_⟩) (by assumption) ?_
  rotate_left
  · intro V hV
    obtain ⟨k0, k1, k2, k3, k4, k5, k6, k7⟩ := hV.1
    first | (go_simp; done) | (go_simp; with_reducible rfl)
  try simp only [Act.put, List.setIfInBounds_toArray, List.set_cons_zero, List.set_cons_succ]
  refine wpAnyH_take (i := 60) (v := ?_) (by simp only [List.getElem?_toArray, List.getElem?_cons_zero, List.getElem?_cons_succ]; rfl) (by kernel_rfl) (by kernel_rfl) (by kernel_rfl) (fun _ _ _ h => h) (Or.inl ⟨by rfl, ?_⟩) (by assumption) ?_
  rotate_left
  · intro V hV
    obtain ⟨k0, k1, k2, k3, k4, k5, k6, k7⟩ := hV.1
    first | (go_simp; done) | (go_simp; with_reducible rfl)
  try simp only [Act.put, List.setIfInBounds_toArray, List.set_cons_zero, List.set_cons_succ]
  refine wpAnyH_ready (rs := [58]) (by kernel_rfl) (by simp) ?_
  refine AllReadyH.cons (by simp only [List.getElem?_toArray, List.getElem?_cons_zero, List.getElem?_cons_succ]; rfl) (fun K hK => ?_) AllReadyH.nil
  have hOld := hHeld
  go_simp
  go_at_call 37; (with_reducible refine (bt_U (w := w) (p := p) (g := g) (a := a) ?_ _).mono ?_); (assumption); rintro e w' ⟨b, d, rfl, hbt, hS⟩
  refine hK.out _ _ ?_ (fun hNew => ?_)
  · (first | assumption | (refine SU.drew (w := w) (p := p) (g := g) (a := a) ?_; assumption) | (refine SU.alloc (w := w) (p := p) (g := g) (a := a) ?_ _; assumption) | (refine SU.drew (w := w) (p := p) (g := g) (a := a) (SU.alloc ?_ _); assumption))
  clear hK K hHeld hOld
  have hHeld := hNew
  clear hNew
  try simp only [Act.put, List.setIfInBounds_toArray, List.set_cons_zero, List.set_cons_succ]
  refine wpAnyH_ready (rs := [61]) (by kernel_rfl) (by simp) ?_
  refine AllReadyH.cons (by simp only [List.getElem?_toArray, List.getElem?_cons_zero, List.getElem?_cons_succ]; rfl) (fun K hK => ?_) AllReadyH.nil
  have hOld := hHeld
  go_simp
  go_at_call 40; (with_reducible refine (sm_U (w := w) (p := p) (g := g) (a := a) ?_ _ _ _ _ _ _ [(15, 2)] [(15, 2)] (by assumption) ?_ (by decide)).mono ?_); (assumption); (exact Hts.cut (lo := 2) (m := 1) (UCtx.hts (SU.ctx (by assumption))) (by decide)); rintro e w' ⟨rfl, hS⟩
  refine hK.out _ _ ?_ (fun hNew => ?_)
  · (first | assumption | (refine SU.drew (w := w) (p := p) (g := g) (a := a) ?_; assumption) | (refine SU.alloc (w := w) (p := p) (g := g) (a := a) ?_ _; assumption) | (refine SU.drew (w := w) (p := p) (g := g) (a := a) (SU.alloc ?_ _); assumption))
  clear hK K hHeld hOld
  have hHeld := hNew
  clear hNew
  try simp only [Act.put, List.setIfInBounds_toArray, List.set_cons_zero, List.set_cons_succ]
  refine wpAnyH_take (i := 62) (v := ?_) (by simp only [List.getElem?_toArray, List.getElem?_cons_zero, List.getElem?_cons_succ]; rfl) (by kernel_rfl) (by kernel_rfl) (by kernel_rfl) (fun _ _ _ h => h) (Or.inl ⟨by rfl, ?_⟩) (by assumption) ?_
  rotate_left
  · intro V hV
    obtain ⟨k0, k1, k2, k3, k4, k5, k6, k7⟩ := hV.1
    first | (go_simp; done) | (go_simp; with_reducible rfl)
  try simp only [Act.put, List.setIfInBounds_toArray, List.set_cons_zero, List.set_cons_succ]
  refine wpAnyH_take (i := 63) (v := ?_) (by simp only [List.getElem?_toArray, List.getElem?_cons_zero, List.getElem?_cons_succ]; rfl) (by kernel_rfl) (by kernel_rfl) (by kernel_rfl) (fun _ _ _ h => h) (Or.inl ⟨by rfl, ?_⟩) (by assumption) ?_
  rotate_left
  · intro V hV
    obtain ⟨k0, k1, k2, k3, k4, k5, k6, k7⟩ := hV.1
    first | (go_simp; done) | (go_simp; with_reducible rfl)
  try simp only [Act.put, List.setIfInBounds_toArray, List.set_cons_zero, List.set_cons_succ]
  refine wpAnyH_take (i := 64) (v := ?_) (by simp only [List.getElem?_toArray, List.getElem?_cons_zero, List.getElem?_cons_succ]; rfl) (by kernel_rfl) (by kernel_rfl) (by kernel_rfl) (fun _ _ _ h => h) (Or.inl ⟨by rfl, ?_⟩) (by assumption) ?_
  rotate_left
  · intro V hV
    obtain ⟨k0, k1, k2, k3, k4, k5, k6, k7⟩ := hV.1
    first | (go_simp; done) | (go_simp; with_reducible rfl)
  try simp only [Act.put, List.setIfInBounds_toArray, List.set_cons_zero, List.set_cons_succ]
  refine wpAnyH_take (i := 66) (v := ?_) (by simp only [List.getElem?_toArray, List.getElem?_cons_zero, List.getElem?_cons_succ]; rfl) (by kernel_rfl) (by kernel_rfl) (by kernel_rfl) (fun _ _ _ h => h) (Or.inl ⟨by rfl, ?_⟩) (by assumption) ?_
  rotate_left
  · intro V hV
    obtain ⟨k0, k1, k2, k3, k4, k5, k6, k7⟩ := hV.1
    first | (go_simp; done) | (go_simp; with_reducible rfl)
  try simp only [Act.put, List.setIfInBounds_toArray, List.set_cons_zero, List.set_cons_succ]
  refine wpAnyH_take (i := 67) (v := ?_) (by simp only [List.getElem?_toArray, List.getElem?_cons_zero, List.getElem?_cons_succ]; rfl) (by kernel_rfl) (by kernel_rfl) (by kernel_rfl) (fun _ _ _ h => h) (Or.inl ⟨by rfl, ?_⟩) (by assumption) ?_
  rotate_left
  · intro V hV
    obtain ⟨k0, k1, k2, k3, k4, k5, k6, k7⟩ := hV.1
    first | (go_simp; done) | (go_simp; with_reducible rfl)
  try simp only [Act.put, List.setIfInBounds_toArray, List.set_cons_zero, List.set_cons_succ]
  refine wpAnyH_take (i := 70) (v := ?_) (by simp only [List.getElem?_toArray, List.getElem?_cons_zero, List.getElem?_cons_succ]; rfl) (by kernel_rfl) (by kernel_rfl) (by kernel_rfl) (fun _ _ _ h => h) (Or.inl ⟨by rfl, ?_⟩) (by assumption) ?_
  rotate_left
  · intro V hV
    obtain ⟨k0, k1, k2, k3, k4, k5, k6, k7⟩ := hV.1
    first | (go_simp; done) | (go_simp; with_reducible rfl)
  try simp only [Act.put, List.setIfInBounds_toArray, List.set_cons_zero, List.set_cons_succ]
  refine wpAnyH_ready (rs := [65]) (by kernel_rfl) (by simp) ?_
  refine AllReadyH.cons (by simp only [List.getElem?_toArray, List.getElem?_cons_zero, List.getElem?_cons_succ]; rfl) (fun K hK => ?_) AllReadyH.nil
  have hOld := hHeld
  go_simp
  go_wp2_with fail
  refine hK.out _ _ ?_ (fun hNew => ?_)
  · (first | assumption | (refine SU.drew (w := w) (p := p) (g := g) (a := a) ?_; assumption) | (refine SU.alloc (w := w) (p := p) (g := g) (a := a) ?_ _; assumption) | (refine SU.drew (w := w) (p := p) (g := g) (a := a) (SU.alloc ?_ _); assumption))
  clear hK K hHeld hOld
  have hHeld := hNew
  clear hNew
  try simp only [Act.put, List.setIfInBounds_toArray, List.set_cons_zero, List.set_cons_succ]
  refine wpAnyH_ready (rs := [68]) (by kernel_rfl) (by simp) ?_
  refine AllReadyH.cons (by simp only [List.getElem?_toArray, List.getElem?_cons_zero, List.getElem?_cons_succ]; rfl) (fun K hK => ?_) AllReadyH.nil
  have hOld := hHeld
  go_simp
  refine hK.out _ _ ?_ (fun hNew => ?_)
  · (first | assumption | (refine SU.drew (w := w) (p := p) (g := g) (a := a) ?_; assumption) | (refine SU.alloc (w := w) (p := p) (g := g) (a := a) ?_ _; assumption) | (refine SU.drew (w := w) (p := p) (g := g) (a := a) (SU.alloc ?_ _); assumption))
  clear hK K hHeld hOld
  have hHeld := hNew
  clear hNew
  try simp only [Act.put, List.setIfInBounds_toArray, List.set_cons_zero, List.set_cons_succ]
  refine wpAnyH_ready (rs := [69]) (by kernel_rfl) (by simp) ?_
  refine AllReadyH.cons (by simp only [List.getElem?_toArray, List.getElem?_cons_zero, List.getElem?_cons_succ]; rfl) (fun K hK => ?_) AllReadyH.nil
  have hOld := hHeld
  go_simp
  go_at_call 39; (with_reducible refine (jn_U (w := w) (p := p) (g := g) (a := a) ?_ _ ?_).mono ?_); (assumption); (refine jn_laid (w := w) (p := p) (g := g) (a := a) ?_ _ _; assumption); rintro e w' ⟨b2, d2, rfl, hbt2, hS⟩
  refine hK.out _ _ ?_ (fun hNew => ?_)
  · (first | assumption | (refine SU.drew (w := w) (p := p) (g := g) (a := a) ?_; assumption) | (refine SU.alloc (w := w) (p := p) (g := g) (a := a) ?_ _; assumption) | (refine SU.drew (w := w) (p := p) (g := g) (a := a) (SU.alloc ?_ _); assumption))
  clear hK K hHeld hOld
  have hHeld := hNew
  clear hNew
  try simp only [Act.put, List.setIfInBounds_toArray, List.set_cons_zero, List.set_cons_succ]
  refine wpAnyH_ready (rs := [71]) (by kernel_rfl) (by simp) ?_
  refine AllReadyH.cons (by simp only [List.getElem?_toArray, List.getElem?_cons_zero, List.getElem?_cons_succ]; rfl) (fun K hK => ?_) AllReadyH.nil
  have hOld := hHeld
  go_simp
  go_at_call 40; (with_reducible refine (sm_U (w := w) (p := p) (g := g) (a := a) ?_ _ _ _ _ _ _ usherH usherH (by assumption) ?_ (by decide)).mono ?_); (assumption); (exact UCtx.hts (SU.ctx (by assumption))); rintro e w' ⟨rfl, hS⟩
  refine hK.out _ _ ?_ (fun hNew => ?_)
  · (first | assumption | (refine SU.drew (w := w) (p := p) (g := g) (a := a) ?_; assumption) | (refine SU.alloc (w := w) (p := p) (g := g) (a := a) ?_ _; assumption) | (refine SU.drew (w := w) (p := p) (g := g) (a := a) (SU.alloc ?_ _); assumption))
  clear hK K hHeld hOld
  have hHeld := hNew
  clear hNew
  try simp only [Act.put, List.setIfInBounds_toArray, List.set_cons_zero, List.set_cons_succ]
  refine wpAnyH_take (i := 72) (v := ?_) (by simp only [List.getElem?_toArray, List.getElem?_cons_zero, List.getElem?_cons_succ]; rfl) (by kernel_rfl) (by kernel_rfl) (by kernel_rfl) (fun _ _ _ h => h) (Or.inl ⟨by rfl, ?_⟩) (by assumption) ?_
  rotate_left
  · intro V hV
    obtain ⟨k0, k1, k2, k3, k4, k5, k6, k7⟩ := hV.1
    first | (go_simp; done) | (go_simp; with_reducible rfl)
  try simp only [Act.put, List.setIfInBounds_toArray, List.set_cons_zero, List.set_cons_succ]
  refine wpAnyH_take (i := 73) (v := ?_) (by simp only [List.getElem?_toArray, List.getElem?_cons_zero, List.getElem?_cons_succ]; rfl) (by kernel_rfl) (by kernel_rfl) (by kernel_rfl) (fun _ _ _ h => h) (Or.inl ⟨by rfl, ?_⟩) (by assumption) ?_
  rotate_left
  · intro V hV
    obtain ⟨k0, k1, k2, k3, k4, k5, k6, k7⟩ := hV.1
    first | (go_simp; done) | (go_simp; with_reducible rfl)
  try simp only [Act.put, List.setIfInBounds_toArray, List.set_cons_zero, List.set_cons_succ]
  refine wpAnyH_take (i := 74) (v := ?_) (by simp only [List.getElem?_toArray, List.getElem?_cons_zero, List.getElem?_cons_succ]; rfl) (by kernel_rfl) (by kernel_rfl) (by kernel_rfl) (fun _ _ _ h => h) (Or.inl ⟨by rfl, ?_⟩) (by assumption) ?_
  rotate_left
  · intro V hV
    obtain ⟨k0, k1, k2, k3, k4, k5, k6, k7⟩ := hV.1
    first | (go_simp; done) | (go_simp; with_reducible rfl)
  try simp only [Act.put, List.setIfInBounds_toArray, List.set_cons_zero, List.set_cons_succ]
  refine wpAnyH_take (i := 75) (v := ?_) (by simp only [List.getElem?_toArray, List.getElem?_cons_zero, List.getElem?_cons_succ]; rfl) (by kernel_rfl) (by kernel_rfl) (by kernel_rfl) (fun _ _ _ h => h) (Or.inl ⟨by rfl, ?_⟩) (by assumption) ?_
  rotate_left
  · intro V hV
    obtain ⟨k0, k1, k2, k3, k4, k5, k6, k7⟩ := hV.1
    first | (go_simp; done) | (go_simp; with_reducible rfl)
  try simp only [Act.put, List.setIfInBounds_toArray, List.set_cons_zero, List.set_cons_succ]
  refine wpAnyH_take (i := 76) (v := ?_) (by simp only [List.getElem?_toArray, List.getElem?_cons_zero, List.getElem?_cons_succ]; rfl) (by kernel_rfl) (by kernel_rfl) (by kernel_rfl) (fun _ _ _ h => h) (Or.inl ⟨by rfl, ?_⟩) (by assumption) ?_
  rotate_left
  · intro V hV
    obtain ⟨k0, k1, k2, k3, k4, k5, k6, k7⟩ := hV.1
    first | (go_simp; done) | (go_simp; with_reducible rfl)
  try simp only [Act.put, List.setIfInBounds_toArray, List.set_cons_zero, List.set_cons_succ]
  refine wpAnyH_ready (rs := [77]) (by kernel_rfl) (by simp) ?_
  refine AllReadyH.cons (by simp only [List.getElem?_toArray, List.getElem?_cons_zero, List.getElem?_cons_succ]; rfl) (fun K hK => ?_) AllReadyH.nil
  have hOld := hHeld
  go_simp
  go_at_call 40; (with_reducible refine (sm_U (w := w) (p := p) (g := g) (a := a) ?_ _ _ _ _ _ _ usherH [(14, 0), (15, 2)] ?_ ?_ (by decide)).mono ?_); (assumption); (exact UCtx.hts (SU.ctx (by assumption))); (exact Hts.cut (lo := 1) (m := 2) (UCtx.hts (SU.ctx (by assumption))) (by decide)); rintro e w' ⟨rfl, hS⟩
  refine hK.out _ _ ?_ (fun hNew => ?_)
  · (first | assumption | (refine SU.drew (w := w) (p := p) (g := g) (a := a) ?_; assumption) | (refine SU.alloc (w := w) (p := p) (g := g) (a := a) ?_ _; assumption) | (refine SU.drew (w := w) (p := p) (g := g) (a := a) (SU.alloc ?_ _); assumption))
  clear hK K hHeld hOld
  have hHeld := hNew
  clear hNew
  try simp only [Act.put, List.setIfInBounds_toArray, List.set_cons_zero, List.set_cons_succ]
  refine wpAnyH_take (i := 78) (v := ?_) (by simp only [List.getElem?_toArray, List.getElem?_cons_zero, List.getElem?_cons_succ]; rfl) (by kernel_rfl) (by kernel_rfl) (by kernel_rfl) (fun _ _ _ h => h) (Or.inl ⟨by rfl, ?_⟩) (by assumption) ?_
  rotate_left
  · intro V hV
    obtain ⟨k0, k1, k2, k3, k4, k5, k6, k7⟩ := hV.1
    first | (go_simp; done) | (go_simp; with_reducible rfl)
  try simp only [Act.put, List.setIfInBounds_toArray, List.set_cons_zero, List.set_cons_succ]
  refine wpAnyH_take (i := 79) (v := ?_) (by simp only [List.getElem?_toArray, List.getElem?_cons_zero, List.getElem?_cons_succ]; rfl) (by kernel_rfl) (by kernel_rfl) (by kernel_rfl) (fun _ _ _ h => h) (Or.inl ⟨by rfl, ?_⟩) (by assumption) ?_
  rotate_left
  · intro V hV
    obtain ⟨k0, k1, k2, k3, k4, k5, k6, k7⟩ := hV.1
    first | (go_simp; done) | (go_simp; with_reducible rfl)
  try simp only [Act.put, List.setIfInBounds_toArray, List.set_cons_zero, List.set_cons_succ]
  refine wpAnyH_take (i := 80) (v := ?_) (by simp only [List.getElem?_toArray, List.getElem?_cons_zero, List.getElem?_cons_succ]; rfl) (by kernel_rfl) (by kernel_rfl) (by kernel_rfl) (fun _ _ _ h => h) (Or.inl ⟨by rfl, ?_⟩) (by assumption) ?_
  rotate_left
  · intro V hV
    obtain ⟨k0, k1, k2, k3, k4, k5, k6, k7⟩ := hV.1
    first | (go_simp; done) | (go_simp; with_reducible rfl)
  try simp only [Act.put, List.setIfInBounds_toArray, List.set_cons_zero, List.set_cons_succ]
  refine wpAnyH_done (by kernel_rfl) ?_ _
  refine NoPanic.normal ?_
  go_wp2
  go_ret
  refine ⟨?_, hHeld.2.2⟩
  rw [show (!decide (usherH = [(14, 0), (15, 2)])) = true from by decide]
  rfl

end Go.Proofs.Ytmpmjkbjnklgfaa

/- The document's functions of sets (layer 5), the small ones: walked. -/

namespace Go.Proofs.Ytmpmjkbjnklgfaa
open Go.RowKit Go.Sort
set_option linter.unusedVariables false

def gsum (wss : List (List Int)) : Int := (wss.map fun w => min (w.length : Int) 4000).sum
def greatP (wss : List (List Int)) : Bool := decide (wss.length > 80 ∨ gsum wss > 3000)
theorem gsum_snoc (l : List (List Int)) (x : List Int) : gsum (l ++ [x]) = gsum l + min (x.length : Int) 4000 := by simp [gsum]
theorem gsum_nonneg : ∀ (l : List (List Int)), 0 ≤ gsum l
  | [] => by simp [gsum]
  | x :: l => by
    have := gsum_nonneg l
    simp only [gsum, List.map_cons, List.sum_cons] at this ⊢
    omega
theorem gsum_append (l m : List (List Int)) : gsum (l ++ m) = gsum l + gsum m := by simp [gsum]
theorem gsum_take (l : List (List Int)) (k : Nat) : gsum (l.take k) ≤ gsum l := by
  have h := gsum_append (l.take k) (l.drop k)
  rw [List.take_append_drop] at h
  have := gsum_nonneg (l.drop k)
  omega

set_option maxHeartbeats 2000000 in
theorem great3_any (a : Option Addr) (la ca : Nat) (wss : List (List Int)) (w : World) (hA : Wds w a la wss) :
    Calls Try.prog 68 #[.slice a la ca] w fun e w' => e = .returned (.bool (greatP wss)) ∧ w = w' := by
  have HL := Lib.hid hA.len
  obtain ⟨G, hG⟩ : ∃ G, greatP wss = G := ⟨_, rfl⟩
  have HG : Hid (greatP wss = G) := hG
  rw [hG]
  clear hG
  go_enter Try.func68, Try.ntmps68
  go_wp2
  go_loop [3, 4] (fun s i => ∃ (k : Nat) (n : Int), k ≤ la ∧ k ≤ 81 ∧ i = .int .i64 k ∧ s = .int .i64 n ∧ 0 ≤ n ∧ n ≤ 7000 ∧ Hid (n = gsum (wss.take k))) (fun _ i => la - (intOf i).toNat)
  case atStart => exact ⟨0, 0, Nat.zero_le _, by omega, rfl, rfl, by omega, by omega, by simp [Hid, gsum]⟩
  case round =>
    obtain ⟨k, n, hk, hk81, rfl, rfl, hn0, hn1, HN⟩ := hrel
    have fin : ¬ (k < la ∧ k ≤ 80 ∧ n ≤ 3000) → la ≤ 80 → Hid (G = decide (n > 3000)) := by
      intro h1 h2
      have hlen := HL.out
      have ht := gsum_take wss k
      rw [Hid, ← HG.out]
      unfold greatP
      by_cases hn : n > 3000
      · rw [decide_eq_true hn, decide_eq_true]
        right
        have := HN.out
        omega
      · have hkl : k = la := by omega
        rw [decide_eq_false hn, decide_eq_false]
        rintro (h | h)
        · omega
        · have h3 := HN.out
          rw [List.take_of_length_le (by omega)] at h3
          omega
    have fin2 : 80 < la → Hid (G = true) := by
      intro h
      rw [Hid, ← HG.out]
      exact decide_eq_true (.inl (by have := HL.out; omega))
    have HF := Lib.hid fin
    have HF2 := Lib.hid fin2
    clear fin fin2
    by_cases hlt : k < la
    · by_cases h80 : k ≤ 80
      · by_cases hn3 : n ≤ 3000
        · obtain ⟨bb, off, a', l, c, x, rfl, hbl, hcell, hx, hX, hlc⟩ := hA.at_ hlt
          have HS : Hid (n + min (l : Int) 4000 = gsum (wss.take (k + 1))) := by rw [Hid, take_step hx, gsum_snoc, hX.len, HN.out]
          clear hx hX
          have hm0 : 0 ≤ min (l : Int) 4000 := by omega
          have hm1 : min (l : Int) 4000 ≤ 4000 := by omega
          go_wp2
          go_round
          case rel => exact ⟨k + 1, _, by omega, by omega, by go_num, rfl, by omega, by omega, HS⟩
          case measure => simp [intOf]; omega
        · by_cases h8 : la ≤ 80
          · have hE := HF.out (by omega) h8
            go_wp2
            go_ret
            exact ⟨by rw [hE.out]; simp; try omega, rfl⟩
          · have hE := HF2.out (by omega)
            go_wp2
            go_ret
            exact ⟨by rw [hE.out]; simp; try omega, rfl⟩
      · have hE := HF2.out (by omega)
        go_wp2
        go_ret
        exact ⟨by rw [hE.out]; simp; try omega, rfl⟩
    · by_cases h8 : la ≤ 80
      · have hE := HF.out (by omega) h8
        go_wp2
        go_ret
        exact ⟨by rw [hE.out]; simp; try omega, rfl⟩
      · have hE := HF2.out (by omega)
        go_wp2
        go_ret
        exact ⟨by rw [hE.out]; simp; try omega, rfl⟩

theorem great5_any (fold : Bool) (a : Option Addr) (la ca : Nat) (wss : List (List Int)) (w : World) (hA : Wds w a la wss) :
    Calls Try.prog 26 #[.agg (setV fold a la ca)] w fun e w' => e = .returned (.bool (greatP wss)) ∧ Below w.heap.size w w' := by
  have hB0 : Below w.heap.size w (w.alloc (.cells (setV fold a la ca) 39)) := (Below.refl _ _).alloc (Nat.le_refl _) _
  have hA1 := hA.below hB0
  go_enter Try.func26, Try.ntmps26
  go_wp2_with fail
  refine (great3_any a la ca wss _ hA1).mono ?_
  rintro e w1 ⟨rfl, rfl⟩
  go_wp2
  go_ret
  exact ⟨rfl, hB0⟩


set_option maxHeartbeats 1000000 in
theorem longest_any (fold : Bool) (a : Option Addr) (la ca : Nat) (wss : List (List Int)) (w : World) (hA : Wds w a la wss) (hla : la ≤ 1000000) :
    Calls Try.prog 43 #[.agg (setV fold a la ca)] w fun e w' => e = .returned (.int .i64 (longL wss)) ∧ Below w.heap.size w w' := by
  have hB0 : Below w.heap.size w (w.alloc (.cells (setV fold a la ca) 39)) := (Below.refl _ _).alloc (Nat.le_refl _) _
  have hA1 := hA.below hB0
  have HL := Lib.hid hA.len
  clear hA
  go_enter Try.func43, Try.ntmps43
  go_wp2
  go_loop [3, 4] (fun s i => ∃ (k : Nat) (n : Int), k ≤ la ∧ i = .int .i64 k ∧ s = .int .i64 n ∧ Hid (n = longL (wss.take k))) (fun _ i => la - (intOf i).toNat)
  case atStart => exact ⟨0, 0, Nat.zero_le _, rfl, rfl, by simp [Hid, longL]⟩
  case round =>
    obtain ⟨k, n, hk, rfl, rfl, HN⟩ := hrel
    by_cases hlt : k < la
    · obtain ⟨bb, off, a', l, c, x, rfl, hbl, hcell, hx, hX, hlc⟩ := hA1.at_ hlt
      have HS : Hid (max n (l : Int) = longL (wss.take (k + 1))) := by rw [Hid, take_step hx, longL_snoc, hX.len, HN.out]
      clear hx hX
      go_wp2
      go_round
      case rel => exact ⟨k + 1, _, by omega, by go_num, rfl, HS⟩
      case measure => simp [intOf]; omega
    · obtain rfl : k = la := by omega
      have HF : Hid (n = longL wss) := by
        have h := HN.out
        rwa [List.take_of_length_le (by have := HL.out; omega)] at h
      go_wp2
      go_ret
      exact ⟨by rw [← HF.out]; rfl, hB0⟩

end Go.Proofs.Ytmpmjkbjnklgfaa

/- The document's functions of sets (layer 5): what two texts have in common. -/

namespace Go.Proofs.Ytmpmjkbjnklgfaa
open Go.RowKit Go.Sort
set_option linter.unusedVariables false

def commonL : List Int → List Int → Nat
  | x :: xs, y :: ys => if x = y then commonL xs ys + 1 else 0
  | _, _ => 0
theorem commonL_stop : ∀ {k : Nat} {xs ys : List Int}, k ≤ xs.length → k ≤ ys.length → xs.take k = ys.take k → (k = xs.length ∨ k = ys.length ∨ ∃ x y, xs[k]? = some x ∧ ys[k]? = some y ∧ x ≠ y) → commonL xs ys = k
  | 0, [], ys, _, _, _, _ => by simp [commonL]
  | 0, x :: xs, [], _, _, _, _ => by simp [commonL]
  | 0, x :: xs, y :: ys, _, _, _, h => by
    rcases h with h | h | ⟨a, b, ha, hb, hab⟩
    · simp at h
    · simp at h
    · simp at ha hb
      subst ha hb
      simp [commonL, hab]
  | k + 1, [], ys, h, _, _, _ => by simp at h
  | k + 1, x :: xs, [], _, h, _, _ => by simp at h
  | k + 1, x :: xs, y :: ys, h1, h2, h3, h4 => by
    simp only [List.take_succ_cons, List.cons.injEq] at h3
    have ih := commonL_stop (k := k) (xs := xs) (ys := ys) (by simpa using h1) (by simpa using h2) h3.2 (by simpa using h4)
    simp [commonL, h3.1, ih]

set_option maxHeartbeats 2000000 in
theorem common_any (a b : Option Addr) (la ca lb cb : Nat) (xs ys : List Int) (w : World) (hA : Bys w a la xs) (hB : Bys w b lb ys) (hla : la ≤ 1000000) (hlb : lb ≤ 1000000) :
    Calls Try.prog 88 #[.slice a la ca, .slice b lb cb] w fun e w' => e = .returned (.int .i64 (commonL xs ys)) ∧ Below w.heap.size w w' := by
  have HX := Lib.hid hA.len
  have HY := Lib.hid hB.len
  go_enter Try.func88, Try.ntmps88
  go_wp2
  go_loopw [5] (fun i wr => ∃ k : Nat, k ≤ la ∧ k ≤ lb ∧ i = .int .i64 k ∧ Hid (xs.take k = ys.take k) ∧ Below w.heap.size w wr) (fun i _ => la - (intOf i).toNat)
  case atStart => exact ⟨0, Nat.zero_le _, Nat.zero_le _, rfl, by simp [Hid], Below.refl _ _⟩
  case round =>
    obtain ⟨k, hka, hkb, rfl, HK, hBn⟩ := hrel
    have hBd : ∀ n, Below w.heap.size w (wr.drewN n) := fun n => hBn.trans ⟨rfl, rfl, rfl, Nat.le_refl _, fun _ _ => rfl⟩
    have stop : (k = la ∨ k = lb ∨ ∃ x y, xs[k]? = some x ∧ ys[k]? = some y ∧ x ≠ y) → Hid (commonL xs ys = k) := fun h => commonL_stop (by have := HX.out; omega) (by have := HY.out; omega) HK (by rw [HX.out, HY.out]; exact h)
    have HS := Lib.hid stop
    clear stop
    by_cases h1 : k < la
    · by_cases h2 : k < lb
      · obtain ⟨x, hx⟩ : ∃ x, xs[k]? = some x := ⟨xs[k]'(by rw [HX.out]; exact h1), by simp⟩
        obtain ⟨y, hy⟩ : ∃ y, ys[k]? = some y := ⟨ys[k]'(by rw [HY.out]; exact h2), by simp⟩
        obtain ⟨ba, oa, rfl, hba, hca⟩ := (hA.below hBn).1.2.resolve_left (by omega)
        obtain ⟨bb, ob, rfl, hbb, hcb⟩ := (hB.below hBn).1.2.resolve_left (by omega)
        have cx := hca k x hx
        have cy := hcb k y hy
        have HX2 := Lib.hid hx
        have HY2 := Lib.hid hy
        clear hx hy hca hcb
        by_cases hxy : x = y
        · subst hxy
          have HK2 : Hid (xs.take (k + 1) = ys.take (k + 1)) := by rw [take_step HX2.out, take_step HY2.out, HK.out]; rfl
          go_wp2
          go_quiet (fail)
          go_wp2
          go_roundw
          case rel => exact ⟨k + 1, by omega, by omega, by go_num, HK2, hBd _⟩
          case measure => simp [intOf]; omega
        · have HE := HS.out (.inr (.inr ⟨x, y, HX2.out, HY2.out, hxy⟩))
          go_wp2
          go_quiet (fail)
          go_wp2
          go_ret
          exact ⟨by rw [HE.out]; rfl, hBd _⟩
      · obtain rfl : k = lb := by omega
        have HE := HS.out (.inr (.inl rfl))
        go_wp2
        go_quiet (fail)
        go_wp2
        go_ret
        exact ⟨by rw [HE.out]; rfl, hBd _⟩
    · obtain rfl : k = la := by omega
      have HE := HS.out (.inl rfl)
      go_wp2
      go_quiet (fail)
      go_wp2
      go_ret
      exact ⟨by rw [HE.out]; rfl, hBd _⟩

end Go.Proofs.Ytmpmjkbjnklgfaa
