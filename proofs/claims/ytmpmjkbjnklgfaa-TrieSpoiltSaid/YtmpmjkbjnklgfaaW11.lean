/- Parts of the proof, one behind the other: O9, Oq. No condition but what each theorem states. -/
import Derived.Deep.RegionHeld3
import Derived.Test.YtmpmjkbjnklgfaaW3
import Derived.Test.YtmpmjkbjnklgfaaW10

/- What the document says of usher from 10 on (layer 6): walked. -/


namespace Go.Proofs.Ytmpmjkbjnklgfaa
open Go.RowKit Go.Sort
set_option linter.unusedVariables false
set_option linter.unusedSimpArgs false

theorem conv_lit_drew (w : World) (C : Array Value) (n c k : Nat) (h : w.heap.size = k) : (convert 40 40 (.slice (some ⟨k, 0, none⟩) n c)).run Try.prog (w.alloc (.cells C 5)).drew = .ok (.slice (some ⟨k, 0, none⟩) n c) (w.alloc (.cells C 5 (C.size, C.size + 1))).drew :=
  conv_lit w.drew C n c k h

/-- What lies there all the way. -/
structure UCtx (p g : Nat) (a : Addr) (W : World) : Prop where
  lt : p < W.heap.size
  c0 : W.cell? ⟨p, 0, none⟩ = some (.bool false)
  c1 : W.cell? ⟨p, 1, none⟩ = some (.slice (some a) 3 3)
  wds : Wds W (some a) 3 heW
  hts : Hts W (some ⟨g, 0, none⟩) 3 usherH
theorem UCtx.below {p g : Nat} {a : Addr} {W W' : World} (h : UCtx p g a W) (hb : Below W.heap.size W W') : UCtx p g a W' :=
  ⟨Nat.lt_of_lt_of_le h.lt hb.size, (hb.cell (p := ⟨p, 0, none⟩) h.lt).trans h.c0, (hb.cell (p := ⟨p, 1, none⟩) h.lt).trans h.c1, h.wds.below hb, h.hts.below hb⟩
theorem UCtx.cells {p g : Nat} {a : Addr} {W : World} (h : UCtx p g a W) : W.cell? ⟨g, 0, none⟩ = some (.int .i64 14) ∧ W.cell? ⟨g, 1, none⟩ = some (.int .i64 1) ∧ W.cell? ⟨g, 2, none⟩ = some (.int .i64 14) ∧ W.cell? ⟨g, 3, none⟩ = some (.int .i64 0) ∧ W.cell? ⟨g, 4, none⟩ = some (.int .i64 15) ∧ W.cell? ⟨g, 5, none⟩ = some (.int .i64 2) := by
  obtain ⟨b, off, e, _, hc⟩ := h.hts.1.2.resolve_left (by decide)
  injection e with e
  injection e with e1 e2
  subst e1 e2
  have f := fun i u hu => hc i u hu
  simp only [Nat.zero_add] at f
  exact ⟨f 0 _ rfl, f 1 _ rfl, f 2 _ rfl, f 3 _ rfl, f 4 _ rfl, f 5 _ rfl⟩

/-- The same, with all cells in sight. -/
def SU (w : World) (p g : Nat) (a : Addr) (W : World) : Prop :=
  (W.cell? ⟨p, 0, none⟩ = some (.bool false) ∧ W.cell? ⟨p, 1, none⟩ = some (.slice (some a) 3 3) ∧ W.cell? ⟨g, 0, none⟩ = some (.int .i64 14) ∧ W.cell? ⟨g, 1, none⟩ = some (.int .i64 1) ∧ W.cell? ⟨g, 2, none⟩ = some (.int .i64 14) ∧ W.cell? ⟨g, 3, none⟩ = some (.int .i64 0) ∧ W.cell? ⟨g, 4, none⟩ = some (.int .i64 15) ∧ W.cell? ⟨g, 5, none⟩ = some (.int .i64 2)) ∧ UCtx p g a W ∧ RowKit.Below w.heap.size w W
theorem SU.of {w : World} {p g : Nat} {a : Addr} {W : World} (h : UCtx p g a W) (hb : RowKit.Below w.heap.size w W) : SU w p g a W := by
  obtain ⟨h0, h1, h2, h3, h4, h5⟩ := h.cells
  exact ⟨⟨h.c0, h.c1, h0, h1, h2, h3, h4, h5⟩, h, hb⟩
theorem SU.below {w : World} {p g : Nat} {a : Addr} {W W' : World} (h : SU w p g a W) (hb : RowKit.Below W.heap.size W W') : SU w p g a W' := SU.of (h.2.1.below hb) (h.2.2.trans (hb.mono h.2.2.size))
theorem SU.drew {w : World} {p g : Nat} {a : Addr} {W : World} (h : SU w p g a W) : SU w p g a W.drew := h.below ⟨rfl, rfl, rfl, Nat.le_refl _, fun _ _ => rfl⟩
theorem SU.alloc {w : World} {p g : Nat} {a : Addr} {W : World} (h : SU w p g a W) (o : Obj) : SU w p g a (W.alloc o) := h.below (below_alloc _ _)

theorem hts_lay {w : World} {n : Nat} (l : List HitP) (hl : ∀ h ∈ l, I64 h.1 ∧ I64 h.2) (h : w.heap.size = n) : Hts (w.alloc (.cells (hcells l).toArray 43)) (some ⟨n, 0, none⟩) l.length l := by
  refine ⟨⟨hcells_length l, .inr ⟨n, 0, rfl, by simp [h], fun i u hu => ?_⟩⟩, hl⟩
  have := cells_new (w := w) (hcells l).toArray 43 h i u (by simpa using hu)
  rwa [add_plain] at this
theorem SU.ctx {w : World} {p g : Nat} {a : Addr} {W : World} (h : SU w p g a W) : UCtx p g a W := h.2.1
section
variable {w : World} {p g : Nat} {a : Addr} {W : World}
def stB (e k : Int) : Bool := mayP false heW 10 && standsH false heW 10 usherT (e, k)
theorem st_U (h : SU w p g a W) (tb : Option Addr) (hT : Bys W tb 5 usherT) (e k : Int) (he : I64 e ∧ I64 k) :
    Calls Try.prog 31 #[.agg #[.bool false, .slice (some a) 3 3], .int .i64 10, .slice tb 5 5, .agg #[.int .i64 e, .int .i64 k]] W fun e' w' => e' = .returned (.bool (stB e k)) ∧ SU w p g a w' :=
  (stands_any false (some a) tb 3 3 5 5 10 usherT (e, k) heW W h.2.1.wds hT (by decide) (by decide) (by decide) he_len he_beg he).mono fun _ _ ⟨h1, h2⟩ => ⟨h1, h.below h2⟩
theorem ls_U (h : SU w p g a W) (x1 x2 y1 y2 : Int) :
    Calls Try.prog 33 #[.agg #[.bool false, .slice (some a) 3 3], .agg #[.int .i64 x1, .int .i64 x2], .agg #[.int .i64 y1, .int .i64 y2]] W fun e' w' => e' = .returned (.bool (lessH heW (x1, x2) (y1, y2))) ∧ SU w p g a w' :=
  (less_any false (some a) 3 3 (x1, x2) (y1, y2) heW W h.2.1.wds (by decide)).mono fun _ _ ⟨h1, h2⟩ => ⟨h1, h.below h2⟩
theorem ri_U1 (h : SU w p g a W) (c : Nat) :
    Calls Try.prog 35 #[.agg #[.bool false, .slice (some a) 3 3], .slice (some ⟨g, 0, none⟩) 3 c] W fun e' w' => e' = .returned (.bool true) ∧ SU w p g a w' :=
  (orise_any false (some a) _ 3 3 3 c usherH heW W h.2.1.wds h.2.1.hts (by decide) (by decide)).mono fun _ _ ⟨h1, h2⟩ => ⟨by rw [h1, he_ri1], h.below h2⟩
theorem ri_U2 (h : SU w p g a W) (b : Option Addr) (hb : Hts W b 2 [(14, 1), (14, 1)]) :
    Calls Try.prog 35 #[.agg #[.bool false, .slice (some a) 3 3], .slice b 2 2] W fun e' w' => e' = .returned (.bool false) ∧ SU w p g a w' :=
  (orise_any false (some a) b 3 3 2 2 [(14, 1), (14, 1)] heW W h.2.1.wds hb (by decide) (by decide)).mono fun _ _ ⟨h1, h2⟩ => ⟨by rw [h1, he_ri2], h.below h2⟩
theorem bt_U (h : SU w p g a W) (c : Nat) :
    Calls Try.prog 37 #[.int .i64 14, .int .i64 15, .slice (some ⟨g, 0, none⟩) 3 c] W fun e' w' => ∃ b d, e' = .returned (.slice b 1 d) ∧ Hts w' b 1 [(15, 2)] ∧ SU w p g a w' :=
  (between_h 14 15 _ 3 c usherH W h.2.1.hts (by decide)).mono fun _ _ ⟨v, h1, h2, h3⟩ => by
    rw [he_bt] at h2
    obtain ⟨b, d, e, _, h4⟩ := h2.hts (by unfold I64; decide)
    exact ⟨b, d, by rw [h1, e]; rfl, h4, h.below h3⟩
theorem sm_U (h : SU w p g a W) (b d : Option Addr) (lb cb ld cd : Nat) (l m : List HitP) (hb : Hts W b lb l) (hd : Hts W d ld m) (hl : lb ≤ 100) :
    Calls Try.prog 40 #[.slice b lb cb, .slice d ld cd] W fun e' w' => e' = .returned (.bool (decide (l = m))) ∧ SU w p g a w' :=
  (osame_any b d lb cb ld cd l m W hb hd (by omega)).mono fun _ _ ⟨h1, h2⟩ => ⟨h1, h.below h2⟩
theorem jn_U (h : SU w p g a W) (b : Option Addr) (hb : Hss W b 3 [[(14, 1)], [], [(14, 0), (15, 2)]]) :
    Calls Try.prog 39 #[.slice b 3 3] W fun e' w' => ∃ b' d, e' = .returned (.slice b' 3 d) ∧ Hts w' b' 3 usherH ∧ SU w p g a w' :=
  (join_h b 3 3 _ W hb (by decide) (by decide)).mono fun _ _ ⟨v, h1, h2, h3⟩ => by
    obtain ⟨b', d, e, _, h4⟩ := OwnH.hts (l := usherH) h2 (by unfold usherH I64; decide)
    exact ⟨b', d, by rw [h1, e]; rfl, h4, h.below h3⟩
theorem jn_laid (h : SU w p g a W) (c : Nat) (t : TypeId) : Hss (W.alloc (.cells #[.slice (some ⟨g, 0, none⟩) 1 c, .slice none 0 0, .slice (some ⟨g, 2, none⟩) 2 (c - 1)] t)) (some ⟨W.heap.size, 0, none⟩) 3 [[(14, 1)], [], [(14, 0), (15, 2)]] := by
  have hh := (h.alloc (.cells #[.slice (some ⟨g, 0, none⟩) 1 c, .slice none 0 0, .slice (some ⟨g, 2, none⟩) 2 (c - 1)] t)).2.1.hts
  refine ⟨[(some ⟨g, 0, none⟩, 1, c), (none, 0, 0), (some ⟨g, 2, none⟩, 2, c - 1)], Sl1.lay (α := Option Addr × Nat × Nat) _ W [(some ⟨g, 0, none⟩, 1, c), (none, 0, 0), (some ⟨g, 2, none⟩, 2, c - 1)] t _ rfl, rfl, fun i v l hv hl => ?_⟩
  match i with
  | 0 => simp at hv hl; subst hv hl; exact hh.cut (lo := 0) (m := 1) (by decide)
  | 1 => simp at hv hl; subst hv hl; exact ⟨⟨rfl, .inl rfl⟩, by simp⟩
  | 2 => simp at hv hl; subst hv hl; exact hh.cut (lo := 1) (m := 2) (by decide)
  | n + 3 => simp at hv
end

set_option maxRecDepth 100000 in
set_option maxHeartbeats 4000000 in
theorem wakes6 (w : World) : Calls Try.prog 27 #[] w fun e w' => e = .returned (.bool true) ∧ Below w.heap.size w w' := by
  have kc := conv_lit
  have kd := conv_lit_drew
  go_enter Try.func27, Try.ntmps27
  go_wp2_with fail
  refine (she_any _).mono ?_
  rintro e w1 ⟨a, rfl, hW, hb1⟩
  go_wp2_with fail
  have hB2 : Below w1.heap.size w1 ((w1.alloc (.cells (setV false (some a) 3 3) 39)).alloc (.cells #[.int .u8 117, .int .u8 115, .int .u8 104, .int .u8 101, .int .u8 114] 5 (5, 6))) := (below_alloc _ _).alloc (by simp) _
  refine (occ_yes false (some a) _ 3 3 5 5 10 usherT heW _ (hW.below hB2) (bys_lay usherT (by decide) _ _ (by simp)) (by decide) (by decide) (by decide) he_len he_beg he_may (by rw [he_raw]; exact sortOK_small 3 (by decide))).mono ?_
  rintro e w2 ⟨v, rfl, hown, hb2⟩
  rw [he_occ] at hown
  obtain ⟨g, c, rfl⟩ := ownsRow_succ (k := 2) hown
  obtain ⟨a', c', e, hc3, hts⟩ := hown.hts (by unfold usherH I64; decide)
  injection e with e1 e2 e3
  subst e1 e3
  clear e2
  have hlt1 := hb2.size
  simp only [World.size_alloc] at hlt1
  have n2 : w2.heap[w1.heap.size]? = some (.cells (setV false (some a) 3 3) 39 (0, 0)) := (hb2.block _ (by simp; omega)).trans ((Below.heap_alloc _ _ _ (by simp)).trans (World.alloc_heap_new _ _))
  have x2 : UCtx w1.heap.size g a w2 := ⟨by omega, by simp [World.cell?, n2], by simp [World.cell?, n2], (hW.below hB2).below hb2, hts⟩
  have hBw2 : Below w.heap.size w w2 := hb1.trans ((hB2.trans (hb2.mono (by simp; omega))).mono hb1.size)
  obtain ⟨p, hp⟩ : ∃ p, w1.heap.size = p := ⟨_, rfl⟩
  rw [hp] at x2 ⊢
  clear hp hW hB2 hb2 hown hts n2 hlt1 hb1
  obtain ⟨h0, h1, h2, h3, h4, h5⟩ := x2.cells
  have hc3n : 3 ≤ c := hc3
  clear hc3
  go_wp2_with fail
  refine (occ_no false none none 0 0 0 0 0 [] [] _ ⟨[], ⟨rfl, .inl rfl⟩, rfl, fun i v xs h => by simp at h⟩ (by decide) (by simp) (by decide) he_none).mono ?_
  rintro e w3 ⟨rfl, hb3⟩
  clear h0 h1 h2 h3 h4 h5
  have x3 := x2.below hb3
  have hBw3 : Below w.heap.size w w3 := hBw2.trans (hb3.mono hBw2.size)
  have hS3 : SU w p g a w3 := SU.of x3 hBw3
  clear x2 x3 hBw2 hBw3 hb3
  have q1 := he_st1
  have q2 := he_st2
  have q3 := he_ls1
  have q4 := he_ls2
  have q5 := he_ri1
  have q6 := he_ri2
  obtain ⟨k0, k1, k2, k3, k4, k5, k6, k7⟩ := hS3.1
  have heq := eql_hit
  have r1 : stB 15 2 = true := he_st1
  have r2 : stB 15 0 = false := he_st2
  have r3 := he_ls1
  have r4 := he_ls2
  have hn2 : ¬ c = 2 := by omega
  have hn1 : ¬ c = 1 := by omega
  clear q1 q2 q3 q4 q5 q6
  go_wp2
  clear heq k0 k1 k2 k3 k4 k5 k6 k7
  simp only [List.append_eq, List.cons_append, List.nil_append]
  refine wp_region_noPanic ?_
  refine wp_region_held_drew (S := SU w p g a) (by kernel_rfl) ?_ (fun hHeld => ?_)
  · (first | assumption | (refine SU.drew (w := w) (p := p) (g := g) (a := a) ?_; assumption) | (refine SU.alloc (w := w) (p := p) (g := g) (a := a) ?_ _; assumption) | (refine SU.drew (w := w) (p := p) (g := g) (a := a) (SU.alloc ?_ _); assumption))
  refine wpAnyH_take (i := 0) (v := ?_) (by simp only [List.getElem?_toArray, List.getElem?_cons_zero, List.getElem?_cons_succ]; rfl) (by kernel_rfl) (by kernel_rfl) (by kernel_rfl) (fun _ _ _ h => h) (Or.inl ⟨by rfl, ?_⟩) (by assumption) ?_
  rotate_left
  · intro V hV
    obtain ⟨k0, k1, k2, k3, k4, k5, k6, k7⟩ := hV.1
    first | (go_simp; done) | (go_simp; with_reducible rfl)
  try simp only [Act.put, List.setIfInBounds_toArray, List.set_cons_zero, List.set_cons_succ]
  refine wpAnyH_take (i := 1) (v := ?_) (by simp only [List.getElem?_toArray, List.getElem?_cons_zero, List.getElem?_cons_succ]; rfl) (by kernel_rfl) (by kernel_rfl) (by kernel_rfl) (fun _ _ _ h => h) (Or.inl ⟨by rfl, ?_⟩) (by assumption) ?_
  rotate_left
  · intro V hV
    obtain ⟨k0, k1, k2, k3, k4, k5, k6, k7⟩ := hV.1
    first | (go_simp; done) | (go_simp; with_reducible rfl)
  try simp only [Act.put, List.setIfInBounds_toArray, List.set_cons_zero, List.set_cons_succ]
  refine wpAnyH_take (i := 2) (v := ?_) (by simp only [List.getElem?_toArray, List.getElem?_cons_zero, List.getElem?_cons_succ]; rfl) (by kernel_rfl) (by kernel_rfl) (by kernel_rfl) (fun _ _ _ h => h) (Or.inl ⟨by rfl, ?_⟩) (by assumption) ?_
  rotate_left
  · intro V hV
    obtain ⟨k0, k1, k2, k3, k4, k5, k6, k7⟩ := hV.1
    first | (go_simp; done) | (go_simp; with_reducible rfl)
  try simp only [Act.put, List.setIfInBounds_toArray, List.set_cons_zero, List.set_cons_succ]
  refine wpAnyH_take (i := 5) (v := ?_) (by simp only [List.getElem?_toArray, List.getElem?_cons_zero, List.getElem?_cons_succ]; rfl) (by kernel_rfl) (by kernel_rfl) (by kernel_rfl) (fun _ _ _ h => h) (Or.inl ⟨by rfl, ?_⟩) (by assumption) ?_
  rotate_left
  · intro V hV
    obtain ⟨k0, k1, k2, k3, k4, k5, k6, k7⟩ := hV.1
    first | (go_simp; done) | (go_simp; with_reducible rfl)
  try simp only [Act.put, List.setIfInBounds_toArray, List.set_cons_zero, List.set_cons_succ]
  refine wpAnyH_take (i := 6) (v := ?_) (by simp only [List.getElem?_toArray, List.getElem?_cons_zero, List.getElem?_cons_succ]; rfl) (by kernel_rfl) (by kernel_rfl) (by kernel_rfl) (fun _ _ _ h => h) (Or.inl ⟨by rfl, ?_⟩) (by assumption) ?_
  rotate_left
  · intro V hV
    obtain ⟨k0, k1, k2, k3, k4, k5, k6, k7⟩ := hV.1
    first | (go_simp; done) | (go_simp; with_reducible rfl)
  try simp only [Act.put, List.setIfInBounds_toArray, List.set_cons_zero, List.set_cons_succ]
  refine wpAnyH_take (i := 7) (v := ?_) (by simp only [List.getElem?_toArray, List.getElem?_cons_zero, List.getElem?_cons_succ]; rfl) (by kernel_rfl) (by kernel_rfl) (by kernel_rfl) (fun _ _ _ h => h) (Or.inl ⟨by rfl, ?_⟩) (by assumption) ?_
  rotate_left
  · intro V hV
    obtain ⟨k0, k1, k2, k3, k4, k5, k6, k7⟩ := hV.1
    first | (go_simp; done) | (go_simp; with_reducible rfl)
  try simp only [Act.put, List.setIfInBounds_toArray, List.set_cons_zero, List.set_cons_succ]
  refine wpAnyH_ready (rs := [3]) (by kernel_rfl) (by simp) ?_
  refine AllReadyH.cons (by simp only [List.getElem?_toArray, List.getElem?_cons_zero, List.getElem?_cons_succ]; rfl) (fun K hK => ?_) AllReadyH.nil
  have hOld := hHeld
  go_simp
  refine hK.out _ _ ?_ (fun hNew => ?_)
  · (first | assumption | (refine SU.drew (w := w) (p := p) (g := g) (a := a) ?_; assumption) | (refine SU.alloc (w := w) (p := p) (g := g) (a := a) ?_ _; assumption) | (refine SU.drew (w := w) (p := p) (g := g) (a := a) (SU.alloc ?_ _); assumption))
  clear hK K hHeld hOld
  have hHeld := hNew
  clear hNew
  try simp only [Act.put, List.setIfInBounds_toArray, List.set_cons_zero, List.set_cons_succ]
  refine wpAnyH_ready (rs := [4]) (by kernel_rfl) (by simp) ?_
  refine AllReadyH.cons (by simp only [List.getElem?_toArray, List.getElem?_cons_zero, List.getElem?_cons_succ]; rfl) (fun K hK => ?_) AllReadyH.nil
  have hOld := hHeld
  go_simp
  refine hK.out _ _ ?_ (fun hNew => ?_)
  · (first | assumption | (refine SU.drew (w := w) (p := p) (g := g) (a := a) ?_; assumption) | (refine SU.alloc (w := w) (p := p) (g := g) (a := a) ?_ _; assumption) | (refine SU.drew (w := w) (p := p) (g := g) (a := a) (SU.alloc ?_ _); assumption))
  clear hK K hHeld hOld
  have hHeld := hNew
  clear hNew
  try simp only [Act.put, List.setIfInBounds_toArray, List.set_cons_zero, List.set_cons_succ]
  refine wpAnyH_ready (rs := [8]) (by kernel_rfl) (by simp) ?_
  refine AllReadyH.cons (by simp only [List.getElem?_toArray, List.getElem?_cons_zero, List.getElem?_cons_succ]; rfl) (fun K hK => ?_) AllReadyH.nil
  have hOld := hHeld
  go_simp
  go_at_call 31; (with_reducible refine (st_U (w := w) (p := p) (g := g) ?_ _ ?_ _ _ ?_).mono ?_); (assumption); (first | exact bys_lay usherT (by decide) _ _ rfl | exact Bys.below (bys_lay usherT (by decide) _ _ rfl) (below_drew _)); (unfold I64; decide); rintro e w' ⟨rfl, hS⟩
  refine hK.out _ _ ?_ (fun hNew => ?_)
  · (first | assumption | (refine SU.drew (w := w) (p := p) (g := g) (a := a) ?_; assumption) | (refine SU.alloc (w := w) (p := p) (g := g) (a := a) ?_ _; assumption) | (refine SU.drew (w := w) (p := p) (g := g) (a := a) (SU.alloc ?_ _); assumption))
  clear hK K hHeld hOld
  have hHeld := hNew
  clear hNew
  try simp only [Act.put, List.setIfInBounds_toArray, List.set_cons_zero, List.set_cons_succ]
  refine wpAnyH_take (i := 9) (v := ?_) (by simp only [List.getElem?_toArray, List.getElem?_cons_zero, List.getElem?_cons_succ]; rfl) (by kernel_rfl) (by kernel_rfl) (by kernel_rfl) (fun _ _ _ h => h) (Or.inl ⟨by rfl, ?_⟩) (by assumption) ?_
  rotate_left
  · intro V hV
    obtain ⟨k0, k1, k2, k3, k4, k5, k6, k7⟩ := hV.1
    first | (go_simp; done) | (go_simp; with_reducible rfl)
  try simp only [Act.put, List.setIfInBounds_toArray, List.set_cons_zero, List.set_cons_succ]
  refine wpAnyH_take (i := 10) (v := ?_) (by simp only [List.getElem?_toArray, List.getElem?_cons_zero, List.getElem?_cons_succ]; rfl) (by kernel_rfl) (by kernel_rfl) (by kernel_rfl) (fun _ _ _ h => h) (Or.inl ⟨by rfl, ?_⟩) (by assumption) ?_
  rotate_left
  · intro V hV
    obtain ⟨k0, k1, k2, k3, k4, k5, k6, k7⟩ := hV.1
    first | (go_simp; done) | (go_simp; with_reducible rfl)
  try simp only [Act.put, List.setIfInBounds_toArray, List.set_cons_zero, List.set_cons_succ]
  refine wpAnyH_take (i := 11) (v := ?_) (by simp only [List.getElem?_toArray, List.getElem?_cons_zero, List.getElem?_cons_succ]; rfl) (by kernel_rfl) (by kernel_rfl) (by kernel_rfl) (fun _ _ _ h => h) (Or.inl ⟨by rfl, ?_⟩) (by assumption) ?_
  rotate_left
  · intro V hV
    obtain ⟨k0, k1, k2, k3, k4, k5, k6, k7⟩ := hV.1
    first | (go_simp; done) | (go_simp; with_reducible rfl)
  try simp only [Act.put, List.setIfInBounds_toArray, List.set_cons_zero, List.set_cons_succ]
  refine wpAnyH_take (i := 14) (v := ?_) (by simp only [List.getElem?_toArray, List.getElem?_cons_zero, List.getElem?_cons_succ]; rfl) (by kernel_rfl) (by kernel_rfl) (by kernel_rfl) (fun _ _ _ h => h) (Or.inl ⟨by rfl, ?_⟩) (by assumption) ?_
  rotate_left
  · intro V hV
    obtain ⟨k0, k1, k2, k3, k4, k5, k6, k7⟩ := hV.1
    first | (go_simp; done) | (go_simp; with_reducible rfl)
  try simp only [Act.put, List.setIfInBounds_toArray, List.set_cons_zero, List.set_cons_succ]
  refine wpAnyH_ready (rs := [12]) (by kernel_rfl) (by simp) ?_
  refine AllReadyH.cons (by simp only [List.getElem?_toArray, List.getElem?_cons_zero, List.getElem?_cons_succ]; rfl) (fun K hK => ?_) AllReadyH.nil
  have hOld := hHeld
  go_simp
  refine hK.out _ _ ?_ (fun hNew => ?_)
  · (first | assumption | (refine SU.drew (w := w) (p := p) (g := g) (a := a) ?_; assumption) | (refine SU.alloc (w := w) (p := p) (g := g) (a := a) ?_ _; assumption) | (refine SU.drew (w := w) (p := p) (g := g) (a := a) (SU.alloc ?_ _); assumption))
  clear hK K hHeld hOld
  have hHeld := hNew
  clear hNew
  try simp only [Act.put, List.setIfInBounds_toArray, List.set_cons_zero, List.set_cons_succ]
  refine wpAnyH_ready (rs := [13]) (by kernel_rfl) (by simp) ?_
  refine AllReadyH.cons (by simp only [List.getElem?_toArray, List.getElem?_cons_zero, List.getElem?_cons_succ]; rfl) (fun K hK => ?_) AllReadyH.nil
  have hOld := hHeld
  go_simp
  refine hK.out _ _ ?_ (fun hNew => ?_)
  · (first | assumption | (refine SU.drew (w := w) (p := p) (g := g) (a := a) ?_; assumption) | (refine SU.alloc (w := w) (p := p) (g := g) (a := a) ?_ _; assumption) | (refine SU.drew (w := w) (p := p) (g := g) (a := a) (SU.alloc ?_ _); assumption))
  clear hK K hHeld hOld
  have hHeld := hNew
  clear hNew
  try simp only [Act.put, List.setIfInBounds_toArray, List.set_cons_zero, List.set_cons_succ]
  refine wpAnyH_ready (rs := [15]) (by kernel_rfl) (by simp) ?_
  refine AllReadyH.cons (by simp only [List.getElem?_toArray, List.getElem?_cons_zero, List.getElem?_cons_succ]; rfl) (fun K hK => ?_) AllReadyH.nil
  have hOld := hHeld
  go_simp
  go_at_call 31; (with_reducible refine (st_U (w := w) (p := p) (g := g) ?_ _ ?_ _ _ ?_).mono ?_); (assumption); (first | exact bys_lay usherT (by decide) _ _ rfl | exact Bys.below (bys_lay usherT (by decide) _ _ rfl) (below_drew _)); (unfold I64; decide); rintro e w' ⟨rfl, hS⟩
  refine hK.out _ _ ?_ (fun hNew => ?_)
  · (first | assumption | (refine SU.drew (w := w) (p := p) (g := g) (a := a) ?_; assumption) | (refine SU.alloc (w := w) (p := p) (g := g) (a := a) ?_ _; assumption) | (refine SU.drew (w := w) (p := p) (g := g) (a := a) (SU.alloc ?_ _); assumption))
  clear hK K hHeld hOld
  have hHeld := hNew
  clear hNew
  try simp only [Act.put, List.setIfInBounds_toArray, List.set_cons_zero, List.set_cons_succ]
  refine wpAnyH_take (i := 16) (v := ?_) (by simp only [List.getElem?_toArray, List.getElem?_cons_zero, List.getElem?_cons_succ]; rfl) (by kernel_rfl) (by kernel_rfl) (by kernel_rfl) (fun _ _ _ h => h) (Or.inl ⟨by rfl, ?_⟩) (by assumption) ?_
  rotate_left
  · intro V hV
    obtain ⟨k0, k1, k2, k3, k4, k5, k6, k7⟩ := hV.1
    first | (go_simp; done) | (go_simp; with_reducible rfl)
  try simp only [Act.put, List.setIfInBounds_toArray, List.set_cons_zero, List.set_cons_succ]
  refine wpAnyH_take (i := 17) (v := ?_) (by simp only [List.getElem?_toArray, List.getElem?_cons_zero, List.getElem?_cons_succ]; rfl) (by kernel_rfl) (by kernel_rfl) (by kernel_rfl) (fun _ _ _ h => h) (Or.inl ⟨by rfl, ?_⟩) (by assumption) ?_
  rotate_left
  · intro V hV
    obtain ⟨k0, k1, k2, k3, k4, k5, k6, k7⟩ := hV.1
    first | (go_simp; done) | (go_simp; with_reducible rfl)
  try simp only [Act.put, List.setIfInBounds_toArray, List.set_cons_zero, List.set_cons_succ]
  refine wpAnyH_take (i := 18) (v := ?_) (by simp only [List.getElem?_toArray, List.getElem?_cons_zero, List.getElem?_cons_succ]; rfl) (by kernel_rfl) (by kernel_rfl) (by kernel_rfl) (fun _ _ _ h => h) (Or.inl ⟨by rfl, ?_⟩) (by assumption) ?_
  rotate_left
  · intro V hV
    obtain ⟨k0, k1, k2, k3, k4, k5, k6, k7⟩ := hV.1
    first | (go_simp; done) | (go_simp; with_reducible rfl)
  try simp only [Act.put, List.setIfInBounds_toArray, List.set_cons_zero, List.set_cons_succ]
  refine wpAnyH_take (i := 19) (v := ?_) (by simp only [List.getElem?_toArray, List.getElem?_cons_zero, List.getElem?_cons_succ]; rfl) (by kernel_rfl) (by kernel_rfl) (by kernel_rfl) (fun _ _ _ h => h) (Or.inl ⟨by rfl, ?_⟩) (by assumption) ?_
  rotate_left
  · intro V hV
    obtain ⟨k0, k1, k2, k3, k4, k5, k6, k7⟩ := hV.1
    first | (go_simp; done) | (go_simp; with_reducible rfl)
  try simp only [Act.put, List.setIfInBounds_toArray, List.set_cons_zero, List.set_cons_succ]
  refine wpAnyH_take (i := 20) (v := ?_) (by simp only [List.getElem?_toArray, List.getElem?_cons_zero, List.getElem?_cons_succ]; rfl) (by kernel_rfl) (by kernel_rfl) (by kernel_rfl) (fun _ _ _ h => h) (Or.inl ⟨by rfl, ?_⟩) (by assumption) ?_
  rotate_left
  · intro V hV
    obtain ⟨k0, k1, k2, k3, k4, k5, k6, k7⟩ := hV.1
    first | (go_simp; done) | (go_simp; with_reducible rfl)
  try simp only [Act.put, List.setIfInBounds_toArray, List.set_cons_zero, List.set_cons_succ]
  refine wpAnyH_take (i := 21) (v := ?_) (by simp only [List.getElem?_toArray, List.getElem?_cons_zero, List.getElem?_cons_succ]; rfl) (by kernel_rfl) (by kernel_rfl) (by kernel_rfl) (fun _ _ _ h => h) (Or.inl ⟨by rfl, ?_⟩) (by assumption) ?_
  rotate_left
  · intro V hV
    obtain ⟨k0, k1, k2, k3, k4, k5, k6, k7⟩ := hV.1
    first | (go_simp; done) | (go_simp; with_reducible rfl)
  try simp only [Act.put, List.setIfInBounds_toArray, List.set_cons_zero, List.set_cons_succ]
  refine wpAnyH_take (i := 22) (v := ?_) (by simp only [List.getElem?_toArray, List.getElem?_cons_zero, List.getElem?_cons_succ]; rfl) (by kernel_rfl) (by kernel_rfl) (by kernel_rfl) (fun _ _ _ h => h) (Or.inl ⟨by rfl, ?_⟩) (by assumption) ?_
  rotate_left
  · intro V hV
    obtain ⟨k0, k1, k2, k3, k4, k5, k6, k7⟩ := hV.1
    first | (go_simp; done) | (go_simp; with_reducible rfl)
  try simp only [Act.put, List.setIfInBounds_toArray, List.set_cons_zero, List.set_cons_succ]
  refine wpAnyH_take (i := 23) (v := ?_) (by simp only [List.getElem?_toArray, List.getElem?_cons_zero, List.getElem?_cons_succ]; rfl) (by kernel_rfl) (by kernel_rfl) (by kernel_rfl) (fun _ _ _ h => h) (Or.inl ⟨by rfl, ?_⟩) (by assumption) ?_
  rotate_left
  · intro V hV
    obtain ⟨k0, k1, k2, k3, k4, k5, k6, k7⟩ := hV.1
    first | (go_simp; done) | (go_simp; with_reducible rfl)
  try simp only [Act.put, List.setIfInBounds_toArray, List.set_cons_zero, List.set_cons_succ]
  refine wpAnyH_take (i := 24) (v := ?_) (by simp only [List.getElem?_toArray, List.getElem?_cons_zero, List.getElem?_cons_succ]; rfl) (by kernel_rfl) (by kernel_rfl) (by kernel_rfl) (fun _ _ _ h => h) (Or.inl ⟨by rfl, ?_⟩) (by assumption) ?_
  rotate_left
  · intro V hV
    obtain ⟨k0, k1, k2, k3, k4, k5, k6, k7⟩ := hV.1
    first | (go_simp; done) | (go_simp; with_reducible rfl)
  try simp only [Act.put, List.setIfInBounds_toArray, List.set_cons_zero, List.set_cons_succ]
  refine wpAnyH_take (i := 25) (v := ?_) (by simp only [List.getElem?_toArray, List.getElem?_cons_zero, List.getElem?_cons_succ]; rfl) (by kernel_rfl) (by kernel_rfl) (by kernel_rfl) (fun _ _ _ h => h) (Or.inl ⟨by rfl, ?_⟩) (by assumption) ?_
  rotate_left
  · intro V hV
    obtain ⟨k0, k1, k2, k3, k4, k5, k6, k7⟩ := hV.1
    first | (go_simp; done) | (go_simp; with_reducible rfl)
  try simp only [Act.put, List.setIfInBounds_toArray, List.set_cons_zero, List.set_cons_succ]
  refine wpAnyH_ready (rs := [26]) (by kernel_rfl) (by simp) ?_
  refine AllReadyH.cons (by simp only [List.getElem?_toArray, List.getElem?_cons_zero, List.getElem?_cons_succ]; rfl) (fun K hK => ?_) AllReadyH.nil
  have hOld := hHeld
  go_simp
  go_at_call 33; (with_reducible refine (ls_U (w := w) (p := p) (g := g) ?_ _ _ _ _).mono ?_); (assumption); rintro e w' ⟨rfl, hS⟩
  refine hK.out _ _ ?_ (fun hNew => ?_)
  · (first | assumption | (refine SU.drew (w := w) (p := p) (g := g) (a := a) ?_; assumption) | (refine SU.alloc (w := w) (p := p) (g := g) (a := a) ?_ _; assumption) | (refine SU.drew (w := w) (p := p) (g := g) (a := a) (SU.alloc ?_ _); assumption))
  clear hK K hHeld hOld
  have hHeld := hNew
  clear hNew
  try simp only [Act.put, List.setIfInBounds_toArray, List.set_cons_zero, List.set_cons_succ]
  refine wpAnyH_take (i := 27) (v := ?_) (by simp only [List.getElem?_toArray, List.getElem?_cons_zero, List.getElem?_cons_succ]; rfl) (by kernel_rfl) (by kernel_rfl) (by kernel_rfl) (fun _ _ _ h => h) (Or.inl ⟨by rfl, ?_⟩) (by assumption) ?_
  rotate_left
  · intro V hV
    obtain ⟨k0, k1, k2, k3, k4, k5, k6, k7⟩ := hV.1
    first | (go_simp; done) | (go_simp; with_reducible rfl)
  try simp only [Act.put, List.setIfInBounds_toArray, List.set_cons_zero, List.set_cons_succ]
  refine wpAnyH_take (i := 28) (v := ?_) (by simp only [List.getElem?_toArray, List.getElem?_cons_zero, List.getElem?_cons_succ]; rfl) (by kernel_rfl) (by kernel_rfl) (by kernel_rfl) (fun _ _ _ h => h) (Or.inl ⟨by rfl, ?_⟩) (by assumption) ?_
  rotate_left
  · intro V hV
    obtain ⟨k0, k1, k2, k3, k4, k5, k6, k7⟩ := hV.1
    first | (go_simp; done) | (go_simp; with_reducible rfl)
  try simp only [Act.put, List.setIfInBounds_toArray, List.set_cons_zero, List.set_cons_succ]
  refine wpAnyH_take (i := 29) (v := ?_) (by simp only [List.getElem?_toArray, List.getElem?_cons_zero, List.getElem?_cons_succ]; rfl) (by kernel_rfl) (by kernel_rfl) (by kernel_rfl) (fun _ _ _ h => h) (Or.inl ⟨by rfl, ?_⟩) (by assumption) ?_
  rotate_left
  · intro V hV
    obtain ⟨k0, k1, k2, k3, k4, k5, k6, k7⟩ := hV.1
    first | (go_simp; done) | (go_simp; with_reducible rfl)
  try simp only [Act.put, List.setIfInBounds_toArray, List.set_cons_zero, List.set_cons_succ]
  refine wpAnyH_take (i := 30) (v := ?_) (by simp only [List.getElem?_toArray, List.getElem?_cons_zero, List.getElem?_cons_succ]; rfl) (by kernel_rfl) (by kernel_rfl) (by kernel_rfl) (fun _ _ _ h => h) (Or.inl ⟨by rfl, ?_⟩) (by assumption) ?_
  rotate_left
  · intro V hV
    obtain ⟨k0, k1, k2, k3, k4, k5, k6, k7⟩ := hV.1
    first | (go_simp; done) | (go_simp; with_reducible rfl)
  try simp only [Act.put, List.setIfInBounds_toArray, List.set_cons_zero, List.set_cons_succ]
  refine wpAnyH_take (i := 31) (v := ?_) (by simp only [List.getElem?_toArray, List.getElem?_cons_zero, List.getElem?_cons_succ]; rfl) (by kernel_rfl) (by kernel_rfl) (by kernel_rfl) (fun _ _ _ h => h) (Or.inl ⟨by rfl, ?_⟩) (by assumption) ?_
  rotate_left
  · intro V hV
    obtain ⟨k0, k1, k2, k3, k4, k5, k6, k7⟩ := hV.1
    first | (go_simp; done) | (go_simp; with_reducible rfl)
  try simp only [Act.put, List.setIfInBounds_toArray, List.set_cons_zero, List.set_cons_succ]
  refine wpAnyH_take (i := 32) (v := ?_) (by simp only [List.getElem?_toArray, List.getElem?_cons_zero, List.getElem?_cons_succ]; rfl) (by kernel_rfl) (by kernel_rfl) (by kernel_rfl) (fun _ _ _ h => h) (Or.inl ⟨by rfl, ?_⟩) (by assumption) ?_
  rotate_left
  · intro V hV
    obtain ⟨k0, k1, k2, k3, k4, k5, k6, k7⟩ := hV.1
    first | (go_simp; done) | (go_simp; with_reducible rfl)
  try simp only [Act.put, List.setIfInBounds_toArray, List.set_cons_zero, List.set_cons_succ]
  refine wpAnyH_take (i := 33) (v := ?_) (by simp only [List.getElem?_toArray, List.getElem?_cons_zero, List.getElem?_cons_succ]; rfl) (by kernel_rfl) (by kernel_rfl) (by kernel_rfl) (fun _ _ _ h => h) (Or.inl ⟨by rfl, ?_⟩) (by assumption) ?_
  rotate_left
  · intro V hV
    obtain ⟨k0, k1, k2, k3, k4, k5, k6, k7⟩ := hV.1
    first | (go_simp; done) | (go_simp; with_reducible rfl)
  try simp only [Act.put, List.setIfInBounds_toArray, List.set_cons_zero, List.set_cons_succ]
  refine wpAnyH_take (i := 34) (v := ?_) (by simp only [List.getElem?_toArray, List.getElem?_cons_zero, List.getElem?_cons_succ]; rfl) (by kernel_rfl) (by kernel_rfl) (by kernel_rfl) (fun _ _ _ h => h) (Or.inl ⟨by rfl, ?_⟩) (by assumption) ?_
  rotate_left
  · intro V hV
    obtain ⟨k0, k1, k2, k3, k4, k5, k6, k7⟩ := hV.1
    first | (go_simp; done) | (go_simp; with_reducible rfl)
  try simp only [Act.put, List.setIfInBounds_toArray, List.set_cons_zero, List.set_cons_succ]
  refine wpAnyH_take (i := 35) (v := ?_) (by simp only [List.getElem?_toArray, List.getElem?_cons_zero, List.getElem?_cons_succ]; rfl) (by kernel_rfl) (by kernel_rfl) (by kernel_rfl) (fun _ _ _ h => h) (Or.inl ⟨by rfl, ?_⟩) (by assumption) ?_
  rotate_left
  · intro V hV
    obtain ⟨k0, k1, k2, k3, k4, k5, k6, k7⟩ := hV.1
    first | (go_simp; done) | (go_simp; with_reducible rfl)
  try simp only [Act.put, List.setIfInBounds_toArray, List.set_cons_zero, List.set_cons_succ]
  refine wpAnyH_ready (rs := [36]) (by kernel_rfl) (by simp) ?_
  refine AllReadyH.cons (by simp only [List.getElem?_toArray, List.getElem?_cons_zero, List.getElem?_cons_succ]; rfl) (fun K hK => ?_) AllReadyH.nil
  have hOld := hHeld
  go_simp
  go_at_call 33; (with_reducible refine (ls_U (w := w) (p := p) (g := g) ?_ _ _ _ _).mono ?_); (assumption); rintro e w' ⟨rfl, hS⟩
  refine hK.out _ _ ?_ (fun hNew => ?_)
  · (first | assumption | (refine SU.drew (w := w) (p := p) (g := g) (a := a) ?_; assumption) | (refine SU.alloc (w := w) (p := p) (g := g) (a := a) ?_ _; assumption) | (refine SU.drew (w := w) (p := p) (g := g) (a := a) (SU.alloc ?_ _); assumption))
  clear hK K hHeld hOld
  have hHeld := hNew
  clear hNew
  try simp only [Act.put, List.setIfInBounds_toArray, List.set_cons_zero, List.set_cons_succ]
  refine wpAnyH_take (i := 37) (v := ?_) (by simp only [List.getElem?_toArray, List.getElem?_cons_zero, List.getElem?_cons_succ]; rfl) (by kernel_rfl) (by kernel_rfl) (by kernel_rfl) (fun _ _ _ h => h) (Or.inl ⟨by rfl, ?_⟩) (by assumption) ?_
  rotate_left
  · intro V hV
    obtain ⟨k0, k1, k2, k3, k4, k5, k6, k7⟩ := hV.1
    first | (go_simp; done) | (go_simp; with_reducible rfl)
  try simp only [Act.put, List.setIfInBounds_toArray, List.set_cons_zero, List.set_cons_succ]
  refine wpAnyH_take (i := 38) (v := ?_) (by simp only [List.getElem?_toArray, List.getElem?_cons_zero, List.getElem?_cons_succ]; rfl) (by kernel_rfl) (by kernel_rfl) (by kernel_rfl) (fun _ _ _ h => h) (Or.inl ⟨by rfl, ?_⟩) (by assumption) ?_
  rotate_left
  · intro V hV
    obtain ⟨k0, k1, k2, k3, k4, k5, k6, k7⟩ := hV.1
    first | (go_simp; done) | (go_simp; with_reducible rfl)
  try simp only [Act.put, List.setIfInBounds_toArray, List.set_cons_zero, List.set_cons_succ]
  refine wpAnyH_take (i := 39) (v := ?_) (by simp only [List.getElem?_toArray, List.getElem?_cons_zero, List.getElem?_cons_succ]; rfl) (by kernel_rfl) (by kernel_rfl) (by kernel_rfl) (fun _ _ _ h => h) (Or.inl ⟨by rfl, ?_⟩) (by assumption) ?_
  rotate_left
  · intro V hV
    obtain ⟨k0, k1, k2, k3, k4, k5, k6, k7⟩ := hV.1
    first | (go_simp; done) | (go_simp; with_reducible rfl)
  try simp only [Act.put, List.setIfInBounds_toArray, List.set_cons_zero, List.set_cons_succ]
  refine wpAnyH_take (i := 40) (v := ?_) (by simp only [List.getElem?_toArray, List.getElem?_cons_zero, List.getElem?_cons_succ]; rfl) (by kernel_rfl) (by kernel_rfl) (by kernel_rfl) (fun _ _ _ h => h) (Or.inl ⟨by rfl, ?_⟩) (by assumption) ?_
  rotate_left
  · intro V hV
    obtain ⟨k0, k1, k2, k3, k4, k5, k6, k7⟩ := hV.1
    first | (go_simp; done) | (go_simp; with_reducible rfl)
  try simp only [Act.put, List.setIfInBounds_toArray, List.set_cons_zero, List.set_cons_succ]
  refine wpAnyH_take (i := 41) (v := ?_) (by simp only [List.getElem?_toArray, List.getElem?_cons_zero, List.getElem?_cons_succ]; rfl) (by kernel_rfl) (by kernel_rfl) (by kernel_rfl) (fun _ _ _ h => h) (Or.inl ⟨by rfl, ?_⟩) (by assumption) ?_
  rotate_left
  · intro V hV
    obtain ⟨k0, k1, k2, k3, k4, k5, k6, k7⟩ := hV.1
    first | (go_simp; done) | (go_simp; with_reducible rfl)
  try simp only [Act.put, List.setIfInBounds_toArray, List.set_cons_zero, List.set_cons_succ]
  refine wpAnyH_ready (rs := [42]) (by kernel_rfl) (by simp) ?_
  refine AllReadyH.cons (by simp only [List.getElem?_toArray, List.getElem?_cons_zero, List.getElem?_cons_succ]; rfl) (fun K hK => ?_) AllReadyH.nil
  have hOld := hHeld
  go_simp
  go_at_call 35; (with_reducible refine (ri_U1 (w := w) (p := p) (g := g) ?_ _).mono ?_); (assumption); rintro e w' ⟨rfl, hS⟩
  refine hK.out _ _ ?_ (fun hNew => ?_)
  · (first | assumption | (refine SU.drew (w := w) (p := p) (g := g) (a := a) ?_; assumption) | (refine SU.alloc (w := w) (p := p) (g := g) (a := a) ?_ _; assumption) | (refine SU.drew (w := w) (p := p) (g := g) (a := a) (SU.alloc ?_ _); assumption))
  clear hK K hHeld hOld
  have hHeld := hNew
  clear hNew
  try simp only [Act.put, List.setIfInBounds_toArray, List.set_cons_zero, List.set_cons_succ]
  refine wpAnyH_take (i := 43) (v := ?_) (by simp only [List.getElem?_toArray, List.getElem?_cons_zero, List.getElem?_cons_succ]; rfl) (by kernel_rfl) (by kernel_rfl) (by kernel_rfl) (fun _ _ _ h => h) (Or.inl ⟨by rfl, ?_⟩) (by assumption) ?_
  rotate_left
  · intro V hV
    obtain ⟨k0, k1, k2, k3, k4, k5, k6, k7⟩ := hV.1
    first | (go_simp; done) | (go_simp; with_reducible rfl)
  try simp only [Act.put, List.setIfInBounds_toArray, List.set_cons_zero, List.set_cons_succ]
  refine wpAnyH_take (i := 44) (v := ?_) (by simp only [List.getElem?_toArray, List.getElem?_cons_zero, List.getElem?_cons_succ]; rfl) (by kernel_rfl) (by kernel_rfl) (by kernel_rfl) (fun _ _ _ h => h) (Or.inl ⟨by rfl, ?_⟩) (by assumption) ?_
  rotate_left
  · intro V hV
    obtain ⟨k0, k1, k2, k3, k4, k5, k6, k7⟩ := hV.1
    first | (go_simp; done) | (go_simp; with_reducible rfl)
  try simp only [Act.put, List.setIfInBounds_toArray, List.set_cons_zero, List.set_cons_succ]
  refine wpAnyH_take (i := 45) (v := ?_) (by simp only [List.getElem?_toArray, List.getElem?_cons_zero, List.getElem?_cons_succ]; rfl) (by kernel_rfl) (by kernel_rfl) (by kernel_rfl) (fun _ _ _ h => h) (Or.inl ⟨by rfl, ?_⟩) (by assumption) ?_
  rotate_left
  · intro V hV
    obtain ⟨k0, k1, k2, k3, k4, k5, k6, k7⟩ := hV.1
    first | (go_simp; done) | (go_simp; with_reducible rfl)
  try simp only [Act.put, List.setIfInBounds_toArray, List.set_cons_zero, List.set_cons_succ]
  refine wpAnyH_take (i := 46) (v := ?_) (by simp only [List.getElem?_toArray, List.getElem?_cons_zero, List.getElem?_cons_succ]; rfl) (by kernel_rfl) (by kernel_rfl) (by kernel_rfl) (fun _ _ _ h => h) (Or.inl ⟨by rfl, ?_⟩) (by assumption) ?_
  rotate_left
  · intro V hV
    obtain ⟨k0, k1, k2, k3, k4, k5, k6, k7⟩ := hV.1
    first | (go_simp; done) | (go_simp; with_reducible rfl)
  try simp only [Act.put, List.setIfInBounds_toArray, List.set_cons_zero, List.set_cons_succ]
  refine wpAnyH_take (i := 47) (v := ?_) (by simp only [List.getElem?_toArray, List.getElem?_cons_zero, List.getElem?_cons_succ]; rfl) (by kernel_rfl) (by kernel_rfl) (by kernel_rfl) (fun _ _ _ h => h) (Or.inl ⟨by rfl, ?_⟩) (by assumption) ?_
  rotate_left
  · intro V hV
    obtain ⟨k0, k1, k2, k3, k4, k5, k6, k7⟩ := hV.1
    first | (go_simp; done) | (go_simp; with_reducible rfl)
  try simp only [Act.put, List.setIfInBounds_toArray, List.set_cons_zero, List.set_cons_succ]
  refine wpAnyH_take (i := 48) (v := ?_) (by simp only [List.getElem?_toArray, List.getElem?_cons_zero, List.getElem?_cons_succ]; rfl) (by kernel_rfl) (by kernel_rfl) (by kernel_rfl) (fun _ _ _ h => h) (Or.inl ⟨by rfl, ?_⟩) (by assumption) ?_
  rotate_left
  · intro V hV
    obtain ⟨k0, k1, k2, k3, k4, k5, k6, k7⟩ := hV.1
    first | (go_simp; done) | (go_simp; with_reducible rfl)
  try simp only [Act.put, List.setIfInBounds_toArray, List.set_cons_zero, List.set_cons_succ]
  refine wpAnyH_take (i := 49) (v := ?_) (by simp only [List.getElem?_toArray, List.getElem?_cons_zero, List.getElem?_cons_succ]; rfl) (by kernel_rfl) (by kernel_rfl) (by kernel_rfl) (fun _ _ _ h => h) (Or.inl ⟨by rfl, ?_⟩) (by assumption) ?_
  rotate_left
  · intro V hV
    obtain ⟨k0, k1, k2, k3, k4, k5, k6, k7⟩ := hV.1
    first | (go_simp; done) | (go_simp; with_reducible rfl)
  try simp only [Act.put, List.setIfInBounds_toArray, List.set_cons_zero, List.set_cons_succ]
  refine wpAnyH_take (i := 50) (v := ?_) (by simp only [List.getElem?_toArray, List.getElem?_cons_zero, List.getElem?_cons_succ]; rfl) (by kernel_rfl) (by kernel_rfl) (by kernel_rfl) (fun _ _ _ h => h) (Or.inl ⟨by rfl, ?_⟩) (by assumption) ?_
  rotate_left
  · intro V hV
    obtain ⟨k0, k1, k2, k3, k4, k5, k6, k7⟩ := hV.1
    first | (go_simp; done) | (go_simp; with_reducible rfl)
  try simp only [Act.put, List.setIfInBounds_toArray, List.set_cons_zero, List.set_cons_succ]
  refine wpAnyH_take (i := 51) (v := ?_) (by simp only [List.getElem?_toArray, List.getElem?_cons_zero, List.getElem?_cons_succ]; rfl) (by kernel_rfl) (by kernel_rfl) (by kernel_rfl) (fun _ _ _ h => h) (Or.inl ⟨by rfl, ?_⟩) (by assumption) ?_
  rotate_left
  · intro V hV
    obtain ⟨k0, k1, k2, k3, k4, k5, k6, k7⟩ := hV.1
    first | (go_simp; done) | (go_simp; with_reducible rfl)
  try simp only [Act.put, List.setIfInBounds_toArray, List.set_cons_zero, List.set_cons_succ]
  refine wpAnyH_ready (rs := [52]) (by kernel_rfl) (by simp) ?_
  refine AllReadyH.cons (by simp only [List.getElem?_toArray, List.getElem?_cons_zero, List.getElem?_cons_succ]; rfl) (fun K hK => ?_) AllReadyH.nil
  have hOld := hHeld
  go_simp
  refine hK.out _ _ ?_ (fun hNew => ?_)
  · (first | assumption | (refine SU.drew (w := w) (p := p) (g := g) (a := a) ?_; assumption) | (refine SU.alloc (w := w) (p := p) (g := g) (a := a) ?_ _; assumption) | (refine SU.drew (w := w) (p := p) (g := g) (a := a) (SU.alloc ?_ _); assumption))
  clear hK K hHeld hOld
  have hHeld := hNew
  clear hNew
  try simp only [Act.put, List.setIfInBounds_toArray, List.set_cons_zero, List.set_cons_succ]
  refine wpAnyH_ready (rs := [53]) (by kernel_rfl) (by simp) ?_
  refine AllReadyH.cons (by simp only [List.getElem?_toArray, List.getElem?_cons_zero, List.getElem?_cons_succ]; rfl) (fun K hK => ?_) AllReadyH.nil
  have hOld := hHeld
  go_simp
  go_at_call 35; (with_reducible refine (ri_U2 (w := w) (p := p) (g := g) ?_ _ ?_).mono ?_); (assumption); (exact hts_lay [(14, 1), (14, 1)] (by unfold I64; decide) rfl); rintro e w' ⟨rfl, hS⟩
  refine hK.out _ _ ?_ (fun hNew => ?_)
  · (first | assumption | (refine SU.drew (w := w) (p := p) (g := g) (a := a) ?_; assumption) | (refine SU.alloc (w := w) (p := p) (g := g) (a := a) ?_ _; assumption) | (refine SU.drew (w := w) (p := p) (g := g) (a := a) (SU.alloc ?_ _); assumption))
  clear hK K hHeld hOld
  have hHeld := hNew
  clear hNew
  try simp only [Act.put, List.setIfInBounds_toArray, List.set_cons_zero, List.set_cons_succ]
  refine wpAnyH_take (i := 54) (v := ?_) (by simp only [List.getElem?_toArray, List.getElem?_cons_zero, List.getElem?_cons_succ]; rfl) (by kernel_rfl) (by kernel_rfl) (by kernel_rfl) (fun _ _ _ h => h) (Or.inl ⟨by rfl, ?_⟩) (by assumption) ?_
  rotate_left
  · intro V hV
    obtain ⟨k0, k1, k2, k3, k4, k5, k6, k7⟩ := hV.1
    first | (go_simp; done) | (go_simp; with_reducible rfl)
  try simp only [Act.put, List.setIfInBounds_toArray, List.set_cons_zero, List.set_cons_succ]
  refine wpAnyH_take (i := 55) (v := ?_) (by simp only [List.getElem?_toArray, List.getElem?_cons_zero, List.getElem?_cons_succ]; rfl) (by kernel_rfl) (by kernel_rfl) (by kernel_rfl) (fun _ _ _ h => h) (Or.inl ⟨by rfl, ?_⟩) (by assumption) ?_
  rotate_left
  · intro V hV
    obtain ⟨k0, k1, k2, k3, k4, k5, k6, k7⟩ := hV.1
    first | (go_simp; done) | (go_simp; with_reducible rfl)
  try simp only [Act.put, List.setIfInBounds_toArray, List.set_cons_zero, List.set_cons_succ]
  refine wpAnyH_take (i := 56) (v := ?_) (by simp only [List.getElem?_toArray, List.getElem?_cons_zero, List.getElem?_cons_succ]; rfl) (by kernel_rfl) (by kernel_rfl) (by kernel_rfl) (fun _ _ _ h => h) (Or.inl ⟨by rfl, ?_⟩) (by assumption) ?_
  rotate_left
  · intro V hV
    obtain ⟨k0, k1, k2, k3, k4, k5, k6, k7⟩ := hV.1
    first | (go_simp; done) | (go_simp; with_reducible rfl)
  try simp only [Act.put, List.setIfInBounds_toArray, List.set_cons_zero, List.set_cons_succ]
  refine wpAnyH_take (i := 57) (v := ?_) (by simp only [List.getElem?_toArray, List.getElem?_cons_zero, List.getElem?_cons_succ]; rfl) (by kernel_rfl) (by kernel_rfl) (by kernel_rfl) (fun _ _ _ h => h) (Or.inl ⟨by rfl, ?_⟩) (by assumption) ?_
  rotate_left
  · intro V hV
    obtain ⟨k0, k1, k2, k3, k4, k5, k6, k7⟩ := hV.1
    first | (go_simp; done) | (go_simp; with_reducible rfl)
  try simp only [Act.put, List.setIfInBounds_toArray, List.set_cons_zero, List.set_cons_succ]
  refine wpAnyH_take (i := 59) (v := ?_) (by simp only [List.getElem?_toArray, List.getElem?_cons_zero, List.getElem?_cons_succ]; rfl) (by kernel_rfl) (by kernel_rfl) (by kernel_rfl) (fun _ _ _ h => h) (Or.inl ⟨by rfl, ?_⟩) (by assumption) ?_
  rotate_left
  · intro V hV
    obtain ⟨k0, k1, k2, k3, k4, k5, k6, k7⟩ := hV.1
    first | (go_simp; done) | (go_simp; with_reducible rfl)
  try simp only [Act.put, List.setIfInBounds_toArray, List.set_cons_zero, List.set_cons_succ]
  refine wpAnyH_take (i := 60) (v := ?_) (by simp only [List.getElem?_toArray, List.getElem?_cons_zero, List.getElem?_cons_succ]; rfl) (by kernel_rfl) (by kernel_rfl) (by kernel_rfl) (fun _ _ _ h => h) (Or.inl ⟨by rfl, ?_⟩) (by assumption) ?_
  rotate_left
  · intro V hV
    obtain ⟨k0, k1, k2, k3, k4, k5, k6, k7⟩ := hV.1
    first | (go_simp; done) | (go_simp; with_reducible rfl)
  try simp only [Act.put, List.setIfInBounds_toArray, List.set_cons_zero, List.set_cons_succ]
  refine wpAnyH_ready (rs := [58]) (by kernel_rfl) (by simp) ?_
  refine AllReadyH.cons (by simp only [List.getElem?_toArray, List.getElem?_cons_zero, List.getElem?_cons_succ]; rfl) (fun K hK => ?_) AllReadyH.nil
  have hOld := hHeld
  go_simp
  go_at_call 37; (with_reducible refine (bt_U (w := w) (p := p) (g := g) (a := a) ?_ _).mono ?_); (assumption); rintro e w' ⟨b, d, rfl, hbt, hS⟩
  refine hK.out _ _ ?_ (fun hNew => ?_)
  · (first | assumption | (refine SU.drew (w := w) (p := p) (g := g) (a := a) ?_; assumption) | (refine SU.alloc (w := w) (p := p) (g := g) (a := a) ?_ _; assumption) | (refine SU.drew (w := w) (p := p) (g := g) (a := a) (SU.alloc ?_ _); assumption))
  clear hK K hHeld hOld
  have hHeld := hNew
  clear hNew
  try simp only [Act.put, List.setIfInBounds_toArray, List.set_cons_zero, List.set_cons_succ]
  refine wpAnyH_ready (rs := [61]) (by kernel_rfl) (by simp) ?_
  refine AllReadyH.cons (by simp only [List.getElem?_toArray, List.getElem?_cons_zero, List.getElem?_cons_succ]; rfl) (fun K hK => ?_) AllReadyH.nil
  have hOld := hHeld
  go_simp
  go_at_call 40; (with_reducible refine (sm_U (w := w) (p := p) (g := g) (a := a) ?_ _ _ _ _ _ _ [(15, 2)] [(15, 2)] (by assumption) ?_ (by decide)).mono ?_); (assumption); (exact Hts.cut (lo := 2) (m := 1) (UCtx.hts (SU.ctx (by assumption))) (by decide)); rintro e w' ⟨rfl, hS⟩
  refine hK.out _ _ ?_ (fun hNew => ?_)
  · (first | assumption | (refine SU.drew (w := w) (p := p) (g := g) (a := a) ?_; assumption) | (refine SU.alloc (w := w) (p := p) (g := g) (a := a) ?_ _; assumption) | (refine SU.drew (w := w) (p := p) (g := g) (a := a) (SU.alloc ?_ _); assumption))
  clear hK K hHeld hOld
  have hHeld := hNew
  clear hNew
  try simp only [Act.put, List.setIfInBounds_toArray, List.set_cons_zero, List.set_cons_succ]
  refine wpAnyH_take (i := 62) (v := ?_) (by simp only [List.getElem?_toArray, List.getElem?_cons_zero, List.getElem?_cons_succ]; rfl) (by kernel_rfl) (by kernel_rfl) (by kernel_rfl) (fun _ _ _ h => h) (Or.inl ⟨by rfl, ?_⟩) (by assumption) ?_
  rotate_left
  · intro V hV
    obtain ⟨k0, k1, k2, k3, k4, k5, k6, k7⟩ := hV.1
    first | (go_simp; done) | (go_simp; with_reducible rfl)
  try simp only [Act.put, List.setIfInBounds_toArray, List.set_cons_zero, List.set_cons_succ]
  refine wpAnyH_take (i := 63) (v := ?_) (by simp only [List.getElem?_toArray, List.getElem?_cons_zero, List.getElem?_cons_succ]; rfl) (by kernel_rfl) (by kernel_rfl) (by kernel_rfl) (fun _ _ _ h => h) (Or.inl ⟨by rfl, ?_⟩) (by assumption) ?_
  rotate_left
  · intro V hV
    obtain ⟨k0, k1, k2, k3, k4, k5, k6, k7⟩ := hV.1
    first | (go_simp; done) | (go_simp; with_reducible rfl)
  try simp only [Act.put, List.setIfInBounds_toArray, List.set_cons_zero, List.set_cons_succ]
  refine wpAnyH_take (i := 64) (v := ?_) (by simp only [List.getElem?_toArray, List.getElem?_cons_zero, List.getElem?_cons_succ]; rfl) (by kernel_rfl) (by kernel_rfl) (by kernel_rfl) (fun _ _ _ h => h) (Or.inl ⟨by rfl, ?_⟩) (by assumption) ?_
  rotate_left
  · intro V hV
    obtain ⟨k0, k1, k2, k3, k4, k5, k6, k7⟩ := hV.1
    first | (go_simp; done) | (go_simp; with_reducible rfl)
  try simp only [Act.put, List.setIfInBounds_toArray, List.set_cons_zero, List.set_cons_succ]
  refine wpAnyH_take (i := 66) (v := ?_) (by simp only [List.getElem?_toArray, List.getElem?_cons_zero, List.getElem?_cons_succ]; rfl) (by kernel_rfl) (by kernel_rfl) (by kernel_rfl) (fun _ _ _ h => h) (Or.inl ⟨by rfl, ?_⟩) (by assumption) ?_
  rotate_left
  · intro V hV
    obtain ⟨k0, k1, k2, k3, k4, k5, k6, k7⟩ := hV.1
    first | (go_simp; done) | (go_simp; with_reducible rfl)
  try simp only [Act.put, List.setIfInBounds_toArray, List.set_cons_zero, List.set_cons_succ]
  refine wpAnyH_take (i := 67) (v := ?_) (by simp only [List.getElem?_toArray, List.getElem?_cons_zero, List.getElem?_cons_succ]; rfl) (by kernel_rfl) (by kernel_rfl) (by kernel_rfl) (fun _ _ _ h => h) (Or.inl ⟨by rfl, ?_⟩) (by assumption) ?_
  rotate_left
  · intro V hV
    obtain ⟨k0, k1, k2, k3, k4, k5, k6, k7⟩ := hV.1
    first | (go_simp; done) | (go_simp; with_reducible rfl)
  try simp only [Act.put, List.setIfInBounds_toArray, List.set_cons_zero, List.set_cons_succ]
  refine wpAnyH_take (i := 70) (v := ?_) (by simp only [List.getElem?_toArray, List.getElem?_cons_zero, List.getElem?_cons_succ]; rfl) (by kernel_rfl) (by kernel_rfl) (by kernel_rfl) (fun _ _ _ h => h) (Or.inl ⟨by rfl, ?_⟩) (by assumption) ?_
  rotate_left
  · intro V hV
    obtain ⟨k0, k1, k2, k3, k4, k5, k6, k7⟩ := hV.1
    first | (go_simp; done) | (go_simp; with_reducible rfl)
  try simp only [Act.put, List.setIfInBounds_toArray, List.set_cons_zero, List.set_cons_succ]
  refine wpAnyH_ready (rs := [65]) (by kernel_rfl) (by simp) ?_
  refine AllReadyH.cons (by simp only [List.getElem?_toArray, List.getElem?_cons_zero, List.getElem?_cons_succ]; rfl) (fun K hK => ?_) AllReadyH.nil
  have hOld := hHeld
  go_simp
  go_wp2_with fail
  refine hK.out _ _ ?_ (fun hNew => ?_)
  · (first | assumption | (refine SU.drew (w := w) (p := p) (g := g) (a := a) ?_; assumption) | (refine SU.alloc (w := w) (p := p) (g := g) (a := a) ?_ _; assumption) | (refine SU.drew (w := w) (p := p) (g := g) (a := a) (SU.alloc ?_ _); assumption))
  clear hK K hHeld hOld
  have hHeld := hNew
  clear hNew
  try simp only [Act.put, List.setIfInBounds_toArray, List.set_cons_zero, List.set_cons_succ]
  refine wpAnyH_ready (rs := [68]) (by kernel_rfl) (by simp) ?_
  refine AllReadyH.cons (by simp only [List.getElem?_toArray, List.getElem?_cons_zero, List.getElem?_cons_succ]; rfl) (fun K hK => ?_) AllReadyH.nil
  have hOld := hHeld
  go_simp
  refine hK.out _ _ ?_ (fun hNew => ?_)
  · (first | assumption | (refine SU.drew (w := w) (p := p) (g := g) (a := a) ?_; assumption) | (refine SU.alloc (w := w) (p := p) (g := g) (a := a) ?_ _; assumption) | (refine SU.drew (w := w) (p := p) (g := g) (a := a) (SU.alloc ?_ _); assumption))
  clear hK K hHeld hOld
  have hHeld := hNew
  clear hNew
  try simp only [Act.put, List.setIfInBounds_toArray, List.set_cons_zero, List.set_cons_succ]
  refine wpAnyH_ready (rs := [69]) (by kernel_rfl) (by simp) ?_
  refine AllReadyH.cons (by simp only [List.getElem?_toArray, List.getElem?_cons_zero, List.getElem?_cons_succ]; rfl) (fun K hK => ?_) AllReadyH.nil
  have hOld := hHeld
  go_simp
  go_at_call 39; (with_reducible refine (jn_U (w := w) (p := p) (g := g) (a := a) ?_ _ ?_).mono ?_); (assumption); (refine jn_laid (w := w) (p := p) (g := g) (a := a) ?_ _ _; assumption); rintro e w' ⟨b2, d2, rfl, hbt2, hS⟩
  refine hK.out _ _ ?_ (fun hNew => ?_)
  · (first | assumption | (refine SU.drew (w := w) (p := p) (g := g) (a := a) ?_; assumption) | (refine SU.alloc (w := w) (p := p) (g := g) (a := a) ?_ _; assumption) | (refine SU.drew (w := w) (p := p) (g := g) (a := a) (SU.alloc ?_ _); assumption))
  clear hK K hHeld hOld
  have hHeld := hNew
  clear hNew
  try simp only [Act.put, List.setIfInBounds_toArray, List.set_cons_zero, List.set_cons_succ]
  refine wpAnyH_ready (rs := [71]) (by kernel_rfl) (by simp) ?_
  refine AllReadyH.cons (by simp only [List.getElem?_toArray, List.getElem?_cons_zero, List.getElem?_cons_succ]; rfl) (fun K hK => ?_) AllReadyH.nil
  have hOld := hHeld
  go_simp
  go_at_call 40; (with_reducible refine (sm_U (w := w) (p := p) (g := g) (a := a) ?_ _ _ _ _ _ _ usherH usherH (by assumption) ?_ (by decide)).mono ?_); (assumption); (exact UCtx.hts (SU.ctx (by assumption))); rintro e w' ⟨rfl, hS⟩
  refine hK.out _ _ ?_ (fun hNew => ?_)
  · (first | assumption | (refine SU.drew (w := w) (p := p) (g := g) (a := a) ?_; assumption) | (refine SU.alloc (w := w) (p := p) (g := g) (a := a) ?_ _; assumption) | (refine SU.drew (w := w) (p := p) (g := g) (a := a) (SU.alloc ?_ _); assumption))
  clear hK K hHeld hOld
  have hHeld := hNew
  clear hNew
  try simp only [Act.put, List.setIfInBounds_toArray, List.set_cons_zero, List.set_cons_succ]
  refine wpAnyH_take (i := 72) (v := ?_) (by simp only [List.getElem?_toArray, List.getElem?_cons_zero, List.getElem?_cons_succ]; rfl) (by kernel_rfl) (by kernel_rfl) (by kernel_rfl) (fun _ _ _ h => h) (Or.inl ⟨by rfl, ?_⟩) (by assumption) ?_
  rotate_left
  · intro V hV
    obtain ⟨k0, k1, k2, k3, k4, k5, k6, k7⟩ := hV.1
    first | (go_simp; done) | (go_simp; with_reducible rfl)
  try simp only [Act.put, List.setIfInBounds_toArray, List.set_cons_zero, List.set_cons_succ]
  refine wpAnyH_take (i := 73) (v := ?_) (by simp only [List.getElem?_toArray, List.getElem?_cons_zero, List.getElem?_cons_succ]; rfl) (by kernel_rfl) (by kernel_rfl) (by kernel_rfl) (fun _ _ _ h => h) (Or.inl ⟨by rfl, ?_⟩) (by assumption) ?_
  rotate_left
  · intro V hV
    obtain ⟨k0, k1, k2, k3, k4, k5, k6, k7⟩ := hV.1
    first | (go_simp; done) | (go_simp; with_reducible rfl)
  try simp only [Act.put, List.setIfInBounds_toArray, List.set_cons_zero, List.set_cons_succ]
  refine wpAnyH_take (i := 74) (v := ?_) (by simp only [List.getElem?_toArray, List.getElem?_cons_zero, List.getElem?_cons_succ]; rfl) (by kernel_rfl) (by kernel_rfl) (by kernel_rfl) (fun _ _ _ h => h) (Or.inl ⟨by rfl, ?_⟩) (by assumption) ?_
  rotate_left
  · intro V hV
    obtain ⟨k0, k1, k2, k3, k4, k5, k6, k7⟩ := hV.1
    first | (go_simp; done) | (go_simp; with_reducible rfl)
  try simp only [Act.put, List.setIfInBounds_toArray, List.set_cons_zero, List.set_cons_succ]
  refine wpAnyH_take (i := 75) (v := ?_) (by simp only [List.getElem?_toArray, List.getElem?_cons_zero, List.getElem?_cons_succ]; rfl) (by kernel_rfl) (by kernel_rfl) (by kernel_rfl) (fun _ _ _ h => h) (Or.inl ⟨by rfl, ?_⟩) (by assumption) ?_
  rotate_left
  · intro V hV
    obtain ⟨k0, k1, k2, k3, k4, k5, k6, k7⟩ := hV.1
    first | (go_simp; done) | (go_simp; with_reducible rfl)
  try simp only [Act.put, List.setIfInBounds_toArray, List.set_cons_zero, List.set_cons_succ]
  refine wpAnyH_take (i := 76) (v := ?_) (by simp only [List.getElem?_toArray, List.getElem?_cons_zero, List.getElem?_cons_succ]; rfl) (by kernel_rfl) (by kernel_rfl) (by kernel_rfl) (fun _ _ _ h => h) (Or.inl ⟨by rfl, ?_⟩) (by assumption) ?_
  rotate_left
  · intro V hV
    obtain ⟨k0, k1, k2, k3, k4, k5, k6, k7⟩ := hV.1
    first | (go_simp; done) | (go_simp; with_reducible rfl)
  try simp only [Act.put, List.setIfInBounds_toArray, List.set_cons_zero, List.set_cons_succ]
  refine wpAnyH_ready (rs := [77]) (by kernel_rfl) (by simp) ?_
  refine AllReadyH.cons (by simp only [List.getElem?_toArray, List.getElem?_cons_zero, List.getElem?_cons_succ]; rfl) (fun K hK => ?_) AllReadyH.nil
  have hOld := hHeld
  go_simp
  go_at_call 40; (with_reducible refine (sm_U (w := w) (p := p) (g := g) (a := a) ?_ _ _ _ _ _ _ usherH [(14, 0), (15, 2)] ?_ ?_ (by decide)).mono ?_); (assumption); (exact UCtx.hts (SU.ctx (by assumption))); (exact Hts.cut (lo := 1) (m := 2) (UCtx.hts (SU.ctx (by assumption))) (by decide)); rintro e w' ⟨rfl, hS⟩
  refine hK.out _ _ ?_ (fun hNew => ?_)
  · (first | assumption | (refine SU.drew (w := w) (p := p) (g := g) (a := a) ?_; assumption) | (refine SU.alloc (w := w) (p := p) (g := g) (a := a) ?_ _; assumption) | (refine SU.drew (w := w) (p := p) (g := g) (a := a) (SU.alloc ?_ _); assumption))
  clear hK K hHeld hOld
  have hHeld := hNew
  clear hNew
  try simp only [Act.put, List.setIfInBounds_toArray, List.set_cons_zero, List.set_cons_succ]
  refine wpAnyH_take (i := 78) (v := ?_) (by simp only [List.getElem?_toArray, List.getElem?_cons_zero, List.getElem?_cons_succ]; rfl) (by kernel_rfl) (by kernel_rfl) (by kernel_rfl) (fun _ _ _ h => h) (Or.inl ⟨by rfl, ?_⟩) (by assumption) ?_
  rotate_left
  · intro V hV
    obtain ⟨k0, k1, k2, k3, k4, k5, k6, k7⟩ := hV.1
    first | (go_simp; done) | (go_simp; with_reducible rfl)
  try simp only [Act.put, List.setIfInBounds_toArray, List.set_cons_zero, List.set_cons_succ]
  refine wpAnyH_take (i := 79) (v := ?_) (by simp only [List.getElem?_toArray, List.getElem?_cons_zero, List.getElem?_cons_succ]; rfl) (by kernel_rfl) (by kernel_rfl) (by kernel_rfl) (fun _ _ _ h => h) (Or.inl ⟨by rfl, ?_⟩) (by assumption) ?_
  rotate_left
  · intro V hV
    obtain ⟨k0, k1, k2, k3, k4, k5, k6, k7⟩ := hV.1
    first | (go_simp; done) | (go_simp; with_reducible rfl)
  try simp only [Act.put, List.setIfInBounds_toArray, List.set_cons_zero, List.set_cons_succ]
  refine wpAnyH_take (i := 80) (v := ?_) (by simp only [List.getElem?_toArray, List.getElem?_cons_zero, List.getElem?_cons_succ]; rfl) (by kernel_rfl) (by kernel_rfl) (by kernel_rfl) (fun _ _ _ h => h) (Or.inl ⟨by rfl, ?_⟩) (by assumption) ?_
  rotate_left
  · intro V hV
    obtain ⟨k0, k1, k2, k3, k4, k5, k6, k7⟩ := hV.1
    first | (go_simp; done) | (go_simp; with_reducible rfl)
  try simp only [Act.put, List.setIfInBounds_toArray, List.set_cons_zero, List.set_cons_succ]
  refine wpAnyH_done (by kernel_rfl) ?_ _
  refine NoPanic.normal ?_
  go_wp2
  go_ret
  refine ⟨?_, hHeld.2.2⟩
  rw [show (!decide (usherH = [(14, 0), (15, 2)])) = true from by decide]
  rfl

end Go.Proofs.Ytmpmjkbjnklgfaa

/- Plain laws of layer 6: how many hits there are, a text in parts. -/

namespace Go.Proofs.Ytmpmjkbjnklgfaa
set_option linter.unusedVariables false

theorem putH_length (wss : List (List Int)) (l : List HitP) (h : HitP) : (putH wss l h).length = l.length + 1 := by
  have := putN_le wss l h
  unfold putH
  simp
  omega
theorem hereD_length (fold : Bool) (wss : List (List Int)) (frm : Int) (text : List Int) (place : Nat) : ∀ n, (hereD fold wss frm text place n).length = ((List.range n).filter fun k => stands fold wss text place k).length
  | 0 => by simp [hereD]
  | n + 1 => by
    have ih := hereD_length fold wss frm text place n
    rw [hereD_succ, List.range_succ, List.filter_append]
    cases e : stands fold wss text place n <;> simp [e, ih, putH_length]
theorem occTo_length (fold : Bool) (wss : List (List Int)) (frm : Int) (text : List Int) : ∀ n, (occTo fold wss frm text n).length = ((List.range n).map fun p => ((List.range wss.length).filter fun k => stands fold wss text p k).length).sum
  | 0 => by simp [occTo]
  | n + 1 => by
    rw [occTo_succ, List.range_succ, List.map_append, List.sum_append, List.length_append, occTo_length fold wss frm text n, hereD_length]
    simp
theorem sum_swap (f : Nat → Nat → Bool) (m : Nat) : ∀ n, ((List.range n).map fun p => ((List.range m).filter fun k => f p k).length).sum = ((List.range m).map fun k => ((List.range n).filter fun p => f p k).length).sum
  | 0 => by
    simp only [List.range_zero, List.map_nil, List.sum_nil, List.filter_nil, List.length_nil]
    induction m with
    | zero => simp
    | succ m ih => rw [List.range_succ, List.map_append, List.sum_append, ← ih]; simp
  | n + 1 => by
    rw [List.range_succ, List.map_append, List.sum_append, sum_swap f m n]
    simp only [List.map_cons, List.map_nil, List.sum_cons, List.sum_nil, Nat.add_zero]
    clear sum_swap
    induction m with
    | zero => simp
    | succ m ih =>
      simp only [List.range_succ (n := m), List.map_append, List.sum_append, List.filter_append, List.length_append, List.map_cons, List.map_nil, List.sum_cons, List.sum_nil, Nat.add_zero] at ih ⊢
      cases e : f n m <;> simp [e] <;> omega
theorem occ_count (fold : Bool) (wss : List (List Int)) (frm : Int) (text : List Int) : (occD fold wss frm text).length = ((List.range wss.length).map fun k => ((List.range (text.length + 1)).filter fun p => stands fold wss text p k).length).sum := by
  unfold occD
  rw [occTo_length, sum_swap (fun p k => stands fold wss text p k)]

theorem occD_mem {fold : Bool} {wss : List (List Int)} {frm : Int} {text : List Int} {h : HitP} (hm : h ∈ occD fold wss frm text) : standsH fold wss frm text h = true ∧ frm ≤ h.1 ∧ h.1 ≤ frm + text.length ∧ 0 ≤ h.2 ∧ h.2 < wss.length := by
  obtain ⟨p, k, h1, h2, h3, rfl⟩ := mem_occTo.1 hm
  unfold standsH
  dsimp only
  have e1 : (frm + (p : Int) - frm).toNat = p := by omega
  rw [e1, Int.toNat_natCast, h3, decide_eq_true (by omega)]
  exact ⟨rfl, by omega, by omega, by omega, by omega⟩

/-- What stands in a part. -/
theorem atL_take {fold : Bool} {text word : List Int} {at_ p : Nat} (hp : p ≤ at_) (ha : at_ ≤ text.length) : atL fold (text.take at_) p word = atL fold text p word := by
  unfold atL
  rw [List.length_take, Nat.min_eq_left ha, Int.toNat_natCast]
  have e : ((text.take at_).drop (p - word.length)).take word.length = (text.drop (p - word.length)).take word.length ∨ ¬ (word.length : Int) ≤ p := by
    by_cases hw : word.length ≤ p
    · left
      rw [List.drop_take, List.take_take, Nat.min_eq_left (by omega)]
    · right; omega
  rcases e with e | e
  · rw [e]
    congr 2
    simp
    omega
  · rw [decide_eq_false (by omega), decide_eq_false (by omega)]
    rfl
theorem atL_drop {fold : Bool} {text word : List Int} {d p : Nat} (hw : word.length ≤ p ∨ d = 0) (hd : d ≤ text.length) : atL fold (text.drop d) p word = atL fold text ((p + d : Nat) : Int) word := by
  rcases hw with hw | rfl
  · unfold atL
    rw [List.length_drop, Int.toNat_natCast, Int.toNat_natCast, List.drop_drop, show d + (p - word.length) = p + d - word.length by omega]
    congr 2
    simp
    omega
  · simp
theorem stands_take {fold : Bool} {wss : List (List Int)} {text : List Int} {at_ p k : Nat} (hp : p ≤ at_) (ha : at_ ≤ text.length) : stands fold wss (text.take at_) p k = stands fold wss text p k := atL_take hp ha
theorem longL_mem : ∀ (wss : List (List Int)), 0 ≤ longL wss ∧ ∀ x ∈ wss, (x.length : Int) ≤ longL wss := by
  intro wss
  unfold longL
  suffices h : ∀ (l : List (List Int)) (m : Int), m ≤ l.foldl (fun n w => max n (w.length : Int)) m ∧ ∀ x ∈ l, (x.length : Int) ≤ l.foldl (fun n w => max n (w.length : Int)) m from ⟨(h wss 0).1, (h wss 0).2⟩
  intro l
  induction l with
  | nil => intro m; simp
  | cons y l ih =>
    intro m
    rw [List.foldl_cons]
    obtain ⟨h1, h2⟩ := ih (max m (y.length : Int))
    refine ⟨by omega, fun x hx => ?_⟩
    rcases List.mem_cons.1 hx with rfl | hx
    · omega
    · exact h2 x hx
theorem occ_first (fold : Bool) (wss : List (List Int)) (frm : Int) (text : List Int) (at_ : Nat) (ha : at_ ≤ text.length) : occD fold wss frm (text.take at_) = occTo fold wss frm text (at_ + 1) := by
  refine rise_unique (occTo_rises _ _ _ _ _) (occTo_rises _ _ _ _ _) fun x => ?_
  unfold occD
  rw [mem_occTo, mem_occTo, List.length_take, Nat.min_eq_left ha]
  constructor
  · rintro ⟨p, k, h1, h2, h3, h4⟩
    exact ⟨p, k, h1, h2, by rwa [stands_take (by omega) ha] at h3, h4⟩
  · rintro ⟨p, k, h1, h2, h3, h4⟩
    exact ⟨p, k, h1, h2, by rwa [stands_take (by omega) ha], h4⟩
theorem betw_first (fold : Bool) (wss : List (List Int)) (frm : Int) (text : List Int) (at_ : Nat) (ha : at_ ≤ text.length) : occD fold wss frm (text.take at_) = betwH (frm - 1) (frm + at_) (occD fold wss frm text) := by
  rw [occ_first fold wss frm text at_ ha]
  refine rise_unique (occTo_rises _ _ _ _ _) ((occTo_rises _ _ _ _ _).filter _) fun x => ?_
  unfold occD betwH
  rw [mem_occTo, List.mem_filter, mem_occTo]
  constructor
  · rintro ⟨p, k, h1, h2, h3, rfl⟩
    exact ⟨⟨p, k, by omega, h2, h3, rfl⟩, by simp; omega⟩
  · rintro ⟨⟨p, k, h1, h2, h3, rfl⟩, h4⟩
    simp at h4
    exact ⟨p, k, by omega, h2, h3, rfl⟩
theorem occ_parts (fold : Bool) (wss : List (List Int)) (frm : Int) (text : List Int) (at_ warm : Nat) (ha : at_ ≤ text.length) (hw : warm = at_ ∨ longL wss - 1 ≤ warm ∧ warm ≤ at_) :
    occD fold wss frm text = occD fold wss frm (text.take at_) ++ betwH (frm + at_) (frm + text.length) (occD fold wss (frm + at_ - warm) (text.drop (at_ - warm))) := by
  have hwa : warm ≤ at_ := by omega
  have hlen : ∀ k, k < wss.length → ∀ p : Nat, warm < p → ((wss[k]?).getD []).length ≤ p ∨ at_ - warm = 0 := by
    intro k hk p hp
    rcases hw with rfl | ⟨h1, h2⟩
    · right; omega
    · left
      have hx : (wss[k]?).getD [] ∈ wss := by
        rw [List.getElem?_eq_getElem hk, Option.getD_some]
        exact List.getElem_mem hk
      have := (longL_mem wss).2 _ hx
      omega
  rw [occ_first fold wss frm text at_ ha]
  have hbm : ∀ x, x ∈ betwH (frm + at_) (frm + text.length) (occD fold wss (frm + at_ - warm) (text.drop (at_ - warm))) ↔ ∃ p k, at_ < p ∧ p < text.length + 1 ∧ k < wss.length ∧ stands fold wss text p k = true ∧ x = (frm + (p : Int), (k : Int)) := by
    intro x
    unfold betwH occD
    rw [List.mem_filter, mem_occTo, List.length_drop]
    constructor
    · rintro ⟨⟨p, k, h1, h2, h3, rfl⟩, h4⟩
      simp at h4
      refine ⟨p + (at_ - warm), k, by omega, by omega, h2, ?_, by simp; omega⟩
      unfold stands at h3 ⊢
      rwa [atL_drop (hlen k h2 p (by omega)) (by omega)] at h3
    · rintro ⟨p, k, h0, h1, h2, h3, rfl⟩
      refine ⟨⟨p - (at_ - warm), k, by omega, h2, ?_, by simp; omega⟩, by simp; omega⟩
      unfold stands at h3 ⊢
      rw [atL_drop (hlen k h2 _ (by omega)) (by omega), show p - (at_ - warm) + (at_ - warm) = p by omega]
      exact h3
  refine rise_unique (occTo_rises _ _ _ _ _) ?_ fun x => ?_
  · rw [List.pairwise_append]
    refine ⟨occTo_rises _ _ _ _ _, (occTo_rises _ _ _ _ _).filter _, fun a ha' b hb => ?_⟩
    obtain ⟨p, k, h1, h2, h3, rfl⟩ := mem_occTo.1 ha'
    obtain ⟨q, j, g0, g1, g2, g3, rfl⟩ := (hbm b).1 hb
    exact lessH_iff.2 (.inl (by dsimp only; omega))
  · rw [List.mem_append, hbm]
    unfold occD
    rw [mem_occTo, mem_occTo]
    constructor
    · rintro ⟨p, k, h1, h2, h3, rfl⟩
      by_cases hp : p ≤ at_
      · exact .inl ⟨p, k, by omega, h2, h3, rfl⟩
      · exact .inr ⟨p, k, by omega, h1, h2, h3, rfl⟩
    · rintro (⟨p, k, h1, h2, h3, rfl⟩ | ⟨p, k, h0, h1, h2, h3, rfl⟩)
      · exact ⟨p, k, by omega, h2, h3, rfl⟩
      · exact ⟨p, k, by omega, h2, h3, rfl⟩

/-- Rising in parts. -/
theorem rise_append {wss : List (List Int)} {l m : List HitP} : riseH wss (l ++ m) = (riseH wss l && riseH wss m && (match l.getLast?, m.head? with | some a, some b => lessH wss a b | _, _ => true)) := by
  induction l with
  | nil => cases m <;> simp [riseH]
  | cons a l ih =>
    cases l with
    | nil =>
      cases m with
      | nil => simp [riseH]
      | cons b m => simp [riseH, Bool.and_comm]
    | cons b l =>
      rw [List.cons_append, List.cons_append]
      simp only [riseH]
      rw [← List.cons_append, ih, List.getLast?_cons_cons]
      simp [Bool.and_assoc]
end Go.Proofs.Ytmpmjkbjnklgfaa
