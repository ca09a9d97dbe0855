/- Parts of the proof, one behind the other: A6, Aq, A7, A8, YG. No condition but what each theorem states. -/
import Derived.Test.YtglfdclpjmhoiaaGreatZK3
import Derived.Test.YtglfdclpjmhoiaaGreatZK8
import Derived.Test.YtglfdclpjmhoiaaGreatZK9
set_option linter.unusedVariables false
set_option linter.unusedSimpArgs false

/- Fewer places (layer 12): a node's base is found, its kids stand; walked. -/

namespace Go.Proofs.YtglfdclpjmhoiaaGreat
open Go.RowKit Go.Sort
attribute [local go_sem] Oper.semAt_some
attribute [local simp] wide_fn wide_depth
attribute [local go_sem] wide_fn wide_depth

section
variable {W V : World} {T : Nat} {L : List Int} {u l y vo vk vs : Value} {ow ki ba : List Int}
theorem sl1_of_own {v : Value} {b : Nat} {xs : List Int} (h : OwnI W b v xs) : ∃ a c, v = .slice a xs.length c ∧ Sl1 (Value.int .i64) W a xs.length xs := by
 obtain ⟨a, c, e, _, hs⟩ := own_sl1 (enc := Value.int .i64) h
 exact ⟨a, c, e, hs⟩
theorem ownI_cellsK {v : Value} {b : Nat} {xs : List Int} (h : OwnI W b v xs) (hk : CellsK W V) : OwnI V b v xs := by
 obtain ⟨h1, h2 | ⟨g, cap, cur, e, hg, hh, r⟩⟩ := h
 · exact ⟨h1, .inl h2⟩
 · exact ⟨h1, .inr ⟨g, cap, cur, e, hg, hk.2 _ _ _ _ hh, r⟩⟩
theorem SpW.cellsK (h : SpW W T L u l y vo vk vs ow ki ba) (hk : CellsK W V) : SpW V T L u l y vo vk vs ow ki ba :=
 ⟨⟨hk.2 _ _ _ _ h.sk.box, h.sk.len⟩, ownI_cellsK h.oo hk, ownI_cellsK h.kk hk, ownI_cellsK h.ss hk, h.ok_, h.os, h.ks⟩
end
theorem ownsX_cells {β : Type} {B : Nat} {I : β → World → Prop} (h : ∀ s W V, I s W → CellsK W V → I s V) : OwnsX B (fun _ _ _ => False) I := fun s W W' row hs hg hr =>
 h s W W' hs ⟨hg.size, fun k cs t f hk => (hg.block k (Array.getElem?_eq_some_iff.1 hk).1 (fun e => by
  rcases hr k e.symm with ⟨_, o, ho, hc⟩ | h
  · rw [hk] at ho; cases ho; cases hc
  · exact h)).trans hk⟩
theorem CellsK.of_below {W V : World} (h : Below W.heap.size W V) : CellsK W V := ⟨h.size, fun k cs t f hk => (h.block k (Array.getElem?_eq_some_iff.1 hk).1).trans hk⟩
theorem CellsK.put {W : World} {D : Nat} {o : Obj} (h : W.heap[D]? = some o) (hc : o.isCells = false) (o' : Obj) : CellsK W (W.putObj D o') := ⟨by simp [World.putObj], fun k cs t f hk => (World.putObj_heap_other (fun e => by rw [e, h] at hk; cases hk; cases hc)).trans hk⟩
theorem CellsK.t {A B C : World} (h : CellsK A B) (k : CellsK B C) : CellsK A C := ⟨Nat.le_trans h.1 k.1, fun i cs t f hi => k.2 i cs t f (h.2 i cs t f hi)⟩

theorem skC_inj {L L' : List Int} {u l y o k s u' l' y' o' k' s' : Value} (hL : L.length = 256) (hL' : L'.length = 256) (h : skC L u l y o k s = skC L' u' l' y' o' k' s') : L = L' ∧ u = u' ∧ l = l' ∧ y = y' ∧ o = o' ∧ k = k' ∧ s = s' := by
 unfold skC at h
 simp only [List.cons_append, List.nil_append, List.cons.injEq] at h
 obtain ⟨h1, h2, h3, h4⟩ := h
 obtain ⟨h5, h6⟩ := List.append_inj h4 (by simp [hL, hL'])
 simp only [List.cons.injEq, and_true] at h6
 refine ⟨?_, h1, h2, h3, h6.1, h6.2.1, h6.2.2⟩
 have hi : Function.Injective (Value.int .i64) := fun a b e => by cases e; rfl
 exact (List.map_inj_right (fun a b e => hi e)).1 h5
theorem Sk.same {W : World} {T : Nat} {L L' : List Int} {u l y o k s u' l' y' o' k' s' : Value} (h : Sk W T L u l y o k s) (h' : Sk W T L' u' l' y' o' k' s') : L = L' ∧ u = u' ∧ l = l' ∧ y = y' ∧ o = o' ∧ k = k' ∧ s = s' := by
 have e := h.box.symm.trans h'.box
 injection e with e
 injection e with e
 exact skC_inj h.len h'.len (by simpa using e)
theorem stands_len (b node : Nat) : ∀ (ks : List (Nat × Nat)) (s : List Int × List Int), s.1.length = s.2.length → (∀ q ∈ ks, q.1 ≤ 1000) → (standsP s b node ks).1.length = (standsP s b node ks).2.length ∧ (standsP s b node ks).1.length ≤ max s.1.length (b + 1001)
 | [], s, h, _ => ⟨h, Nat.le_max_left _ _⟩
 | q :: ks, s, h, hk => by
  obtain ⟨h1, h2, _⟩ := standP_at s h (b + q.1) node q.2
  obtain ⟨i1, i2⟩ := stands_len b node ks (standP s (b + q.1) node q.2) h1 (fun r hr => hk r (List.mem_cons_of_mem _ hr))
  have := hk q (List.mem_cons_self ..)
  exact ⟨i1, by show (standsP (standP s (b + q.1) node q.2) b node ks).1.length ≤ _; omega⟩
theorem stands_snoc (s : List Int × List Int) (b node : Nat) (ks : List (Nat × Nat)) (q : Nat × Nat) : standsP s b node (ks ++ [q]) = standP (standsP s b node ks) (b + q.1) node q.2 := by
 unfold standsP
 rw [List.foldl_append]
 rfl
/-- The table while a node's kids come to stand: its rows lie below n0 or from n1 on. -/
def StI (T : Nat) (L : List Int) (u l y vs : Value) (ba : List Int) (n0 n1 : Nat) (s : List Int × List Int) (V : World) : Prop :=
 ∃ vo vk, SpW V T L u l y vo vk vs s.1 s.2 ba ∧ (∀ k, vo.ownBlock = some k → k < n0 ∨ n1 ≤ k) ∧ (∀ k, vk.ownBlock = some k → k < n0 ∨ n1 ≤ k)
theorem StI.cellsK {T : Nat} {L : List Int} {u l y vs : Value} {ba : List Int} {n0 n1 : Nat} {s : List Int × List Int} {W V : World} (h : StI T L u l y vs ba n0 n1 s W) (hk : CellsK W V) : StI T L u l y vs ba n0 n1 s V := by
 obtain ⟨vo, vk, h1, h2, h3⟩ := h
 exact ⟨vo, vk, h1.cellsK hk, h2, h3⟩
theorem ownI_cell {W : World} {b k : Nat} {v : Value} {xs : List Int} (h : OwnI W b v xs) (hk : v.ownBlock = some k) : ∃ o, W.heap[k]? = some o ∧ o.isCells = true := by
 obtain ⟨h1, ⟨e, _⟩ | ⟨g, cap, cur, e, hg, hh, r⟩⟩ := h
 · rw [e] at hk; cases hk
 ·
  rw [e] at hk
  cases hk
  exact ⟨_, hh, rfl⟩
theorem keep2_from {V V' : World} {T B : Nat} {L : List Int} {u l y vo vk vs vo' vk' : Value} {ow ki ba : List Int} (h : SpW V T L u l y vo vk vs ow ki ba) (hk : Keep2 V T vo vk V' vo' vk') : KeepsFrom B V V' :=
 ⟨hk.size, fun k o _ ho hc => (hk.same k (Array.getElem?_eq_some_iff.1 ho).1 (fun e => by
  rw [e, h.sk.box] at ho; cases ho; cases hc) (fun e => by
  obtain ⟨o', h1, h2⟩ := ownI_cell h.oo e
  rw [h1] at ho; cases ho; rw [h2] at hc; cases hc) (fun e => by
  obtain ⟨o', h1, h2⟩ := ownI_cell h.kk e
  rw [h1] at ho; cases ho; rw [h2] at hc; cases hc)).trans ho⟩
theorem keep2_sk {V V' : World} {T : Nat} {L L' : List Int} {u l y vo vk vs vo' vk' : Value} {ow ki ba ow' ki' : List Int} (h : SpW V T L u l y vo vk vs ow ki ba) (h' : SpW V' T L u l y vo' vk' vs ow' ki' ba) : ∀ L u l y o k s, Sk V T L u l y o k s → ∃ o' k', Sk V' T L u l y o' k' s := fun L2 u2 l2 y2 o2 k2 s2 hs => by
 obtain ⟨rfl, rfl, rfl, rfl, rfl, rfl, rfl⟩ := h.sk.same hs
 exact ⟨_, _, h'.sk⟩
theorem SpW.other {W : World} {T : Nat} {L : List Int} {u l y vo vk vs : Value} {ow ki ba : List Int} (h : SpW W T L u l y vo vk vs ow ki ba) {q : Nat} (v : Value) (hT : T ≠ q) (ho : vo.ownBlock ≠ some q) (hk : vk.ownBlock ≠ some q) (hs : vs.ownBlock ≠ some q) : SpW (W.setCell ⟨q, 0, none⟩ v) T L u l y vo vk vs ow ki ba :=
 ⟨⟨(Below.heap_setCell W ⟨q, 0, none⟩ v T hT).trans h.sk.box, h.sk.len⟩, World.ownsRow.kept h.oo (grownBy_setCell' W q v) (.inr ho), World.ownsRow.kept h.kk (grownBy_setCell' W q v) (.inr hk), World.ownsRow.kept h.ss (grownBy_setCell' W q v) (.inr hs), h.ok_, h.os, h.ks⟩
def numB (q : Nat) (W : World) : Nat := match W.cell? ⟨q, 0, none⟩ with | some (.int _ z) => z.toNat | _ => 0

set_option maxRecDepth 100000 in
set_option maxHeartbeats 16000000 in
theorem settle12_any {T : Nat} {L : List Int} {Tr : TrieT} {ua ya : Option Addr} {un uc yn yc many : Nat} {l vo vk vs : Value} {ow ki ba lk : List Int} (node : Nat) (w : World) (h : SpW w T L (.slice ua un uc) l (.slice ya yn yc) vo vk vs ow ki ba)
  (hU : Sl1 (Value.int .i64) w ua un Tr.up) (hY : Bys w ya yn Tr.byt) (hlT : ∃ (la : Option Addr) (ln lc : Nat), l = .slice la ln lc ∧ Sl1 (Value.int .i64) w la ln lk) (hUT : (∀ a, ua = some a → a.block < T) ∧ ∀ a, ya = some a → a.block < T) (hn : Tr.byt.length = Tr.up.length) (hn4 : Tr.up.length ≤ 400) (hn1 : 1 ≤ Tr.up.length)
  (hL : ∀ q ∈ kidsQ L Tr node Tr.up.length, (1 ≤ q.1 ∧ q.1 < many) ∧ q.2 ≤ 1000) (hL0 : ∀ (c : Nat) (v : Int), L[c]? = some v → 0 ≤ v ∧ v ≤ 1000) (hm : many ≤ 1000) (hl : ow.length = ki.length) (hol : ow.length ≤ 500000) (hbl : ba.length ≤ 1000) :
  Calls Tryz.prog 29 #[.pointer (some ⟨T, 0, none⟩), .int .i64 (node : Int)] w fun e w' => (∃ v, e = .returned v) ∧ ∃ vo' vk' vs', SpW w' T L (.slice ua un uc) l (.slice ya yn yc) vo' vk' vs' (settleP (fun _ => kidsQ L Tr node Tr.up.length) (ow, ki, ba) node).1 (settleP (fun _ => kidsQ L Tr node Tr.up.length) (ow, ki, ba) node).2.1 (settleP (fun _ => kidsQ L Tr node Tr.up.length) (ow, ki, ba) node).2.2 ∧ Below T w w' := by
 obtain ⟨i0, hi, hz0, hz1, hz2⟩ := info_parts i64_info7
 obtain ⟨KS, hKS⟩ : ∃ k, kidsQ L Tr node Tr.up.length = k := ⟨_, rfl⟩
 obtain ⟨bf, bl, bno⟩ := baseP_spec ow KS
 obtain ⟨bb, hbb⟩ : ∃ k, baseP ow KS = k := ⟨_, rfl⟩
 rw [hbb] at bf bl bno
 obtain ⟨W4, hW4⟩ : ∃ X, X = (((w.alloc (.cells #[.pointer (some ⟨T, 0, none⟩)] 37)).alloc (.cells #[.int .i64 (node : Int)] 3)).alloc (.cells #[.int .i64 0] 3)).alloc (.cells #[.int .i64 0] 3) := ⟨_, rfl⟩
 have hb4 : Below w.heap.size w W4 := by rw [hW4]; exact ((((Below.refl _ _).alloc (Nat.le_refl _) _).alloc (by simp) _).alloc (by simp; omega) _).alloc (by simp; omega) _
 have hO : Bx w.heap.size [.cells #[.pointer (some ⟨T, 0, none⟩)] 37, .cells #[.int .i64 (node : Int)] 3, .cells #[.int .i64 0] 3, .cells #[.int .i64 0] 3] W4 := by rw [hW4]; exact ((((Bx.nil _ w).snoc _ rfl).snoc _ (by simp)).snoc _ (by simp)).snoc _ (by simp)
 have hs4 : W4.heap.size = w.heap.size + 1 + 1 + 1 + 1 := by rw [hW4]; simp
 have hT := h.sk.lt
 have HH := Lib.hid (h.below hb4)
 have HW := Lib.hid h
 have HU := Lib.hid hU
 have HY := Lib.hid hY
 obtain ⟨la, ln, lc, rfl, hlk⟩ := hlT
 have HLK := Lib.hid (hlk.below hb4)
 have HO := Lib.hid hO
 have HB4 := Lib.hid hb4
 have HLL := Lib.hid hL
 have HL0 := Lib.hid hL0
 have HKS := Lib.hid hKS
 have HBB := Lib.hid hbb
 have HBF := Lib.hid bf
 have HBNO := Lib.hid bno
 have HUT := Lib.hid hUT
 have HL := Lib.hid hl
 have HN := Lib.hid hn
 -- a table that is read
 have HRD : Hid (∀ V, Below (w.heap.size + 1 + 1) W4 V → ∃ t : SpV, SpT V T L Tr t lk ow ki ba) := fun V hV => by
  have hk : ∀ k, k < w.heap.size → V.heap[k]? = w.heap[k]? := fun k hk => (hV.block k (by omega)).trans (hb4.block k hk)
  have hsz : w.heap.size ≤ V.heap.size := Nat.le_trans hb4.size hV.size
  have kp : kept w V := hk
  obtain ⟨oa, oc, e1, h1⟩ := sl1_of_own h.oo
  obtain ⟨ka, kc, e2, h2⟩ := sl1_of_own h.kk
  obtain ⟨sa, sc, e3, h3⟩ := sl1_of_own h.ss
  refine ⟨⟨ua, un, uc, la, ln, lc, ya, yn, yc, oa, ow.length, oc, ka, ki.length, kc, sa, ba.length, sc⟩, ⟨(hk T hT).trans ?_, h.sk.len⟩, hU.kept hk hsz, hlk.kept hk hsz, ⟨hY.1.kept hk hsz, hY.2⟩, h1.kept hk hsz, h2.kept hk hsz, h3.kept hk hsz⟩
  dsimp only
  rw [← e1, ← e2, ← e3]
  exact h.sk.box
 clear hU hY hlk hO hb4 hL hL0 hKS hbb bf bno hUT hl hn h
 refine calls_of_wp_M Tryz.func29 rfl ?_
 simp only [Tryz.ntmps29, List.size_toArray, List.length_cons, List.length_nil, Nat.reduceAdd, Nat.reduceSub, Array.replicate_succ, Array.replicate_zero, List.push_toArray, List.append_toArray, List.nil_append, List.cons_append]
 go_upto_region 2 with fail
 rw [← hW4]
 have hq2 : Boxed W4 (w.heap.size + 1 + 1) 3 (.int .i64 ((0 : Nat) : Int)) := HO.out 2 _ rfl
 have hq3 : Boxed W4 (w.heap.size + 1 + 1 + 1) 3 (.int .i64 0) := HO.out 3 _ rfl
 have hO0 : Hid (∀ V, Below (w.heap.size + 1 + 1) W4 V → V.cell? ⟨w.heap.size, 0, none⟩ = some (.pointer (some ⟨T, 0, none⟩)) ∧ V.cell? ⟨w.heap.size + 1, 0, none⟩ = some (.int .i64 (node : Int))) := fun V hV =>
  ⟨(World.cell?_of_block (a := ⟨w.heap.size, 0, none⟩) (hV.block _ (by show w.heap.size < _; omega))).trans (HO.out.cell (i := 0) rfl rfl), (World.cell?_of_block (a := ⟨w.heap.size + 1, 0, none⟩) (hV.block _ (by show w.heap.size + 1 < _; omega))).trans (HO.out.cell (i := 1) rfl rfl)⟩
 have hbl2 : bb ≤ 1000000 := by omega
 have HS4 := Lib.hid hs4
 have HQ3 := Lib.hid hq3
 clear hW4 hs4 hq3
 go_loopw [8] (fun _ wr => ∃ c : Nat, c ≤ bb ∧ Boxed wr (w.heap.size + 1 + 1) 3 (.int .i64 (c : Int)) ∧ Hid (Below (w.heap.size + 1 + 1) W4 wr) ∧ Hid (Boxed wr (w.heap.size + 1 + 1 + 1) 3 (.int .i64 0))) (fun _ wr => bb + 1 - numB (w.heap.size + 1 + 1) wr)
 case atStart => exact ⟨0, Nat.zero_le _, hq2, Below.refl _ _, HQ3.out⟩
 case round =>
  clear hq2
  obtain ⟨c, hc, hq, HB, HM⟩ := hrel
  obtain ⟨c0, c1⟩ := hO0.out wr HB.out
  have c2 := hq.cell
  have hf := hq.frozen
  have hlq := hq.lt
  obtain ⟨t, ht⟩ := HRD.out wr HB.out
  have hcall := fits12_any (node : Int) c wr ht HN.out hn4 hn1 HLL.out HL0.out hm (by omega)
  rw [HKS.out] at hcall
  have HC := Lib.hid hc
  clear ht
  by_cases hcb : c < bb
  ·
   rw [HBNO.out c hcb] at hcall
   have HCB := Lib.hid hcb
   have hu : Hid (numB (w.heap.size + 1 + 1) wr = c) := by unfold Hid numB; rw [c2]; rfl
   go_upto_region 3 with (go_at_call 47; refine hcall.mono ?_; rintro e w' ⟨rfl, hB0⟩; have HB0 := Lib.hid hB0; clear hB0)
   have hB1 := HB.out.trans (HB0.out.mono (Nat.le_trans (by have := HS4.out; omega) HB.out.size))
   obtain ⟨e0, e1⟩ := hO0.out _ hB1
   have hq1 : Boxed w' (w.heap.size + 1 + 1) 3 (.int .i64 (c : Int)) := (HB0.out.block _ hlq).trans hq
   have e2 := hq1.cell
   have hf1 := hq1.frozen
   have hl1 := hq1.lt
   have HM1 : Hid (Boxed w' (w.heap.size + 1 + 1 + 1) 3 (.int .i64 0)) := (HB0.out.block _ HM.out.lt).trans HM.out
   have HB1 := Lib.hid hB1
   have HQ1 := Lib.hid hq1
   clear hq c2 hf hlq c0 c1 hB1 hq1
   go_wp2_with fail
   have hn1b : Boxed (w'.setCell ⟨w.heap.size + 1 + 1, 0, none⟩ (.int .i64 ((c : Int) + 1))) (w.heap.size + 1 + 1) 3 (.int .i64 ((c + 1 : Nat) : Int)) := by
    have h := HQ1.out.set (.int .i64 ((c : Int) + 1))
    rwa [show ((c : Int) + 1) = ((c + 1 : Nat) : Int) by omega] at h ⊢
   go_roundw
   case rel => exact ⟨c + 1, by have := HCB.out; omega, hn1b, HB1.out.setCell (by show w.heap.size + 1 + 1 ≤ w.heap.size + 1 + 1; omega) _, HM1.out.other (by omega) _⟩
   case measure =>
    rw [hu.out]
    unfold numB
    rw [hn1b.cell]
    have := HCB.out
    simp
    omega
  ·
   obtain rfl : c = bb := by omega
   rw [HBF.out] at hcall
   go_upto_region 4 with (go_at_call 47; refine hcall.mono ?_; rintro e w' ⟨rfl, hB0⟩; have HB0 := Lib.hid hB0; clear hB0)
   have hB1 := HB.out.trans (HB0.out.mono (Nat.le_trans (by have := HS4.out; omega) HB.out.size))
   have HQ1 : Hid (Boxed w' (w.heap.size + 1 + 1) 3 (.int .i64 (c : Int))) := (HB0.out.block _ hlq).trans hq
   have HM1 : Hid (Boxed w' (w.heap.size + 1 + 1 + 1) 3 (.int .i64 0)) := (HB0.out.block _ HM.out.lt).trans HM.out
   have CE : Hid (∀ V, Below w'.heap.size w' V → V.cell? ⟨w.heap.size, 0, none⟩ = some (.pointer (some ⟨T, 0, none⟩)) ∧ V.cell? ⟨w.heap.size + 1, 0, none⟩ = some (.int .i64 (node : Int))) := fun V hV => hO0.out V (hB1.trans (hV.mono (Nat.le_trans (by have := HS4.out; omega) hB1.size)))
   have HBW : Hid (Below w.heap.size w w') := HB4.out.trans (hB1.mono (by omega))
   have hsz1 : W4.heap.size ≤ w'.heap.size := hB1.size
   have HB1 := Lib.hid hB1
   clear hq c2 hf hlq c0 c1 hB1 HB HM
   refine wp_region_noPanic ?_
   refine wp_region_held_drew (S := Below w'.heap.size w') (by kernel_rfl) (bel_drewN w' 1) (fun hHeld => ?_)
   obtain ⟨v5, hv5⟩ : ∃ X, X = w'.drew := ⟨_, rfl⟩
   rw [← hv5] at hHeld ⊢
   clear hv5
   have hv5l := hHeld.size
   change wpAnyH _ _ _ _ _ 5 _ _ _
   iterate 4 (refine tkF 4 (v := ?_) ?_ ?_; rotate_left; (· intro V hV; obtain ⟨q0, q1⟩ := CE.out V hV; first | (go_simp; done) | (go_simp; with_reducible rfl)); try simp only [Act.put, pA, pB, pC])
   refine rdy 4 (fun K hK => ?_)
   go_simp
   go_at_call 48; refine (kids12_any _ _ _).mono ?_; rintro e w6 ⟨rfl, hw6⟩
   have hb6 : Below v5.heap.size v5 w6 := by rw [hw6]; exact ((Below.refl _ _).alloc (Nat.le_refl _) _).alloc (by simp) _
   refine hK.out _ _ (hHeld.trans (hb6.mono hHeld.size)) (fun hNew => ?_)
   clear hK K hHeld
   try simp only [Act.put, pA, pB, pC]
   refine wpAnyH_done (by kernel_rfl) ?_ _
   refine NoPanic.normal ?_
   have hp1 : w6.heap[v5.heap.size]? = some (.cells #[.pointer (some ⟨T, 0, none⟩)] 102 (0, 0)) := by
    rw [hw6]
    exact (Below.heap_alloc _ _ _ (by simp)).trans (World.alloc_heap_new _ _)
   have hp2 : w6.heap[v5.heap.size + 1]? = some (.cells #[.int .i64 (node : Int)] 3 (0, 0)) := by
    have := World.alloc_heap_new (v5.alloc (.cells #[.pointer (some ⟨T, 0, none⟩)] 102)) (.cells #[.int .i64 (node : Int)] 3)
    rw [World.size_alloc] at this
    rw [hw6]
    exact this
   clear hw6
   have hbw6 : Below w.heap.size w w6 := HBW.out.trans (hNew.mono HBW.out.size)
   have hSP6 : SpW w6 T L (.slice ua un uc) (.slice la ln lc) (.slice ya yn yc) vo vk vs ow ki ba := HW.out.below (HBW.out.trans (hNew.mono HBW.out.size))
   have hb16 : Below w'.heap.size w' w6 := hNew
   obtain ⟨p1, hpe⟩ : ∃ k, v5.heap.size = k := ⟨_, rfl⟩
   rw [hpe] at hp1 hp2 hv5l hb6 ⊢
   have hp6 : p1 + 1 < w6.heap.size := (Array.getElem?_eq_some_iff.1 hp2).1
   have hTw := HW.out.sk.lt
   have hs4 := HS4.out
   have hps := kids12_stops Tr T p1 (p1 + 1) many node ua ya un uc yn yc _ vo vk vs L (fun k => k = p1 ∨ k = p1 + 1 ∨ (∃ a, ua = some a ∧ a.block = k) ∨ (∃ a, ya = some a ∧ a.block = k)) 8 w6
    (HU.out.below hbw6) (HY.out.below hbw6) HN.out hn4 hSP6.sk HLL.out HL0.out hp1 hp2
    ⟨.inl rfl, .inr (.inl rfl), fun a e => .inr (.inr (.inl ⟨a, e, rfl⟩)), fun a e => .inr (.inr (.inr ⟨a, e, rfl⟩))⟩ (fun k hk => by
     rcases hk with e | e | ⟨a, e, r⟩ | ⟨a, e, r⟩
     · omega
     · omega
     · have := HUT.out.1 a e; omega
     · have := HUT.out.2 a e; omega)
   have HB16 := Lib.hid hb16
   have HBW6 := Lib.hid hbw6
   have hq2 : Boxed w6 (w.heap.size + 1 + 1) 3 (.int .i64 (c : Int)) := (hb16.block _ HQ1.out.lt).trans HQ1.out
   have hq3 : Boxed w6 (w.heap.size + 1 + 1 + 1) 3 (.int .i64 ((0 : Nat) : Int)) := (hb16.block _ HM1.out.lt).trans HM1.out
   have hq0 : Boxed w6 w.heap.size 37 (.pointer (some ⟨T, 0, none⟩)) := ((HB1.out.trans (hb16.mono (by omega))).block _ (by omega)).trans (HO.out 0 _ rfl)
   have hq1 : Boxed w6 (w.heap.size + 1) 3 (.int .i64 (node : Int)) := ((HB1.out.trans (hb16.mono (by omega))).block _ (by omega)).trans (HO.out 1 _ rfl)
   have hro : ∀ k, vo.ownBlock = some k → k < w.heap.size := fun k e => (row_lt HW.out.oo k e).2
   have hrk : ∀ k, vk.ownBlock = some k → k < w.heap.size := fun k e => (row_lt HW.out.kk k e).2
   obtain ⟨n1, hn1e⟩ : ∃ n, w6.heap.size = n := ⟨_, rfl⟩
   rw [hn1e] at hp6
   rw [HKS.out] at hps
   clear hb16 hbw6 hNew hb6 hcall hp1 hp2
   go_wp2
   apply rangeX rfl (enters_of Tryz.func71 (by kernel_rfl) rfl) hps (fun _ _ _ h => h.elim) ?hSk Kp12.t (Kp12.b (fun k hk => ?hSl) (by omega)) (fun _ => rfl)
    (fun pre V => (StI T L (.slice ua un uc) (.slice la ln lc) (.slice ya yn yc) vs ba w.heap.size n1 (standsP (ow, ki) c node (pre.map Subtype.val)) V ∧ Boxed V w.heap.size 37 (.pointer (some ⟨T, 0, none⟩)) ∧ Boxed V (w.heap.size + 1) 3 (.int .i64 (node : Int)) ∧ Boxed V (w.heap.size + 1 + 1) 3 (.int .i64 (c : Int)) ∧ Boxed V (w.heap.size + 1 + 1 + 1) 3 (.int .i64 (pre.length : Int))) ∧ Below T w V ∧ n1 ≤ V.heap.size)
    (fun _ _ _ => False)
   case hSl =>
    rcases hk with e | e | ⟨a, e, r⟩ | ⟨a, e, r⟩
    · omega
    · omega
    · have := HUT.out.1 a e; omega
    · have := HUT.out.2 a e; omega
   case wA => exact fun _ W => W
   case hwA => exact fun x W => Below.refl _ _
   case hSk => exact fun xs V l o o' _ _ _ h => h
   case hKg => exact fun x W hW => Kp12.of_below (fun k hk => by
    rcases hk with e | e | ⟨a, e, r⟩ | ⟨a, e, r⟩
    · omega
    · omega
    · have := HUT.out.1 a e; omega
    · have := HUT.out.2 a e; omega) (Below.refl _ _)
   case hI => exact OwnsX.and (ownsX_cells (fun s W V h hk => ⟨h.1.cellsK hk, hk.2 _ _ _ _ h.2.1, hk.2 _ _ _ _ h.2.2.1, hk.2 _ _ _ _ h.2.2.2.1, hk.2 _ _ _ _ h.2.2.2.2⟩)) (OwnsX.and (OwnsX.below (by omega) (by omega) (fun _ _ _ h => h.elim)) (OwnsX.size _ _ _))
   case hIx => exact fun _ _ _ _ _ hs _ _ => hs
   case h0 => exact ⟨⟨⟨vo, vk, hSP6, fun k e => .inl (hro k e), fun k e => .inl (hrk k e)⟩, hq0, hq1, hq2, hq3⟩, HBW6.out.mono (by omega), by omega⟩
   case hassign =>
    intro l x W K hK
    unfold ksEnc
    gi_wp2
    exact hK
   case hbody =>
    rintro l pre x Wb V hCE ⟨⟨⟨vo1, vk1, hS1, ho1, hk1⟩, b0, b1, b2, b3⟩, hBe, hsz⟩ hlen
    try dsimp only
    obtain ⟨⟨cl, kid⟩, ⟨⟨x1, x2⟩, x3⟩⟩ := x
    dsimp only at x1 x2 x3 ⊢
    have hKD : ∀ q ∈ pre.map Subtype.val, q.1 ≤ 1000 := fun q hq => by
     obtain ⟨r, _, rfl⟩ := List.mem_map.1 hq
     have := r.2.1.2
     omega
    obtain ⟨e1, e2⟩ := stands_len c node (pre.map Subtype.val) (ow, ki) HL.out hKD
    obtain ⟨s, hs⟩ : ∃ s, standsP (ow, ki) c node (pre.map Subtype.val) = s := ⟨_, rfl⟩
    rw [hs] at hS1 e1 e2
    dsimp only at e2
    have hcall : ∀ V1, Below V.heap.size V V1 → Calls Tryz.prog 49 #[.pointer (some ⟨T, 259, none⟩), .int .i64 ((c : Int) + (cl : Int)), .int .i64 (node : Int), .int .i64 (kid : Int)] V1 fun e w' => (∃ v, e = .returned v) ∧ ∃ vo' vk', SpW w' T L (.slice ua un uc) (.slice la ln lc) (.slice ya yn yc) vo' vk' vs (standP s (c + cl) node kid).1 (standP s (c + cl) node kid).2 ba ∧ Keep2 V1 T vo1 vk1 w' vo' vk' := fun V1 hV1 => by
     have h := stand12_any (c + cl) node kid V1 (hS1.below hV1) e1 (by omega) (by omega)
     have e : (((c + cl : Nat)) : Int) = (c : Int) + (cl : Int) := by omega
     rwa [e] at h
    have HS := Lib.hid hs
    have HS1 := Lib.hid hS1
    have HO1 := Lib.hid ho1
    have HK1 := Lib.hid hk1
    have HBE := Lib.hid hBe
    have B0 := Lib.hid b0
    have B1 := Lib.hid b1
    have B2 := Lib.hid b2
    have B3 := Lib.hid b3
    have hpl : pre.length ≤ 1000001 := by omega
    clear hs hS1 ho1 hk1 hBe b0 b1 b2 b3 hKD e1 e2
    gi_wp2
    refine regionR_held_drew (S := fun X => X.cell? ⟨w.heap.size, 0, none⟩ = some (.pointer (some ⟨T, 0, none⟩)) ∧ X.cell? ⟨w.heap.size + 1, 0, none⟩ = some (.int .i64 (node : Int)) ∧ X.cell? ⟨w.heap.size + 1 + 1, 0, none⟩ = some (.int .i64 (c : Int))) mixed (by kernel_rfl) ⟨B0.out.cell, B1.out.cell, B2.out.cell⟩ (fun hHeld => ?_)
    obtain ⟨V1, hV1⟩ : ∃ X, X = V.drew := ⟨_, rfl⟩
    have hbV : Below V.heap.size V V1 := by rw [hV1]; exact bel_drewN V 1
    rw [← hV1] at hHeld ⊢
    clear hV1
    have kw : IntKind.i64.wrap ((c : Int) + (cl : Int)) = (c : Int) + (cl : Int) := by rw [IntKind.wrap_i64]; omega
    change wpAnyH _ _ _ _ _ 9 _ _ _
    iterate 8 (refine tkF 8 (v := ?_) ?_ ?_; rotate_left; (· intro V hV; obtain ⟨q0, q1, q2⟩ := hV; first | (go_simp; done) | (go_simp; with_reducible rfl)); try simp only [Act.put, pA, pB, pC])
    refine rdy 8 (fun K hK => ?_)
    go_simp
    go_at_call 49; refine (hcall V1 hbV).mono ?_; rintro e V2 ⟨⟨_, rfl⟩, vo2, vk2, hS2, hK2⟩
    have hsame : ∀ k, (w.heap.size ≤ k ∧ k < n1) ∨ k < T → V2.heap[k]? = V.heap[k]? := fun k h1 => (hK2.same k (by have := hbV.size; omega) (by omega) (fun e => by have := HO1.out k e; have := (row_lt HS1.out.oo k e).1; omega) (fun e => by have := HK1.out k e; have := (row_lt HS1.out.kk k e).1; omega)).trans (hbV.block k (by omega))
    have B0 := Lib.hid ((hsame _ (by omega)).trans B0.out)
    have B1 := Lib.hid ((hsame _ (by omega)).trans B1.out)
    have B2 := Lib.hid ((hsame _ (by omega)).trans B2.out)
    have b3 : Boxed V2 (w.heap.size + 1 + 1 + 1) 3 (.int .i64 (pre.length : Int)) := (hsame _ (by omega)).trans B3.out
    refine hK.out _ _ ⟨Boxed.cell B0.out, Boxed.cell B1.out, Boxed.cell B2.out⟩ (fun hNew => ?_)
    clear hK K hHeld hNew
    try simp only [Act.put, pA, pB, pC]
    refine wpAnyH_done (by kernel_rfl) ?_ _
    refine OnlyN.normal ?_
    have d1 := b3.cell
    have d2 := b3.frozen
    have d3 := b3.lt
    have B3 := Lib.hid b3
    have HK2 := Lib.hid hK2
    have HS2 := Lib.hid hS2
    have HSA := Lib.hid hsame
    have HBV := Lib.hid hbV
    clear hK2 hS2 hsame hbV b3
    have hvs : ∀ k, vs.ownBlock = some k → k < w.heap.size := fun k e => (row_lt HW.out.ss k e).2
    have ho2 : ∀ k, vo2.ownBlock = some k → k < w.heap.size ∨ n1 ≤ k := fun k e => by
     rcases HK2.out.ro k e with h | h
     · exact HO1.out k h
     · have := HBV.out.size; omega
    have hk2 : ∀ k, vk2.ownBlock = some k → k < w.heap.size ∨ n1 ≤ k := fun k e => by
     rcases HK2.out.rk k e with h | h
     · exact HK1.out k h
     · have := HBV.out.size; omega
    have hS3 := HS2.out.other (q := w.heap.size + 1 + 1 + 1) (.int .i64 ((pre.length : Int) + 1)) (by omega) (fun e => by have := ho2 _ e; omega) (fun e => by have := hk2 _ e; omega) (fun e => by have := hvs _ e; omega)
    have HO2 := Lib.hid ho2
    have HK22 := Lib.hid hk2
    have HS3 := Lib.hid hS3
    clear hvs ho2 hk2 hS3
    gi_wp2
    refine ⟨((keepsFrom_of_below HBV.out).trans (keep2_from (HS1.out.below HBV.out) HK2.out)).trans ((KeepsOthers.setCell V2 ⟨w.heap.size + 1 + 1 + 1, 0, none⟩ _).from _), ⟨fun k hk => ?_, keep2_sk (L' := L) HS1.out HS3.out⟩, ⟨⟨vo2, vk2, ?_, HO2.out, HK22.out⟩, (Boxed.other B0.out (by omega) _), (Boxed.other B1.out (by omega) _), (Boxed.other B2.out (by omega) _), ?_⟩, ((HBE.out.trans (HBV.out.mono (by omega))).trans HK2.out.bel).setCell (by show T ≤ w.heap.size + 1 + 1 + 1; omega) _, ?_⟩
    ·
     have hk' : (w.heap.size ≤ k ∧ k < n1) ∨ k < T := by
      rcases hk with e | e | ⟨a, e, r⟩ | ⟨a, e, r⟩
      · omega
      · omega
      · have := HUT.out.1 a e; omega
      · have := HUT.out.2 a e; omega
     have hk'' : k ≠ w.heap.size + 1 + 1 + 1 := by
      rcases hk with e | e | ⟨a, e, r⟩ | ⟨a, e, r⟩
      · omega
      · omega
      · have := HUT.out.1 a e; omega
      · have := HUT.out.2 a e; omega
     exact (Below.heap_setCell V2 ⟨w.heap.size + 1 + 1 + 1, 0, none⟩ _ k hk'').trans (HSA.out k hk')
    ·
     rw [List.map_append, List.map_singleton, stands_snoc, HS.out]
     exact HS3.out
    ·
     have h := B3.out.set (.int .i64 ((pre.length : Int) + 1))
     rw [List.length_append, List.length_singleton]
     exact h
    ·
     have h1 := HBV.out.size
     have h2 := HK2.out.size
     simp [World.setCell]
     omega
   case hstop => exact fun _ _ _ _ _ _ h _ => h.elim
   case hdone =>
    rintro D zs V hD hS ⟨⟨⟨vo1, vk1, hS1, ho1, hk1⟩, b0, b1, b2, b3⟩, hBe, hsz⟩ hD2
    rw [hS] at hS1
    obtain ⟨s, hs⟩ : ∃ s, standsP (ow, ki) c node KS = s := ⟨_, rfl⟩
    rw [hs] at hS1
    obtain ⟨bz, hbz⟩ : ∃ z : Int, (if KS = [] then (-1 : Int) else (c : Int)) = z := ⟨_, rfl⟩
    have HBQ := Lib.hid hbz
    have hD' : w.heap.size + 1 + 1 + 1 < D := by have := hs4; omega
    have hvs : ∀ k, vs.ownBlock = some k → k < w.heap.size := fun k e => (row_lt HW.out.ss k e).2
    have HVS := Lib.hid hvs
    have hzl : zs.length = KS.length := by rw [← hS, List.length_map]
    have HSS := Lib.hid hs
    have HS1 := Lib.hid hS1
    have HO1 := Lib.hid ho1
    have HK1 := Lib.hid hk1
    have HBE := Lib.hid hBe
    have B0 := Lib.hid b0
    have B2 := Lib.hid b2
    have HD2 := Lib.hid hD2
    have f3 := b3.cell
    have f2 := b2.frozen
    have f1 := b2.lt
    have f0 := b2.cell
    clear hS hs hvs hS1 ho1 hk1 hBe b0 b1 b2 b3 hD2
    by_cases hz : KS = []
    ·
     rw [if_pos hz] at hbz
     rw [hz, List.length_nil] at hzl
     have hbz' : bz = -1 := hbz.symm
     have HBZ := Lib.hid (And.intro hz hbz')
     clear hz hbz hbz'
     rw [hzl] at f3
     go_upto_region 11 with fail
     obtain ⟨V7, hV7⟩ : ∃ X, X = V.setCell ⟨w.heap.size + 1 + 1, 0, none⟩ (.int .i64 (-1)) := ⟨_, rfl⟩
     have HS7 : Hid (SpW V7 T L (.slice ua un uc) (.slice la ln lc) (.slice ya yn yc) vo1 vk1 vs s.1 s.2 ba) := by rw [hV7]; exact HS1.out.other _ (by omega) (fun e => by have := HO1.out _ e; omega) (fun e => by have := HK1.out _ e; omega) (fun e => by have := HVS.out _ e; omega)
     have B0 : Hid (Boxed V7 w.heap.size 37 (.pointer (some ⟨T, 0, none⟩))) := by rw [hV7]; exact B0.out.other (by omega) _
     have B2 : Hid (Boxed V7 (w.heap.size + 1 + 1) 3 (.int .i64 bz)) := by rw [hV7]; exact by rw [HBZ.out.2]; exact B2.out.set (.int .i64 (-1))
     have HBE7 : Hid (Below T w V7) := by rw [hV7]; exact HBE.out.setCell (by show T ≤ w.heap.size + 1 + 1; omega) _
     have HD7 : Hid (V7.heap[D]? = some (.deferred (some []))) := by rw [hV7]; exact (Below.heap_setCell V ⟨w.heap.size + 1 + 1, 0, none⟩ _ D (by show D ≠ w.heap.size + 1 + 1; omega)).trans HD2.out
     have hsz7 : n1 ≤ V7.heap.size := by rw [hV7]; simpa [World.setCell] using hsz
     rw [← hV7]
     clear hV7
     have hss := HS7.out.ss
     unfold OwnI at hss
     obtain ⟨sa, sc, rfl, _, _⟩ := SlK.own hss
     refine wp_region_noPanic ?_
     refine wp_region_held_drew (S := fun X => X.cell? ⟨w.heap.size, 0, none⟩ = some (.pointer (some ⟨T, 0, none⟩)) ∧ X.cell? ⟨w.heap.size + 1 + 1, 0, none⟩ = some (.int .i64 bz)) (by kernel_rfl) ⟨B0.out.cell, B2.out.cell⟩ (fun hHeld => ?_)
     obtain ⟨V8, hV8⟩ : ∃ X, X = V7.drew := ⟨_, rfl⟩
     have hb78 : Below V7.heap.size V7 V8 := by rw [hV8]; exact bel_drewN V7 1
     rw [← hV8] at hHeld ⊢
     clear hV8 hss
     have HS8 := Lib.hid (HS7.out.below hb78)
     have q5 : V8.cell? ⟨T, 261, none⟩ = some (.slice sa ba.length sc) := HS8.out.sk.cells.2.2.2
     have Q5 := Lib.hid q5
     clear q5
     refine tkW 0 (v := ?_) ?_ ?_
     rotate_left
     ·
      intro V hV
      obtain ⟨q0, q2⟩ := hV
      first | (go_simp; done) | (go_simp; with_reducible rfl)
     try simp only [Act.put, pA, pB, pC]
     refine tkW 1 (v := ?_) ?_ ?_
     rotate_left
     ·
      intro V hV
      obtain ⟨q0, q2⟩ := hV
      first | (go_simp; done) | (go_simp; with_reducible rfl)
     try simp only [Act.put, pA, pB, pC]
     refine tkW 2 (v := ?_) ?_ ?_
     rotate_left
     ·
      intro V hV
      obtain ⟨q0, q2⟩ := hV
      first | (go_simp; done) | (go_simp; with_reducible rfl)
     try simp only [Act.put, pA, pB, pC]
     refine tkW 3 (v := ?_) ?_ ?_
     rotate_left
     ·
      intro V hV
      obtain ⟨q0, q2⟩ := hV
      first | (go_simp; done) | (go_simp; with_reducible rfl)
     try simp only [Act.put, pA, pB, pC]
     refine tkW 4 (v := ?_) ?_ ?_
     rotate_left
     ·
      intro V hV
      obtain ⟨q0, q2⟩ := hV
      first | (go_simp; done) | (go_simp; with_reducible rfl)
     try simp only [Act.put, pA, pB, pC]
     refine tkW 6 (v := ?_) ?_ ?_
     rotate_left
     ·
      intro V hV
      obtain ⟨q0, q2⟩ := hV
      first | (go_simp; done) | (go_simp; with_reducible rfl)
     try simp only [Act.put, pA, pB, pC]
     have hsA : ∀ X : World, Below V8.heap.size V8 X → X.cell? ⟨w.heap.size, 0, none⟩ = some (.pointer (some ⟨T, 0, none⟩)) ∧ X.cell? ⟨w.heap.size + 1 + 1, 0, none⟩ = some (.int .i64 bz) := fun X hX => by
      have h1 := hb78.size
      exact ⟨(hX.cell (p := ⟨w.heap.size, 0, none⟩) (by show w.heap.size < _; omega)).trans hHeld.1, (hX.cell (p := ⟨w.heap.size + 1 + 1, 0, none⟩) (by show w.heap.size + 1 + 1 < _; omega)).trans hHeld.2⟩
     have HSA := Lib.hid hsA
     have HSD := Lib.hid hHeld
     have HB78 := Lib.hid hb78
     clear hsA hHeld hb78
     refine wpAnyH_ready (rs := [5,7]) (by as_aux_lemma => kernel_rfl) (by simp) ?_
     refine AllReadyH.cons (by simp only [pD, pE, pF]; rfl) (fun K hK => ?_) (AllReadyH.cons (by simp only [pD, pE, pF]; rfl) (fun K hK => ?_) AllReadyH.nil)
     ·
      have q5 := Q5.out
      go_simp
      refine hK.out _ _ HSD.out (fun _ => ?_)
      clear hK K q5
      try simp only [Act.put, pA, pB, pC]
      refine rdy 7 (fun K hK => ?_)
      go_simp
      refine hK.out _ _ (HSA.out _ (below_alloc V8 _)) (fun _ => ?_)
      clear hK K
      try simp only [Act.put, pA, pB, pC]
      have hSA := HS8.out.below (below_alloc V8 (.cells #[.int .i64 bz] 3))
      have hownA := hSA.ss
      unfold OwnI at hownA
      have hszA : T + 1 ≤ (V8.alloc (.cells #[.int .i64 bz] 3)).heap.size := by have := HS8.out.sk.lt; simp; omega
      have hslA := slk_new V8 bz
      refine rdy 8 (fun K hK => ?_)
      refine wanted_step (by kernel_rfl) ?_
      refine oper_append_slK _ _ _ 32 rfl (T + 1) 3 i0 (.int .i64 0) 1 8 Tryz.underlying32 hi hz0 hz1 hz2 rfl (by decide) _ ba.length _ rfl hownA (some ⟨V8.heap.size, 0, none⟩) 1 1 [.int .i64 bz] rfl hslA (by simp [Value.oneCell']) (by unfold maxLen; omega) (by omega) hszA ?_
      intro v9 W9 ho9 hg9 hat9
      have hns : ∀ k, w.heap.size ≤ k → k < V8.heap.size → W9.heap[k]? = V8.heap[k]? := fun k h1 h2 => (hg9.block k (by simp; omega) (fun e => by have := HVS.out k e.symm; omega)).trans (Below.heap_alloc _ _ _ h2)
      have hV8 := HB78.out.size
      have hS9 : W9.cell? ⟨w.heap.size, 0, none⟩ = some (.pointer (some ⟨T, 0, none⟩)) ∧ W9.cell? ⟨w.heap.size + 1 + 1, 0, none⟩ = some (.int .i64 bz) := ⟨(World.cell?_of_block (a := ⟨w.heap.size, 0, none⟩) (hns w.heap.size (Nat.le_refl _) (by omega))).trans HSD.out.1, (World.cell?_of_block (a := ⟨w.heap.size + 1 + 1, 0, none⟩) (hns (w.heap.size + 1 + 1) (by omega) (by omega))).trans HSD.out.2⟩
      obtain ⟨s9, t9, rfl, _, _⟩ := SlK.own ho9
      have ho9' : OwnI W9 (T + 1) (.slice s9 (ba.length + 1) t9) (ba ++ [bz]) := by
       unfold OwnI
       rw [List.length_append, List.map_append]
       exact ho9
      have hfar : (Value.slice sa ba.length sc).ownBlock ≠ some T := fun e => by have := (row_lt hownA _ e).1; omega
      have hsk9 : Sk W9 T L (.slice ua un uc) (.slice la ln lc) (.slice ya yn yc) vo1 vk1 (.slice sa ba.length sc) := ⟨(hg9.block T (by simp; have := HS8.out.sk.lt; omega) (fun e => hfar e.symm)).trans hSA.sk.box, hSA.sk.len⟩
      have HFIN := Lib.hid (hSA.appS ho9' hg9 hat9)
      have HB9 : Hid (Below T w W9) := (((HBE7.out.trans (HB78.out.mono (by omega))).trans ((below_alloc V8 _).mono (by omega)))).grown hg9 (by simp; omega) (fun k e => by have := (row_lt hownA k e).1; omega)
      have HD9 : Hid (W9.heap[D]? = some (.deferred (some []))) := (hns D (by omega) (by have := (Array.getElem?_eq_some_iff.1 HD7.out).1; omega)).trans ((HB78.out.block D (Array.getElem?_eq_some_iff.1 HD7.out).1).trans HD7.out)
      refine hK.out _ _ hS9 (fun _ => ?_)
      clear hK K hg9 hat9 ho9 ho9' hfar hownA hszA hslA hSA hns
      try simp only [Act.put, pA, pB, pC]
      refine tkW 9 (v := ?_) ?_ ?_
      rotate_left
      ·
       intro V hV
       first | (go_simp; done) | (go_simp; with_reducible rfl)
      try simp only [Act.put, pA, pB, pC]
      refine tkW 10 (v := ?_) ?_ ?_
      rotate_left
      ·
       intro V hV
       first | (go_simp; done) | (go_simp; with_reducible rfl)
      try simp only [Act.put, pA, pB, pC]
      refine tkW 11 (v := ?_) ?_ ?_
      rotate_left
      ·
       intro V hV
       first | (go_simp; done) | (go_simp; with_reducible rfl)
      try simp only [Act.put, pA, pB, pC]
      have e1 := hsk9.cells.2.2.2
      have e2 := hsk9.lt
      have e4 : W9.frozen? ⟨T, 261, none⟩ = false := by
       have hbx := hsk9.box
       simp [World.frozen?, hbx]
      clear hsk9
      refine rdy 12 (fun K hK => ?_)
      go_simp
      refine hK.out _ _ ⟨(World.cell?_of_block (a := ⟨w.heap.size, 0, none⟩) (Below.heap_setCell W9 ⟨T, 261, none⟩ _ w.heap.size (by show w.heap.size ≠ T; omega))).trans hS9.1, (World.cell?_of_block (a := ⟨w.heap.size + 1 + 1, 0, none⟩) (Below.heap_setCell W9 ⟨T, 261, none⟩ _ (w.heap.size + 1 + 1) (by show w.heap.size + 1 + 1 ≠ T; omega))).trans hS9.2⟩ (fun _ => ?_)
      clear hK K
      try simp only [Act.put, pA, pB, pC]
      refine wpAnyH_done (by kernel_rfl) ?_ _
      refine NoPanic.normal ?_
      have hDT : D ≠ T := by omega
      obtain ⟨X9, hX9⟩ : ∃ X, X = W9.setCell ⟨T, 261, none⟩ (.slice s9 (ba.length + 1) t9) := ⟨_, rfl⟩
      have hD9 : X9.heap[D]? = some (.deferred (some [])) := by rw [hX9]; exact (Below.heap_setCell W9 ⟨T, 261, none⟩ _ D hDT).trans HD9.out
      have hB9 : Below T w X9 := by rw [hX9]; exact HB9.out.setCell (Nat.le_refl _) _
      have hF9 : SpW X9 T L (.slice ua un uc) (.slice la ln lc) (.slice ya yn yc) vo1 vk1 (.slice s9 (ba.length + 1) t9) s.1 s.2 (ba ++ [bz]) := by rw [hX9]; exact HFIN.out
      rw [← hX9]
      have hres : settleP (fun _ => kidsQ L Tr node Tr.up.length) (ow, ki, ba) node = (s.1, s.2, ba ++ [bz]) := by
       unfold settleP
       dsimp only
       rw [HKS.out, HBB.out, HSS.out, HBQ.out]
      have HRES := Lib.hid hres
      clear hX9 hres e1 e2 e4
      go_wp2
      refine endM' rfl hD9 (results_none rfl _ _ _) ⟨⟨_, rfl⟩, vo1, vk1, .slice s9 (ba.length + 1) t9, ?_, put_below hB9 (by omega) (by omega) _⟩
      rw [HRES.out]
      exact hF9.cellsK (CellsK.put hD9 rfl _)
     ·
      go_simp
      refine hK.out _ _ (HSA.out _ (below_alloc V8 _)) (fun _ => ?_)
      clear hK K
      try simp only [Act.put, pA, pB, pC]
      have q5 : (V8.alloc (.cells #[.int .i64 bz] 3)).cell? ⟨T, 261, none⟩ = some (.slice sa ba.length sc) := ((below_alloc V8 _).cell (p := ⟨T, 261, none⟩) HS8.out.sk.lt).trans Q5.out
      refine rdy 5 (fun K hK => ?_)
      go_simp
      refine hK.out _ _ (HSA.out _ (below_alloc V8 _)) (fun _ => ?_)
      clear hK K q5
      try simp only [Act.put, pA, pB, pC]
      have hSA := HS8.out.below (below_alloc V8 (.cells #[.int .i64 bz] 3))
      have hownA := hSA.ss
      unfold OwnI at hownA
      have hszA : T + 1 ≤ (V8.alloc (.cells #[.int .i64 bz] 3)).heap.size := by have := HS8.out.sk.lt; simp; omega
      have hslA := slk_new V8 bz
      refine rdy 8 (fun K hK => ?_)
      refine wanted_step (by kernel_rfl) ?_
      refine oper_append_slK _ _ _ 32 rfl (T + 1) 3 i0 (.int .i64 0) 1 8 Tryz.underlying32 hi hz0 hz1 hz2 rfl (by decide) _ ba.length _ rfl hownA (some ⟨V8.heap.size, 0, none⟩) 1 1 [.int .i64 bz] rfl hslA (by simp [Value.oneCell']) (by unfold maxLen; omega) (by omega) hszA ?_
      intro v9 W9 ho9 hg9 hat9
      have hns : ∀ k, w.heap.size ≤ k → k < V8.heap.size → W9.heap[k]? = V8.heap[k]? := fun k h1 h2 => (hg9.block k (by simp; omega) (fun e => by have := HVS.out k e.symm; omega)).trans (Below.heap_alloc _ _ _ h2)
      have hV8 := HB78.out.size
      have hS9 : W9.cell? ⟨w.heap.size, 0, none⟩ = some (.pointer (some ⟨T, 0, none⟩)) ∧ W9.cell? ⟨w.heap.size + 1 + 1, 0, none⟩ = some (.int .i64 bz) := ⟨(World.cell?_of_block (a := ⟨w.heap.size, 0, none⟩) (hns w.heap.size (Nat.le_refl _) (by omega))).trans HSD.out.1, (World.cell?_of_block (a := ⟨w.heap.size + 1 + 1, 0, none⟩) (hns (w.heap.size + 1 + 1) (by omega) (by omega))).trans HSD.out.2⟩
      obtain ⟨s9, t9, rfl, _, _⟩ := SlK.own ho9
      have ho9' : OwnI W9 (T + 1) (.slice s9 (ba.length + 1) t9) (ba ++ [bz]) := by
       unfold OwnI
       rw [List.length_append, List.map_append]
       exact ho9
      have hfar : (Value.slice sa ba.length sc).ownBlock ≠ some T := fun e => by have := (row_lt hownA _ e).1; omega
      have hsk9 : Sk W9 T L (.slice ua un uc) (.slice la ln lc) (.slice ya yn yc) vo1 vk1 (.slice sa ba.length sc) := ⟨(hg9.block T (by simp; have := HS8.out.sk.lt; omega) (fun e => hfar e.symm)).trans hSA.sk.box, hSA.sk.len⟩
      have HFIN := Lib.hid (hSA.appS ho9' hg9 hat9)
      have HB9 : Hid (Below T w W9) := (((HBE7.out.trans (HB78.out.mono (by omega))).trans ((below_alloc V8 _).mono (by omega)))).grown hg9 (by simp; omega) (fun k e => by have := (row_lt hownA k e).1; omega)
      have HD9 : Hid (W9.heap[D]? = some (.deferred (some []))) := (hns D (by omega) (by have := (Array.getElem?_eq_some_iff.1 HD7.out).1; omega)).trans ((HB78.out.block D (Array.getElem?_eq_some_iff.1 HD7.out).1).trans HD7.out)
      refine hK.out _ _ hS9 (fun _ => ?_)
      clear hK K hg9 hat9 ho9 ho9' hfar hownA hszA hslA hSA hns
      try simp only [Act.put, pA, pB, pC]
      refine tkW 9 (v := ?_) ?_ ?_
      rotate_left
      ·
       intro V hV
       first | (go_simp; done) | (go_simp; with_reducible rfl)
      try simp only [Act.put, pA, pB, pC]
      refine tkW 10 (v := ?_) ?_ ?_
      rotate_left
      ·
       intro V hV
       first | (go_simp; done) | (go_simp; with_reducible rfl)
      try simp only [Act.put, pA, pB, pC]
      refine tkW 11 (v := ?_) ?_ ?_
      rotate_left
      ·
       intro V hV
       first | (go_simp; done) | (go_simp; with_reducible rfl)
      try simp only [Act.put, pA, pB, pC]
      have e1 := hsk9.cells.2.2.2
      have e2 := hsk9.lt
      have e4 : W9.frozen? ⟨T, 261, none⟩ = false := by
       have hbx := hsk9.box
       simp [World.frozen?, hbx]
      clear hsk9
      refine rdy 12 (fun K hK => ?_)
      go_simp
      refine hK.out _ _ ⟨(World.cell?_of_block (a := ⟨w.heap.size, 0, none⟩) (Below.heap_setCell W9 ⟨T, 261, none⟩ _ w.heap.size (by show w.heap.size ≠ T; omega))).trans hS9.1, (World.cell?_of_block (a := ⟨w.heap.size + 1 + 1, 0, none⟩) (Below.heap_setCell W9 ⟨T, 261, none⟩ _ (w.heap.size + 1 + 1) (by show w.heap.size + 1 + 1 ≠ T; omega))).trans hS9.2⟩ (fun _ => ?_)
      clear hK K
      try simp only [Act.put, pA, pB, pC]
      refine wpAnyH_done (by kernel_rfl) ?_ _
      refine NoPanic.normal ?_
      have hDT : D ≠ T := by omega
      obtain ⟨X9, hX9⟩ : ∃ X, X = W9.setCell ⟨T, 261, none⟩ (.slice s9 (ba.length + 1) t9) := ⟨_, rfl⟩
      have hD9 : X9.heap[D]? = some (.deferred (some [])) := by rw [hX9]; exact (Below.heap_setCell W9 ⟨T, 261, none⟩ _ D hDT).trans HD9.out
      have hB9 : Below T w X9 := by rw [hX9]; exact HB9.out.setCell (Nat.le_refl _) _
      have hF9 : SpW X9 T L (.slice ua un uc) (.slice la ln lc) (.slice ya yn yc) vo1 vk1 (.slice s9 (ba.length + 1) t9) s.1 s.2 (ba ++ [bz]) := by rw [hX9]; exact HFIN.out
      rw [← hX9]
      have hres : settleP (fun _ => kidsQ L Tr node Tr.up.length) (ow, ki, ba) node = (s.1, s.2, ba ++ [bz]) := by
       unfold settleP
       dsimp only
       rw [HKS.out, HBB.out, HSS.out, HBQ.out]
      have HRES := Lib.hid hres
      clear hX9 hres e1 e2 e4
      go_wp2
      refine endM' rfl hD9 (results_none rfl _ _ _) ⟨⟨_, rfl⟩, vo1, vk1, .slice s9 (ba.length + 1) t9, ?_, put_below hB9 (by omega) (by omega) _⟩
      rw [HRES.out]
      exact hF9.cellsK (CellsK.put hD9 rfl _)
    ·
     rw [if_neg hz] at hbz
     have hzp : KS.length ≠ 0 := fun e => hz (List.length_eq_zero_iff.1 e)
     rw [hzl] at f3
     have d0 : (((KS.length : Nat) : Int) == 0) = false := by simpa using hz
     have d1 : decide (((KS.length : Nat) : Int) = 0) = false := by simpa using hz
     have HBZ := Lib.hid (And.intro hz hbz.symm)
     clear hz hbz hzp hzl
     go_upto_region 11 with fail
     obtain ⟨V7, hV7⟩ : ∃ X, X = V := ⟨_, rfl⟩
     have HS7 : Hid (SpW V7 T L (.slice ua un uc) (.slice la ln lc) (.slice ya yn yc) vo1 vk1 vs s.1 s.2 ba) := by rw [hV7]; exact HS1.out
     have B0 : Hid (Boxed V7 w.heap.size 37 (.pointer (some ⟨T, 0, none⟩))) := by rw [hV7]; exact B0.out
     have B2 : Hid (Boxed V7 (w.heap.size + 1 + 1) 3 (.int .i64 bz)) := by rw [hV7]; exact by rw [HBZ.out.2]; exact B2.out
     have HBE7 : Hid (Below T w V7) := by rw [hV7]; exact HBE.out
     have HD7 : Hid (V7.heap[D]? = some (.deferred (some []))) := by rw [hV7]; exact HD2.out
     have hsz7 : n1 ≤ V7.heap.size := by rw [hV7]; simpa [World.setCell] using hsz
     rw [← hV7]
     clear hV7
     have hss := HS7.out.ss
     unfold OwnI at hss
     obtain ⟨sa, sc, rfl, _, _⟩ := SlK.own hss
     refine wp_region_noPanic ?_
     refine wp_region_held_drew (S := fun X => X.cell? ⟨w.heap.size, 0, none⟩ = some (.pointer (some ⟨T, 0, none⟩)) ∧ X.cell? ⟨w.heap.size + 1 + 1, 0, none⟩ = some (.int .i64 bz)) (by kernel_rfl) ⟨B0.out.cell, B2.out.cell⟩ (fun hHeld => ?_)
     obtain ⟨V8, hV8⟩ : ∃ X, X = V7.drew := ⟨_, rfl⟩
     have hb78 : Below V7.heap.size V7 V8 := by rw [hV8]; exact bel_drewN V7 1
     rw [← hV8] at hHeld ⊢
     clear hV8 hss
     have HS8 := Lib.hid (HS7.out.below hb78)
     have q5 : V8.cell? ⟨T, 261, none⟩ = some (.slice sa ba.length sc) := HS8.out.sk.cells.2.2.2
     have Q5 := Lib.hid q5
     clear q5
     refine tkW 0 (v := ?_) ?_ ?_
     rotate_left
     ·
      intro V hV
      obtain ⟨q0, q2⟩ := hV
      first | (go_simp; done) | (go_simp; with_reducible rfl)
     try simp only [Act.put, pA, pB, pC]
     refine tkW 1 (v := ?_) ?_ ?_
     rotate_left
     ·
      intro V hV
      obtain ⟨q0, q2⟩ := hV
      first | (go_simp; done) | (go_simp; with_reducible rfl)
     try simp only [Act.put, pA, pB, pC]
     refine tkW 2 (v := ?_) ?_ ?_
     rotate_left
     ·
      intro V hV
      obtain ⟨q0, q2⟩ := hV
      first | (go_simp; done) | (go_simp; with_reducible rfl)
     try simp only [Act.put, pA, pB, pC]
     refine tkW 3 (v := ?_) ?_ ?_
     rotate_left
     ·
      intro V hV
      obtain ⟨q0, q2⟩ := hV
      first | (go_simp; done) | (go_simp; with_reducible rfl)
     try simp only [Act.put, pA, pB, pC]
     refine tkW 4 (v := ?_) ?_ ?_
     rotate_left
     ·
      intro V hV
      obtain ⟨q0, q2⟩ := hV
      first | (go_simp; done) | (go_simp; with_reducible rfl)
     try simp only [Act.put, pA, pB, pC]
     refine tkW 6 (v := ?_) ?_ ?_
     rotate_left
     ·
      intro V hV
      obtain ⟨q0, q2⟩ := hV
      first | (go_simp; done) | (go_simp; with_reducible rfl)
     try simp only [Act.put, pA, pB, pC]
     have hsA : ∀ X : World, Below V8.heap.size V8 X → X.cell? ⟨w.heap.size, 0, none⟩ = some (.pointer (some ⟨T, 0, none⟩)) ∧ X.cell? ⟨w.heap.size + 1 + 1, 0, none⟩ = some (.int .i64 bz) := fun X hX => by
      have h1 := hb78.size
      exact ⟨(hX.cell (p := ⟨w.heap.size, 0, none⟩) (by show w.heap.size < _; omega)).trans hHeld.1, (hX.cell (p := ⟨w.heap.size + 1 + 1, 0, none⟩) (by show w.heap.size + 1 + 1 < _; omega)).trans hHeld.2⟩
     have HSA := Lib.hid hsA
     have HSD := Lib.hid hHeld
     have HB78 := Lib.hid hb78
     clear hsA hHeld hb78
     refine wpAnyH_ready (rs := [5,7]) (by as_aux_lemma => kernel_rfl) (by simp) ?_
     refine AllReadyH.cons (by simp only [pD, pE, pF]; rfl) (fun K hK => ?_) (AllReadyH.cons (by simp only [pD, pE, pF]; rfl) (fun K hK => ?_) AllReadyH.nil)
     ·
      have q5 := Q5.out
      go_simp
      refine hK.out _ _ HSD.out (fun _ => ?_)
      clear hK K q5
      try simp only [Act.put, pA, pB, pC]
      refine rdy 7 (fun K hK => ?_)
      go_simp
      refine hK.out _ _ (HSA.out _ (below_alloc V8 _)) (fun _ => ?_)
      clear hK K
      try simp only [Act.put, pA, pB, pC]
      have hSA := HS8.out.below (below_alloc V8 (.cells #[.int .i64 bz] 3))
      have hownA := hSA.ss
      unfold OwnI at hownA
      have hszA : T + 1 ≤ (V8.alloc (.cells #[.int .i64 bz] 3)).heap.size := by have := HS8.out.sk.lt; simp; omega
      have hslA := slk_new V8 bz
      refine rdy 8 (fun K hK => ?_)
      refine wanted_step (by kernel_rfl) ?_
      refine oper_append_slK _ _ _ 32 rfl (T + 1) 3 i0 (.int .i64 0) 1 8 Tryz.underlying32 hi hz0 hz1 hz2 rfl (by decide) _ ba.length _ rfl hownA (some ⟨V8.heap.size, 0, none⟩) 1 1 [.int .i64 bz] rfl hslA (by simp [Value.oneCell']) (by unfold maxLen; omega) (by omega) hszA ?_
      intro v9 W9 ho9 hg9 hat9
      have hns : ∀ k, w.heap.size ≤ k → k < V8.heap.size → W9.heap[k]? = V8.heap[k]? := fun k h1 h2 => (hg9.block k (by simp; omega) (fun e => by have := HVS.out k e.symm; omega)).trans (Below.heap_alloc _ _ _ h2)
      have hV8 := HB78.out.size
      have hS9 : W9.cell? ⟨w.heap.size, 0, none⟩ = some (.pointer (some ⟨T, 0, none⟩)) ∧ W9.cell? ⟨w.heap.size + 1 + 1, 0, none⟩ = some (.int .i64 bz) := ⟨(World.cell?_of_block (a := ⟨w.heap.size, 0, none⟩) (hns w.heap.size (Nat.le_refl _) (by omega))).trans HSD.out.1, (World.cell?_of_block (a := ⟨w.heap.size + 1 + 1, 0, none⟩) (hns (w.heap.size + 1 + 1) (by omega) (by omega))).trans HSD.out.2⟩
      obtain ⟨s9, t9, rfl, _, _⟩ := SlK.own ho9
      have ho9' : OwnI W9 (T + 1) (.slice s9 (ba.length + 1) t9) (ba ++ [bz]) := by
       unfold OwnI
       rw [List.length_append, List.map_append]
       exact ho9
      have hfar : (Value.slice sa ba.length sc).ownBlock ≠ some T := fun e => by have := (row_lt hownA _ e).1; omega
      have hsk9 : Sk W9 T L (.slice ua un uc) (.slice la ln lc) (.slice ya yn yc) vo1 vk1 (.slice sa ba.length sc) := ⟨(hg9.block T (by simp; have := HS8.out.sk.lt; omega) (fun e => hfar e.symm)).trans hSA.sk.box, hSA.sk.len⟩
      have HFIN := Lib.hid (hSA.appS ho9' hg9 hat9)
      have HB9 : Hid (Below T w W9) := (((HBE7.out.trans (HB78.out.mono (by omega))).trans ((below_alloc V8 _).mono (by omega)))).grown hg9 (by simp; omega) (fun k e => by have := (row_lt hownA k e).1; omega)
      have HD9 : Hid (W9.heap[D]? = some (.deferred (some []))) := (hns D (by omega) (by have := (Array.getElem?_eq_some_iff.1 HD7.out).1; omega)).trans ((HB78.out.block D (Array.getElem?_eq_some_iff.1 HD7.out).1).trans HD7.out)
      refine hK.out _ _ hS9 (fun _ => ?_)
      clear hK K hg9 hat9 ho9 ho9' hfar hownA hszA hslA hSA hns
      try simp only [Act.put, pA, pB, pC]
      refine tkW 9 (v := ?_) ?_ ?_
      rotate_left
      ·
       intro V hV
       first | (go_simp; done) | (go_simp; with_reducible rfl)
      try simp only [Act.put, pA, pB, pC]
      refine tkW 10 (v := ?_) ?_ ?_
      rotate_left
      ·
       intro V hV
       first | (go_simp; done) | (go_simp; with_reducible rfl)
      try simp only [Act.put, pA, pB, pC]
      refine tkW 11 (v := ?_) ?_ ?_
      rotate_left
      ·
       intro V hV
       first | (go_simp; done) | (go_simp; with_reducible rfl)
      try simp only [Act.put, pA, pB, pC]
      have e1 := hsk9.cells.2.2.2
      have e2 := hsk9.lt
      have e4 : W9.frozen? ⟨T, 261, none⟩ = false := by
       have hbx := hsk9.box
       simp [World.frozen?, hbx]
      clear hsk9
      refine rdy 12 (fun K hK => ?_)
      go_simp
      refine hK.out _ _ ⟨(World.cell?_of_block (a := ⟨w.heap.size, 0, none⟩) (Below.heap_setCell W9 ⟨T, 261, none⟩ _ w.heap.size (by show w.heap.size ≠ T; omega))).trans hS9.1, (World.cell?_of_block (a := ⟨w.heap.size + 1 + 1, 0, none⟩) (Below.heap_setCell W9 ⟨T, 261, none⟩ _ (w.heap.size + 1 + 1) (by show w.heap.size + 1 + 1 ≠ T; omega))).trans hS9.2⟩ (fun _ => ?_)
      clear hK K
      try simp only [Act.put, pA, pB, pC]
      refine wpAnyH_done (by kernel_rfl) ?_ _
      refine NoPanic.normal ?_
      have hDT : D ≠ T := by omega
      obtain ⟨X9, hX9⟩ : ∃ X, X = W9.setCell ⟨T, 261, none⟩ (.slice s9 (ba.length + 1) t9) := ⟨_, rfl⟩
      have hD9 : X9.heap[D]? = some (.deferred (some [])) := by rw [hX9]; exact (Below.heap_setCell W9 ⟨T, 261, none⟩ _ D hDT).trans HD9.out
      have hB9 : Below T w X9 := by rw [hX9]; exact HB9.out.setCell (Nat.le_refl _) _
      have hF9 : SpW X9 T L (.slice ua un uc) (.slice la ln lc) (.slice ya yn yc) vo1 vk1 (.slice s9 (ba.length + 1) t9) s.1 s.2 (ba ++ [bz]) := by rw [hX9]; exact HFIN.out
      rw [← hX9]
      have hres : settleP (fun _ => kidsQ L Tr node Tr.up.length) (ow, ki, ba) node = (s.1, s.2, ba ++ [bz]) := by
       unfold settleP
       dsimp only
       rw [HKS.out, HBB.out, HSS.out, HBQ.out]
      have HRES := Lib.hid hres
      clear hX9 hres e1 e2 e4
      go_wp2
      refine endM' rfl hD9 (results_none rfl _ _ _) ⟨⟨_, rfl⟩, vo1, vk1, .slice s9 (ba.length + 1) t9, ?_, put_below hB9 (by omega) (by omega) _⟩
      rw [HRES.out]
      exact hF9.cellsK (CellsK.put hD9 rfl _)
     ·
      go_simp
      refine hK.out _ _ (HSA.out _ (below_alloc V8 _)) (fun _ => ?_)
      clear hK K
      try simp only [Act.put, pA, pB, pC]
      have q5 : (V8.alloc (.cells #[.int .i64 bz] 3)).cell? ⟨T, 261, none⟩ = some (.slice sa ba.length sc) := ((below_alloc V8 _).cell (p := ⟨T, 261, none⟩) HS8.out.sk.lt).trans Q5.out
      refine rdy 5 (fun K hK => ?_)
      go_simp
      refine hK.out _ _ (HSA.out _ (below_alloc V8 _)) (fun _ => ?_)
      clear hK K q5
      try simp only [Act.put, pA, pB, pC]
      have hSA := HS8.out.below (below_alloc V8 (.cells #[.int .i64 bz] 3))
      have hownA := hSA.ss
      unfold OwnI at hownA
      have hszA : T + 1 ≤ (V8.alloc (.cells #[.int .i64 bz] 3)).heap.size := by have := HS8.out.sk.lt; simp; omega
      have hslA := slk_new V8 bz
      refine rdy 8 (fun K hK => ?_)
      refine wanted_step (by kernel_rfl) ?_
      refine oper_append_slK _ _ _ 32 rfl (T + 1) 3 i0 (.int .i64 0) 1 8 Tryz.underlying32 hi hz0 hz1 hz2 rfl (by decide) _ ba.length _ rfl hownA (some ⟨V8.heap.size, 0, none⟩) 1 1 [.int .i64 bz] rfl hslA (by simp [Value.oneCell']) (by unfold maxLen; omega) (by omega) hszA ?_
      intro v9 W9 ho9 hg9 hat9
      have hns : ∀ k, w.heap.size ≤ k → k < V8.heap.size → W9.heap[k]? = V8.heap[k]? := fun k h1 h2 => (hg9.block k (by simp; omega) (fun e => by have := HVS.out k e.symm; omega)).trans (Below.heap_alloc _ _ _ h2)
      have hV8 := HB78.out.size
      have hS9 : W9.cell? ⟨w.heap.size, 0, none⟩ = some (.pointer (some ⟨T, 0, none⟩)) ∧ W9.cell? ⟨w.heap.size + 1 + 1, 0, none⟩ = some (.int .i64 bz) := ⟨(World.cell?_of_block (a := ⟨w.heap.size, 0, none⟩) (hns w.heap.size (Nat.le_refl _) (by omega))).trans HSD.out.1, (World.cell?_of_block (a := ⟨w.heap.size + 1 + 1, 0, none⟩) (hns (w.heap.size + 1 + 1) (by omega) (by omega))).trans HSD.out.2⟩
      obtain ⟨s9, t9, rfl, _, _⟩ := SlK.own ho9
      have ho9' : OwnI W9 (T + 1) (.slice s9 (ba.length + 1) t9) (ba ++ [bz]) := by
       unfold OwnI
       rw [List.length_append, List.map_append]
       exact ho9
      have hfar : (Value.slice sa ba.length sc).ownBlock ≠ some T := fun e => by have := (row_lt hownA _ e).1; omega
      have hsk9 : Sk W9 T L (.slice ua un uc) (.slice la ln lc) (.slice ya yn yc) vo1 vk1 (.slice sa ba.length sc) := ⟨(hg9.block T (by simp; have := HS8.out.sk.lt; omega) (fun e => hfar e.symm)).trans hSA.sk.box, hSA.sk.len⟩
      have HFIN := Lib.hid (hSA.appS ho9' hg9 hat9)
      have HB9 : Hid (Below T w W9) := (((HBE7.out.trans (HB78.out.mono (by omega))).trans ((below_alloc V8 _).mono (by omega)))).grown hg9 (by simp; omega) (fun k e => by have := (row_lt hownA k e).1; omega)
      have HD9 : Hid (W9.heap[D]? = some (.deferred (some []))) := (hns D (by omega) (by have := (Array.getElem?_eq_some_iff.1 HD7.out).1; omega)).trans ((HB78.out.block D (Array.getElem?_eq_some_iff.1 HD7.out).1).trans HD7.out)
      refine hK.out _ _ hS9 (fun _ => ?_)
      clear hK K hg9 hat9 ho9 ho9' hfar hownA hszA hslA hSA hns
      try simp only [Act.put, pA, pB, pC]
      refine tkW 9 (v := ?_) ?_ ?_
      rotate_left
      ·
       intro V hV
       first | (go_simp; done) | (go_simp; with_reducible rfl)
      try simp only [Act.put, pA, pB, pC]
      refine tkW 10 (v := ?_) ?_ ?_
      rotate_left
      ·
       intro V hV
       first | (go_simp; done) | (go_simp; with_reducible rfl)
      try simp only [Act.put, pA, pB, pC]
      refine tkW 11 (v := ?_) ?_ ?_
      rotate_left
      ·
       intro V hV
       first | (go_simp; done) | (go_simp; with_reducible rfl)
      try simp only [Act.put, pA, pB, pC]
      have e1 := hsk9.cells.2.2.2
      have e2 := hsk9.lt
      have e4 : W9.frozen? ⟨T, 261, none⟩ = false := by
       have hbx := hsk9.box
       simp [World.frozen?, hbx]
      clear hsk9
      refine rdy 12 (fun K hK => ?_)
      go_simp
      refine hK.out _ _ ⟨(World.cell?_of_block (a := ⟨w.heap.size, 0, none⟩) (Below.heap_setCell W9 ⟨T, 261, none⟩ _ w.heap.size (by show w.heap.size ≠ T; omega))).trans hS9.1, (World.cell?_of_block (a := ⟨w.heap.size + 1 + 1, 0, none⟩) (Below.heap_setCell W9 ⟨T, 261, none⟩ _ (w.heap.size + 1 + 1) (by show w.heap.size + 1 + 1 ≠ T; omega))).trans hS9.2⟩ (fun _ => ?_)
      clear hK K
      try simp only [Act.put, pA, pB, pC]
      refine wpAnyH_done (by kernel_rfl) ?_ _
      refine NoPanic.normal ?_
      have hDT : D ≠ T := by omega
      obtain ⟨X9, hX9⟩ : ∃ X, X = W9.setCell ⟨T, 261, none⟩ (.slice s9 (ba.length + 1) t9) := ⟨_, rfl⟩
      have hD9 : X9.heap[D]? = some (.deferred (some [])) := by rw [hX9]; exact (Below.heap_setCell W9 ⟨T, 261, none⟩ _ D hDT).trans HD9.out
      have hB9 : Below T w X9 := by rw [hX9]; exact HB9.out.setCell (Nat.le_refl _) _
      have hF9 : SpW X9 T L (.slice ua un uc) (.slice la ln lc) (.slice ya yn yc) vo1 vk1 (.slice s9 (ba.length + 1) t9) s.1 s.2 (ba ++ [bz]) := by rw [hX9]; exact HFIN.out
      rw [← hX9]
      have hres : settleP (fun _ => kidsQ L Tr node Tr.up.length) (ow, ki, ba) node = (s.1, s.2, ba ++ [bz]) := by
       unfold settleP
       dsimp only
       rw [HKS.out, HBB.out, HSS.out, HBQ.out]
      have HRES := Lib.hid hres
      clear hX9 hres e1 e2 e4
      go_wp2
      refine endM' rfl hD9 (results_none rfl _ _ _) ⟨⟨_, rfl⟩, vo1, vk1, .slice s9 (ba.length + 1) t9, ?_, put_below hB9 (by omega) (by omega) _⟩
      rw [HRES.out]
      exact hF9.cellsK (CellsK.put hD9 rfl _)
end Go.Proofs.YtglfdclpjmhoiaaGreat

/- Fewer places (layer 12), plain: the kids of the words' nodes. -/

namespace Go.Proofs.YtglfdclpjmhoiaaGreat
open Go Go.RowKit Go.Sort

/-- The kids of a node, each with the class of its byte; of what is no node, none. -/
def kQ (fold : Bool) (ws : List (List Int)) (node : Nat) : List (Nat × Nat) := if node < (nodesL ws).length then kidsQ (clsP fold ws) (trieP ws) (node : Int) (nodesL ws).length else []
theorem kidsQ_srt (L : List Int) (T : TrieT) (node : Int) : ∀ k, (kidsQ L T node k).Pairwise fun x y => x.2 < y.2
 | 0 => by simp [kidsQ, kidsA]
 | k + 1 => by
  unfold kidsQ kidsA
  rw [List.map_append, List.pairwise_append]
  refine ⟨kidsQ_srt L T node k, ?_, fun x hx y hy => ?_⟩
  · split <;> simp
  ·
   obtain ⟨p, hp, rfl⟩ := List.mem_map.1 hx
   have h1 := (mem_kidsA.1 hp).2.1
   split at hy
   ·
    simp at hy
    rw [hy]
    exact h1
   · simp at hy
theorem mem_kQ {fold : Bool} {ws : List (List Int)} (hg : noGreat fold ws) (hb : ∀ x, wordB ws x → 0 ≤ x ∧ x ≤ 255) {i : Nat} {q : Nat × Nat} :
  q ∈ kQ fold ws i ↔ ∃ (x : List Int) (c j : Nat), (nodesL ws)[i]? = some x ∧ (nodesL ws)[j]? = some (x ++ [(c : Int)]) ∧ q = (clsO (inB fold ws) fold c, j) := by
 unfold kQ
 by_cases hi : i < (nodesL ws).length
 ·
  rw [if_pos hi]
  have hx : (nodesL ws)[i]? = some ((nodesL ws)[i]'hi) := by simp
  rw [mem_kidsQ hg hb hx]
  constructor
  ·
   rintro ⟨c, j, h1, h2⟩
   exact ⟨_, c, j, hx, h1, h2⟩
  ·
   rintro ⟨x, c, j, h0, h1, h2⟩
   rw [hx] at h0
   cases h0
   exact ⟨c, j, h1, h2⟩
 ·
  rw [if_neg hi]
  constructor
  · intro h; cases h
  ·
   rintro ⟨x, c, j, h0, _⟩
   exact absurd (List.getElem?_eq_some_iff.1 h0).1 hi
theorem kQ_cls {fold : Bool} {ws : List (List Int)} (hg : noGreat fold ws) (hb : ∀ x, wordB ws x → 0 ≤ x ∧ x ≤ 255) (i : Nat) : ∀ q ∈ kQ fold ws i, 1 ≤ q.1 ∧ q.1 < manyP fold ws := fun q hq => by
 obtain ⟨x, c, j, _, h1, rfl⟩ := (mem_kQ hg hb).1 hq
 have hw := node_word (List.mem_of_getElem? h1)
 exact ⟨clsO_pos _ _ _, clsO_lt (inB_shut hg) (inB_word hw) (by have := hb _ hw; omega)⟩
theorem kQ_kid {fold : Bool} {ws : List (List Int)} (hg : noGreat fold ws) (hb : ∀ x, wordB ws x → 0 ≤ x ∧ x ≤ 255) (i : Nat) : ∀ q ∈ kQ fold ws i, q.2 < (nodesL ws).length := fun q hq => by
 obtain ⟨x, c, j, _, h1, rfl⟩ := (mem_kQ hg hb).1 hq
 exact (List.getElem?_eq_some_iff.1 h1).1
theorem kQ_apart {fold : Bool} {ws : List (List Int)} (hg : noGreat fold ws) (hb : ∀ x, wordB ws x → 0 ≤ x ∧ x ≤ 255) (i : Nat) : (kQ fold ws i).Pairwise fun x y => x.1 ≠ y.1 := by
 have hs : (kQ fold ws i).Pairwise fun x y => x.2 < y.2 := by
  unfold kQ
  split
  · exact kidsQ_srt _ _ _ _
  · exact List.Pairwise.nil
 refine hs.imp_of_mem (fun {a b} ha hb' hab => ?_)
 obtain ⟨x, c, j, h0, h1, rfl⟩ := (mem_kQ hg hb).1 ha
 obtain ⟨x', c', j', h0', h1', rfl⟩ := (mem_kQ hg hb).1 hb'
 rw [h0] at h0'
 cases h0'
 intro e
 have hc := word_inj hg (node_word (List.mem_of_getElem? h1)) (node_word (List.mem_of_getElem? h1')) e
 subst hc
 have hnd := (nodesL_srt ws).nodup
 have h2 := placeS_at hnd h1
 have h3 := placeS_at hnd h1'
 have hab' : j < j' := hab
 omega
/-- The places of the words. -/
def placesW (fold : Bool) (ws : List (List Int)) (n : Nat) : List Int × List Int × List Int := placesP (kQ fold ws) n
theorem placesW_ok {fold : Bool} {ws : List (List Int)} (hg : noGreat fold ws) (hb : ∀ x, wordB ws x → 0 ≤ x ∧ x ≤ 255) (n : Nat) : PlOK (kQ fold ws) (manyP fold ws) n (placesW fold ws n).1 (placesW fold ws n).2.1 (placesW fold ws n).2.2 := places_ok (kQ_cls hg hb) (kQ_apart hg hb) n
end Go.Proofs.YtglfdclpjmhoiaaGreat

/- Fewer places (layer 12): a set's table is made; walked. -/

namespace Go.Proofs.YtglfdclpjmhoiaaGreat
open Go.RowKit Go.Sort

set_option maxRecDepth 100000
theorem zero_95 : (Tryz.prog.info? 64).map (fun i => i.zero.map Value.cells) = some (some ([Value.slice none 0 0, Value.slice none 0 0, Value.slice none 0 0] ++ (List.replicate 256 0).map (Value.int .i64)).toArray) := by kernel_rfl
theorem places_95 : (match Tryz.prog.underlying 64 with | some (.struct fields) => fields.toList.mapM (fun f => (Tryz.prog.info? f.type).map fun i => (f.offset, i.size)) | _ => none) = some [(0, 1), (1, 1), (2, 1), (3, 256)] := by kernel_rfl
theorem built95_any (L : List Int) (ua la ya : Option Addr) (un uc ln lc yn yc : Nat) (hL : L.length = 256) :
  Tryz.prog.built 64 [(0, Value.slice ua un uc), (1, Value.slice la ln lc), (2, Value.slice ya yn yc), (3, .agg (L.map (Value.int .i64)).toArray)] = some ([Value.slice ua un uc, Value.slice la ln lc, Value.slice ya yn yc] ++ L.map (Value.int .i64)).toArray := by
 obtain ⟨Z0, hZ0, hz⟩ : ∃ Z0 : List Int, Z0.length = 256 ∧ (Tryz.prog.info? 64).map (fun i => i.zero.map Value.cells) = some (some ([Value.slice none 0 0, Value.slice none 0 0, Value.slice none 0 0] ++ Z0.map (Value.int .i64)).toArray) := ⟨_, by rw [List.length_replicate], zero_95⟩
 have hp := places_95
 unfold Program.built
 cases hi : Tryz.prog.info? 64 with
 | none => rw [hi] at hz; cases hz
 | some it =>
  rw [hi] at hz
  simp only [Option.map_some, Option.some.injEq] at hz
  cases hu : Tryz.prog.underlying 64 with
  | none => rw [hu] at hp; cases hp
  | some d =>
   rw [hu] at hp
   cases d <;> try (cases hp; done)
   rename_i fields
   simp only at hp ⊢
   cases hzz : it.zero with
   | none => rw [hzz] at hz; cases hz
   | some z =>
    rw [hzz] at hz
    simp only [Option.map_some, Option.some.injEq] at hz
    simp only [hp, hz]
    have e0 : ([Value.slice none 0 0, Value.slice none 0 0, Value.slice none 0 0] ++ Z0.map (Value.int .i64)).toArray = (([] : List Value) ++ [Value.slice none 0 0] ++ ([Value.slice none 0 0, Value.slice none 0 0] ++ Z0.map (Value.int .i64))).toArray := by simp
    have e1 : ([] : List Value) ++ [Value.slice ua un uc] ++ ([Value.slice none 0 0, Value.slice none 0 0] ++ Z0.map (Value.int .i64)) = [Value.slice ua un uc] ++ [Value.slice none 0 0] ++ ([Value.slice none 0 0] ++ Z0.map (Value.int .i64)) := by simp
    have e2 : [Value.slice ua un uc] ++ [Value.slice la ln lc] ++ ([Value.slice none 0 0] ++ Z0.map (Value.int .i64)) = [Value.slice ua un uc, Value.slice la ln lc] ++ [Value.slice none 0 0] ++ Z0.map (Value.int .i64) := by simp
    have e3 : [Value.slice ua un uc, Value.slice la ln lc] ++ [Value.slice ya yn yc] ++ Z0.map (Value.int .i64) = [Value.slice ua un uc, Value.slice la ln lc, Value.slice ya yn yc] ++ Z0.map (Value.int .i64) ++ [] := by simp
    have p3 : ([(0, 1), (1, 1), (2, 1), (3, 256)] : List (Nat × Nat)).toArray[3]? = some (([Value.slice ua un uc, Value.slice la ln lc, Value.slice ya yn yc] : List Value).length, (Z0.map (Value.int .i64)).length) := by rw [List.length_map, hZ0]; rfl
    rw [e0, fill_part _ _ [Value.slice none 0 0] _ [Value.slice ua un uc] 0 (Value.slice ua un uc) _ rfl rfl rfl]
    rw [e1, fill_part _ _ [Value.slice none 0 0] _ [Value.slice la ln lc] 1 (Value.slice la ln lc) _ rfl rfl rfl]
    rw [e2, fill_part _ _ [Value.slice none 0 0] _ [Value.slice ya yn yc] 2 (Value.slice ya yn yc) _ rfl rfl rfl]
    rw [e3, fill_part _ _ (Z0.map (Value.int .i64)) [] (L.map (Value.int .i64)) 3 _ _ rfl (by rw [List.length_map, List.length_map, hL, hZ0]) p3]
    simp [Instr.fill]
theorem zero_99 : (Tryz.prog.info? 68).map (fun i => i.zero.map Value.cells) = some (some (([Value.slice none 0 0, Value.slice none 0 0, Value.slice none 0 0] ++ (List.replicate 256 0).map (Value.int .i64)) ++ [Value.slice none 0 0, Value.slice none 0 0, Value.slice none 0 0]).toArray) := by kernel_rfl
theorem places_99 : (match Tryz.prog.underlying 68 with | some (.struct fields) => fields.toList.mapM (fun f => (Tryz.prog.info? f.type).map fun i => (f.offset, i.size)) | _ => none) = some [(0, 259), (259, 3)] := by kernel_rfl
theorem built99_any (L : List Int) (ua la ya : Option Addr) (un uc ln lc yn yc : Nat) (hL : L.length = 256) :
  Tryz.prog.built 68 [(0, .agg ([Value.slice ua un uc, Value.slice la ln lc, Value.slice ya yn yc] ++ L.map (Value.int .i64)).toArray)] = some (skC L (Value.slice ua un uc) (Value.slice la ln lc) (Value.slice ya yn yc) (Value.slice none 0 0) (Value.slice none 0 0) (Value.slice none 0 0)).toArray := by
 obtain ⟨Z0, hZ0, hz⟩ : ∃ Z0 : List Int, Z0.length = 256 ∧ (Tryz.prog.info? 68).map (fun i => i.zero.map Value.cells) = some (some (([Value.slice none 0 0, Value.slice none 0 0, Value.slice none 0 0] ++ Z0.map (Value.int .i64)) ++ [Value.slice none 0 0, Value.slice none 0 0, Value.slice none 0 0]).toArray) := ⟨_, by rw [List.length_replicate], zero_99⟩
 have hp := places_99
 unfold Program.built
 cases hi : Tryz.prog.info? 68 with
 | none => rw [hi] at hz; cases hz
 | some it =>
  rw [hi] at hz
  simp only [Option.map_some, Option.some.injEq] at hz
  cases hu : Tryz.prog.underlying 68 with
  | none => rw [hu] at hp; cases hp
  | some d =>
   rw [hu] at hp
   cases d <;> try (cases hp; done)
   rename_i fields
   simp only at hp ⊢
   cases hzz : it.zero with
   | none => rw [hzz] at hz; cases hz
   | some z =>
    rw [hzz] at hz
    simp only [Option.map_some, Option.some.injEq] at hz
    simp only [hp, hz]
    have e0 : (([Value.slice none 0 0, Value.slice none 0 0, Value.slice none 0 0] ++ Z0.map (Value.int .i64)) ++ [Value.slice none 0 0, Value.slice none 0 0, Value.slice none 0 0]).toArray = (([] : List Value) ++ ([Value.slice none 0 0, Value.slice none 0 0, Value.slice none 0 0] ++ Z0.map (Value.int .i64)) ++ [Value.slice none 0 0, Value.slice none 0 0, Value.slice none 0 0]).toArray := by simp
    have p0 : ([(0, 259), (259, 3)] : List (Nat × Nat)).toArray[0]? = some (([] : List Value).length, ([Value.slice none 0 0, Value.slice none 0 0, Value.slice none 0 0] ++ Z0.map (Value.int .i64)).length) := by rw [List.length_append, List.length_map, hZ0]; rfl
    rw [e0, fill_part _ _ _ _ ([Value.slice ua un uc, Value.slice la ln lc, Value.slice ya yn yc] ++ L.map (Value.int .i64)) 0 _ _ rfl (by rw [List.length_append, List.length_append, List.length_map, List.length_map, hL, hZ0]; rfl) p0]
    simp [Instr.fill, skC]

set_option maxHeartbeats 8000000 in
theorem make12_no (fold : Bool) (a : Option Addr) (la ca : Nat) (wss : List (List Int)) (w : World) (hA : Wds w a la wss) (hla : la ≤ 1000000) (hM : ∀ x ∈ wss, x.length ≤ 1000000) (hT : (begL fold wss).length ≤ 1000000) (hr : rightP fold wss = false) :
  Calls Tryz.prog 10 #[.agg (setV fold a la ca)] w fun e w' => e = .returned (.tuple #[.pointer none, .int .i64 2]) ∧ Below w.heap.size w w' := by
 obtain ⟨W, hW⟩ : ∃ W, W = w.alloc (.cells (setV fold a la ca) 24) := ⟨_, rfl⟩
 have hB : Below w.heap.size w W := by rw [hW]; exact (Below.refl _ _).alloc (Nat.le_refl _) _
 have hO : Bx w.heap.size [.cells (setV fold a la ca) 24] W := by rw [hW]; exact (Bx.nil _ w).snoc _ rfl
 have s0 : W.cell? ⟨w.heap.size, 0, none⟩ = some (.bool fold) := hO.cell (i := 0) rfl rfl
 have s1 : W.cell? ⟨w.heap.size, 1, none⟩ = some (.slice a la ca) := hO.cell (i := 0) rfl rfl
 have HC := Lib.hid (make7_no fold a la ca wss W (hA.below hB) hla hM hT hr)
 have HB := Lib.hid hB
 clear hr hO hB hA
 go_enter Tryz.func10, Tryz.ntmps10
 go_upto_region 1 with fail
 rw [← hW]
 clear hW
 go_wp2_with (go_at_call 26; refine HC.out.mono ?_; rintro e w1 ⟨rfl, hb1⟩)
 refine bodyPost_ret (results_tmp2 rfl _ _ _) rfl ?_
 exact ⟨rfl, (HB.out.trans (hb1.mono HB.out.size)).alloc (Nat.le_trans HB.out.size hb1.size) _⟩

set_option maxRecDepth 100000 in
set_option maxHeartbeats 8000000 in
theorem make12_yes (fold : Bool) (a : Option Addr) (la ca : Nat) (wss : List (List Int)) (w : World) (hA : Wds w a la wss) (hla : la ≤ 1000000) (hM : ∀ x ∈ wss, x.length ≤ 1000000) (hT : (begL fold wss).length ≤ 1000000) (hr : rightP fold wss = true) :
  Calls Tryz.prog 10 #[.agg (setV fold a la ca)] w fun e w' => ∃ (T : Nat) (t : TV) (q : Nat) (vo vk vs : Value), e = .returned (.tuple #[.pointer (some ⟨T, 0, none⟩), .int .i64 0]) ∧
   SpW w' T (clsP fold wss) (.slice t.ua t.un t.uc) (.slice (some ⟨q, 0, none⟩) (nodesL wss).length (nodesL wss).length) (.slice t.ba t.bn t.bc) vo vk vs (placesW fold wss (nodesL wss).length).1 (placesW fold wss (nodesL wss).length).2.1 (placesW fold wss (nodesL wss).length).2.2 ∧
   Tri w' t (trieP wss) ∧ IntRow q (linksP wss) w' ∧ w.heap.size ≤ T ∧ Below w.heap.size w w' := by
 obtain ⟨W, hW⟩ : ∃ W, W = w.alloc (.cells (setV fold a la ca) 24) := ⟨_, rfl⟩
 have hB : Below w.heap.size w W := by rw [hW]; exact (Below.refl _ _).alloc (Nat.le_refl _) _
 have hO : Bx w.heap.size [.cells (setV fold a la ca) 24] W := by rw [hW]; exact (Bx.nil _ w).snoc _ rfl
 have s0 : W.cell? ⟨w.heap.size, 0, none⟩ = some (.bool fold) := hO.cell (i := 0) rfl rfl
 have s1 : W.cell? ⟨w.heap.size, 1, none⟩ = some (.slice a la ca) := hO.cell (i := 0) rfl rfl
 have hA2 := hA.below hB
 have hrd : readP (trieP wss) = some (nodesL wss, wss) := readP_iff.2 ⟨right_false hr, rfl, rfl⟩
 have HG : Hid (noGreat fold wss) := noGreat_of (right_nodup hr).2
 have HBY : Hid (∀ x, wordB wss x → 0 ≤ x ∧ x ≤ 255) := fun x ⟨w, hw, hx⟩ => hA2.bytes w hw x hx
 have HC := Lib.hid (make7_yes fold a la ca wss W hA2 hla hM hT hr)
 have HO := Lib.hid hO
 have HA2 := Lib.hid hA2
 have HRD := Lib.hid hrd
 have HRT := Lib.hid hr
 have HM := Lib.hid hM
 have HT := Lib.hid hT
 have HB := Lib.hid hB
 clear hr hO hA hA2 hrd hM hT hB
 go_enter Tryz.func10, Tryz.ntmps10
 go_upto_region 1 with fail
 rw [← hW]
 clear hW
 go_upto_region 4 with (go_at_call 26; refine HC.out.mono ?_; rintro e w1 ⟨t, rfl, hT1, hb1⟩)
 obtain ⟨W2, hW2⟩ : ∃ W2, W2 = w1.alloc (.cells #[.slice t.ua t.un t.uc, .slice t.da t.dn t.dc, .slice t.xa t.xn t.xc, .slice t.ba t.bn t.bc] 34) := ⟨_, rfl⟩
 have hB2 : Below W.heap.size W W2 := by rw [hW2]; exact hb1.alloc hb1.size _
 have hB12 : Below w1.heap.size w1 W2 := by rw [hW2]; exact below_alloc _ _
 have hO2 : Bx w1.heap.size [.cells #[.slice t.ua t.un t.uc, .slice t.da t.dn t.dc, .slice t.xa t.xn t.xc, .slice t.ba t.bn t.bc] 34] W2 := by rw [hW2]; exact (Bx.nil _ w1).snoc _ rfl
 have hT2 := hT1.below hB12
 rw [← hW2]
 have v0 : W2.cell? ⟨w1.heap.size, 0, none⟩ = some (.slice t.ua t.un t.uc) := hO2.cell (i := 0) rfl rfl
 have v1 : W2.cell? ⟨w1.heap.size, 1, none⟩ = some (.slice t.da t.dn t.dc) := hO2.cell (i := 0) rfl rfl
 have v2 : W2.cell? ⟨w1.heap.size, 2, none⟩ = some (.slice t.xa t.xn t.xc) := hO2.cell (i := 0) rfl rfl
 have v3 : W2.cell? ⟨w1.heap.size, 3, none⟩ = some (.slice t.ba t.bn t.bc) := hO2.cell (i := 0) rfl rfl
 have hn4 : (nodesL wss).length ≤ 400 := read_n HRD.out
 have hun : t.un = (nodesL wss).length := by rw [← up_len]; exact hT2.up.1.symm
 have HL := Lib.hid (links8_yes t (trieP wss) (nodesL wss) wss W2 hT2 (by omega) HRD.out)
 have HO2 := Lib.hid hO2
 have HT2 := Lib.hid hT2
 have HB2 := Lib.hid hB2
 clear hW2 hB12 hO2 hT2 hT1 hb1 hun s0 s1
 go_upto_region 7 with (go_at_call 27; refine HL.out.mono ?_; rintro e w3 ⟨q, rfl, hq, hql, hb3⟩)
 have hB3 : Below W.heap.size W w3 := HB2.out.trans (hb3.mono HB2.out.size)
 have hOr := HO.out.below hB3
 have s0 : w3.cell? ⟨w.heap.size, 0, none⟩ = some (.bool fold) := hOr.cell (i := 0) rfl rfl
 have s1 : w3.cell? ⟨w.heap.size, 1, none⟩ = some (.slice a la ca) := hOr.cell (i := 0) rfl rfl
 have HF := Lib.hid (of10_yes fold a la ca wss w3 (HA2.out.below hB3) hla HM.out HT.out HRT.out)
 have HT3 := Lib.hid (HT2.out.below hb3)
 have HO3 := Lib.hid (HO2.out.below hb3)
 have HQ3 := Lib.hid hq
 have HB3 := Lib.hid hB3
 have hw1 : w1.heap.size < w3.heap.size := (Array.getElem?_eq_some_iff.1 (HO3.out 0 _ rfl)).1
 clear hOr v0 v1 v2 v3 hq hb3 hB3
 have hs25 : (Tryz.zeroCells51).size = (((clsP fold wss).map (Value.int .i64)).toArray).size := by rw [zero25, rowI_size, rowI_size, clsP_len]; simp
 have hi25 : (Tryz.prog.info? 51).map (·.size) = some (((clsP fold wss).map (Value.int .i64)).toArray).size := by rw [rowI_size, clsP_len]; exact info25
 have HS25 := Lib.hid hs25
 have HI25 := Lib.hid hi25
 clear hs25 hi25
 go_upto_region 10 with (first
  | (refine wpList_store_row rfl 51 _ _ rfl _ _ rfl rfl 51 _ (heap_alloc_new _ _) HI25.out HS25.out (rowI_one _) ?_)
  | (go_at_call 28; refine HF.out.mono ?_; rintro e w4 ⟨rfl, hb4⟩))
 rw [World.setRow_alloc_new]
 obtain ⟨w5, hw5⟩ : ∃ w5, w5 = w4.alloc (.cells ((clsP fold wss).map (Value.int .i64)).toArray 51) := ⟨_, rfl⟩
 have hB45 : Below w4.heap.size w4 w5 := by rw [hw5]; exact below_alloc _ _
 have hB5 : Below w3.heap.size w3 w5 := hb4.trans (hB45.mono hb4.size)
 have HK5 : Hid (w5.heap[w4.heap.size]? = some (.cells ((clsP fold wss).map (Value.int .i64)).toArray 51 (0, 0))) := by rw [Hid, hw5]; exact heap_alloc_new _ _
 rw [← hw5]
 clear hw5
 have hO5 := HO3.out.below hB5
 have v0 : w5.cell? ⟨w1.heap.size, 0, none⟩ = some (.slice t.ua t.un t.uc) := hO5.cell (i := 0) rfl rfl
 have v1 : w5.cell? ⟨w1.heap.size, 1, none⟩ = some (.slice t.da t.dn t.dc) := hO5.cell (i := 0) rfl rfl
 have v2 : w5.cell? ⟨w1.heap.size, 2, none⟩ = some (.slice t.xa t.xn t.xc) := hO5.cell (i := 0) rfl rfl
 have v3 : w5.cell? ⟨w1.heap.size, 3, none⟩ = some (.slice t.ba t.bn t.bc) := hO5.cell (i := 0) rfl rfl
 have HT5 := Lib.hid (HT3.out.below hB5)
 have HB5 := Lib.hid hB5
 clear hO5 hB5 hB45 hb4 s0 s1
 obtain ⟨n, hn⟩ : ∃ n, (nodesL wss).length = n := ⟨_, rfl⟩
 rw [hn]
 have HN := Lib.hid hn
 obtain ⟨L, hL⟩ : ∃ L, clsP fold wss = L := ⟨_, rfl⟩
 have hLl : L.length = 256 := by rw [← hL]; exact clsP_len _ _
 have HL5 := Lib.hid hL
 rw [hL] at HK5 HI25
 obtain ⟨Z1, hZ1⟩ : ∃ Z, ([Value.slice t.ua t.un t.uc, .slice (some ⟨q, 0, none⟩) n n, .slice t.ba t.bn t.bc] ++ L.map (Value.int .i64)).toArray = Z := ⟨_, rfl⟩
 obtain ⟨Z, hZ⟩ : ∃ Z, (skC L (.slice t.ua t.un t.uc) (.slice (some ⟨q, 0, none⟩) n n) (.slice t.ba t.bn t.bc) (.slice none 0 0) (.slice none 0 0) (.slice none 0 0)).toArray = Z := ⟨_, rfl⟩
 have HBU1 : Hid (Tryz.prog.built 64 [(0, Value.slice t.ua t.un t.uc), (1, .slice (some ⟨q, 0, none⟩) n n), (2, .slice t.ba t.bn t.bc), (3, .agg (L.map (Value.int .i64)).toArray)] = some Z1) := by rw [Hid, ← hZ1]; exact built95_any L _ _ _ _ _ _ _ _ _ hLl
 have HBU : Hid (Tryz.prog.built 68 [(0, Value.agg Z1)] = some Z) := by rw [Hid, ← hZ, ← hZ1]; exact built99_any L _ _ _ _ _ _ _ _ _ hLl
 have HZe := Lib.hid hZ
 have HLl := Lib.hid hLl
 clear hn hL hLl hZ1 hZ
 iterate 16 (first | go_values | go_skip | go_guarded | go_step)
 refine wpList_load_row rfl 51 _ rfl w4.heap.size rfl 51 _ (0, 0) _ HK5.out Tryz.underlying51 rfl HI25.out ?_
 refine wpList_build_to rfl 64 _ rfl Z1 (by go_simp; exact HBU1.out) ?_
 refine wpList_build_to rfl 68 _ rfl Z (by go_simp; exact HBU.out) ?_
 iterate 3 (first | go_values | go_skip | go_guarded | go_step)
 go_upto_region 12 with fail
 obtain ⟨w6, hw6⟩ : ∃ w6, w6 = w5.alloc (.cells Z 68) := ⟨_, rfl⟩
 have hB56 : Below w5.heap.size w5 w6 := by rw [hw6]; exact below_alloc _ _
 have hSK : Sk w6 w5.heap.size L (.slice t.ua t.un t.uc) (.slice (some ⟨q, 0, none⟩) n n) (.slice t.ba t.bn t.bc) (.slice none 0 0) (.slice none 0 0) (.slice none 0 0) := ⟨by rw [hw6, ← HZe.out.symm]; exact heap_alloc_new _ _, HLl.out⟩
 rw [← hw6]
 obtain ⟨T, hTe⟩ : ∃ T, w5.heap.size = T := ⟨_, rfl⟩
 rw [hTe] at hSK hB56 ⊢
 have hSP0 : SpW w6 T L (.slice t.ua t.un t.uc) (.slice (some ⟨q, 0, none⟩) n n) (.slice t.ba t.bn t.bc) (.slice none 0 0) (.slice none 0 0) (.slice none 0 0) (placesW fold wss 0).1 (placesW fold wss 0).2.1 (placesW fold wss 0).2.2 :=
  ⟨hSK, World.ownsRow_nil _ _ _ _, World.ownsRow_nil _ _ _ _, World.ownsRow_nil _ _ _ _, .inl rfl, .inl rfl, .inl rfl⟩
 have HB56 := Lib.hid hB56
 have HSP0 := Lib.hid hSP0
 clear hw6 hSK hB56 hSP0 HBU HBU1 HZe HK5 HI25 HS25
 go_loopw [44] (fun s44 wr => ∃ (i : Nat) (vo vk vs : Value), i ≤ n ∧ s44 = .int .i64 (i : Int) ∧ Hid (SpW wr T L (.slice t.ua t.un t.uc) (.slice (some ⟨q, 0, none⟩) n n) (.slice t.ba t.bn t.bc) vo vk vs (placesW fold wss i).1 (placesW fold wss i).2.1 (placesW fold wss i).2.2) ∧ Hid (Below T w5 wr)) (fun s44 _ => n - (intOf s44).toNat)
 case atStart => exact ⟨0, _, _, _, Nat.zero_le _, rfl, HSP0.out, HB56.out⟩
 case round =>
  obtain ⟨i, vo, vk, vs, hi, rfl, HSP, HBT⟩ := hrel
  by_cases hin : i < n
  ·
   have d0 : decide ((i : Int) < (n : Int)) = true := by simp; omega
   have hbW : Below w5.heap.size w5 wr := by rw [hTe]; exact HBT.out
   have hTr := HT5.out.below hbW
   have hT0 := HT5.out
   have hq5 : IntRow q (linksP wss) w5 := (HB5.out.block q HQ3.out.lt).trans HQ3.out
   have hqr : IntRow q (linksP wss) wr := (hbW.block q hq5.lt).trans hq5
   have hql := hqr.sl1
   rw [linksP_len, HN.out] at hql
   have hok := placesW_ok HG.out HBY.out i
   have eL := HL5.out
   have hm257 : manyP fold wss ≤ 257 := (clsN_many _ _ _).2
   have hkq : kQ fold wss i = kidsQ L (trieP wss) (i : Int) (trieP wss).up.length := by
    unfold kQ
    rw [if_pos (by rw [HN.out]; exact hin), up_len, eL]
   have hres : placesW fold wss (i + 1) = settleP (fun _ => kidsQ L (trieP wss) (i : Int) (trieP wss).up.length) ((placesW fold wss i).1, (placesW fold wss i).2.1, (placesW fold wss i).2.2) i := by
    show settleP (kQ fold wss) (placesW fold wss i) i = _
    unfold settleP
    rw [hkq]
   have hn4' : n ≤ 400 := by rw [← HN.out]; exact hn4
   have hbig : i * manyP fold wss ≤ 400 * 257 := Nat.mul_le_mul (by omega) hm257
   have hbyl : (trieP wss).byt.length = n := by rw [← HN.out]; simp [trieP]
   have hupl : (trieP wss).up.length = n := by rw [up_len]; exact HN.out
   have hu1 : t.un ≠ 0 := by have := hT0.up.1; omega
   have hb1 : t.bn ≠ 0 := by have := hT0.byt.1.1; omega
   have hUT : (∀ a, t.ua = some a → a.block < T) ∧ ∀ a, t.ba = some a → a.block < T := ⟨fun a e => by have := sl1_blk hT0.up hu1 a e; omega, fun a e => by have := sl1_blk hT0.byt.1 hb1 a e; omega⟩
   have hLk : ∀ k ∈ kidsQ L (trieP wss) (i : Int) (trieP wss).up.length, (1 ≤ k.1 ∧ k.1 < manyP fold wss) ∧ k.2 ≤ 1000 := fun k hk => by
    rw [← hkq] at hk
    have h1 := kQ_kid HG.out HBY.out i k hk
    have h2 := HN.out
    exact ⟨kQ_cls HG.out HBY.out i k hk, by omega⟩
   have hLv : ∀ (c : Nat) (v : Int), L[c]? = some v → 0 ≤ v ∧ v ≤ 1000 := fun c v hv => by
    rw [← eL] at hv
    have := cls_low HG.out c v hv
    omega
   have hcall := settle12_any (many := manyP fold wss) i wr HSP.out hTr.up hTr.byt ⟨_, _, _, rfl, hql⟩ hUT (by omega) (by omega) (by omega) hLk hLv (by omega) hok.len (by have := hok.big; omega) (by have := hok.bal; omega)
   rw [← hres] at hcall
   have HC7 := Lib.hid hcall
   clear hbW hTr hT0 hq5 hqr hql hok eL hkq hres hbig hbyl hupl hu1 hb1 hUT hLk hLv hcall
   go_wp2_with (go_at_call 29; refine HC7.out.mono ?_; rintro e w9 ⟨⟨_, rfl⟩, vo', vk', vs', HS9, hB9⟩)
   go_roundw
   case rel => exact ⟨i + 1, vo', vk', vs', by omega, by go_num, HS9, HBT.out.trans hB9⟩
   case measure => simp [intOf]; omega
  ·
   have d0 : decide ((i : Int) < (n : Int)) = false := by simp; omega
   obtain rfl : i = n := by omega
   have hbW : Below w5.heap.size w5 wr := by rw [hTe]; exact HBT.out
   have hTr := HT5.out.below hbW
   have hq5 : IntRow q (linksP wss) w5 := (HB5.out.block q HQ3.out.lt).trans HQ3.out
   have hqr : IntRow q (linksP wss) wr := (hbW.block q hq5.lt).trans hq5
   have HTR := Lib.hid hTr
   have HQR := Lib.hid hqr
   clear hbW hTr hq5 hqr
   go_wp2
   refine bodyPost_ret (results_tmp2 rfl _ _ _) rfl ?_
   have eL := HL5.out
   have hTw : w.heap.size ≤ T := by
    have h1 := HB.out.size
    have h2 := HB3.out.size
    have h3 := HB5.out.size
    omega
   refine ⟨T, t, q, vo, vk, vs, rfl, ?_, HTR.out, HQR.out, hTw, ?_⟩
   ·
    rw [HN.out, eL]
    exact HSP.out
   ·
    have h1 : Below w.heap.size w w5 := (HB.out.trans (HB3.out.mono HB.out.size)).trans (HB5.out.mono (Nat.le_trans HB.out.size HB3.out.size))
    exact h1.trans (HBT.out.mono hTw)
end Go.Proofs.YtglfdclpjmhoiaaGreat

/- Fewer places (layer 12): a table is read: how many nodes and places, a node's base; walked. -/

namespace Go.Proofs.YtglfdclpjmhoiaaGreat
open Go.RowKit Go.Sort

set_option maxRecDepth 100000
set_option maxHeartbeats 4000000
theorem nodes12_any (T un uc : Nat) (ua : Option Addr) (L : List Int) (l y o k s : Value) (w : World) (h : Sk w T L (.slice ua un uc) l y o k s) :
  Calls Tryz.prog 15 #[.pointer (some ⟨T, 0, none⟩)] w fun e w' => e = .returned (.int .i64 (un : Int)) ∧ w = w' := by
 obtain ⟨⟨c0, _, _⟩, _⟩ := h.cells
 clear h
 go_enter Tryz.func15, Tryz.ntmps15
 go_wp2
 go_ret
 exact ⟨rfl, rfl⟩
theorem places12_any (T on oc : Nat) (oa : Option Addr) (L : List Int) (u l y k s : Value) (w : World) (h : Sk w T L u l y (.slice oa on oc) k s) :
  Calls Tryz.prog 16 #[.pointer (some ⟨T, 0, none⟩)] w fun e w' => e = .returned (.int .i64 (on : Int)) ∧ w = w' := by
 obtain ⟨_, c0, _, _⟩ := h.cells
 clear h
 go_enter Tryz.func16, Tryz.ntmps16
 go_wp2
 go_ret
 exact ⟨rfl, rfl⟩
theorem base12_any {T : Nat} {L : List Int} {Tr : TrieT} {t : SpV} {lk ow ki ba : List Int} (node : Nat) (w : World) (h : SpT w T L Tr t lk ow ki ba) (hb : ba.length = Tr.up.length) :
  Calls Tryz.prog 14 #[.pointer (some ⟨T, 0, none⟩), .int .i64 (node : Int)] w fun e w' => e = .returned (.int .i64 ((ba[node]?).getD (-1))) ∧ w = w' := by
 have hun : Tr.up.length = t.un := h.up.1
 have his := is12_any T t.un t.uc t.ua L _ _ _ _ _ (node : Int) w h.sk
 by_cases hn : node < t.un
 ·
  have e1 : decide (0 ≤ (node : Int) ∧ (node : Int) < (t.un : Int)) = true := decide_eq_true ⟨by omega, by omega⟩
  rw [e1] at his
  obtain ⟨b0, o0, z, e0, hl0, cu0, hu⟩ := sl1_at h.ba (by have := h.ba.1; omega : node < t.sn)
  obtain ⟨_, _, _, c0⟩ := h.sk.cells
  rw [e0] at c0
  have hz : (ba[node]?).getD (-1) = z := by rw [hu]; rfl
  rw [hz]
  have i1 : (0 : Int) ≤ (node : Int) := by omega
  have i2 : (node : Int) < (t.sn : Int) := by have := h.ba.1; omega
  clear h hu hz e0 e1
  go_enter Tryz.func14, Tryz.ntmps14
  go_wp2_with (go_at_call 31; refine his.mono ?_; rintro e w' ⟨rfl, rfl⟩)
  go_ret
  exact ⟨rfl, rfl⟩
 ·
  have e1 : decide (0 ≤ (node : Int) ∧ (node : Int) < (t.un : Int)) = false := decide_eq_false (fun h => by omega)
  rw [e1] at his
  have hz : (ba[node]?).getD (-1) = -1 := by rw [List.getElem?_eq_none (by omega)]; rfl
  rw [hz]
  clear h hz e1
  go_enter Tryz.func14, Tryz.ntmps14
  go_wp2_with (go_at_call 31; refine his.mono ?_; rintro e w' ⟨rfl, rfl⟩)
  go_ret
  exact ⟨rfl, rfl⟩
end Go.Proofs.YtglfdclpjmhoiaaGreat

/- Where a set's table leads (layer 11): plain. -/

namespace Go.Proofs.YtglfdclpjmhoiaaGreat

/-- A byte as a set has it: small, if the set folds. -/
def fcB (fold : Bool) (c : Int) : Int := if fold = true then foldI c else c
theorem foldL_fcB (fold : Bool) (b : List Int) : foldL fold b = b.map (fcB fold) := by
 unfold foldL fcB
 cases fold <;> simp
theorem fcB_byte {fold : Bool} {c : Nat} (hc : c < 256) : ∃ d : Nat, fcB fold (c : Int) = (d : Int) ∧ d < 256 := by
 unfold fcB foldI
 cases fold
 · exact ⟨c, by simp, hc⟩
 ·
  by_cases h : (65 : Int) ≤ (c : Int) ∧ (c : Int) ≤ 90
  ·
   refine ⟨c + 32, ?_, by omega⟩
   rw [if_pos rfl, if_pos h]; omega
  · exact ⟨c, by rw [if_pos rfl, if_neg h], hc⟩
/-- A byte is one of a set's just if, folded, it stands in a word. -/
theorem inB_fc {fold : Bool} {ws : List (List Int)} (hg : noGreat fold ws) {c : Int} : inB fold ws c = true ↔ wordB ws (fcB fold c) := by
 rw [inB_iff]
 unfold fcB foldI smallI
 cases fold with
 | false => simp
 | true =>
  have g := hg rfl
  simp only [if_true, decide_eq_true_iff, true_and]
  constructor
  ·
   rintro ⟨x, h1, h2⟩
   have g1 := g x h1
   rcases h2 with rfl | ⟨h3, h4⟩
   · rw [if_neg g1]; exact h1
   · rw [if_pos (by omega), show c + 32 = x by omega]; exact h1
  ·
   intro h
   split at h
   · exact ⟨c + 32, h, .inr ⟨by omega, by omega⟩⟩
   · exact ⟨c, h, .inl rfl⟩
theorem clsO_fc {fold : Bool} {ws : List (List Int)} {c d : Nat} (h : fcB fold (c : Int) = (d : Int)) : clsO (inB fold ws) fold c = clsO (inB fold ws) fold d := by
 unfold clsO
 have e : repB fold c = repB fold d := by
  unfold repB smallI
  unfold fcB foldI at h
  cases fold with
  | false => simp at h; simp; omega
  | true =>
   simp only [if_true] at h
   simp only [Bool.true_and, decide_eq_true_iff]
   split at h
   · rw [if_neg (by omega), if_pos (by omega)]; omega
   ·
    have : c = d := by omega
    rw [this]
 rw [e]
theorem cls_in {fold : Bool} {ws : List (List Int)} (hg : noGreat fold ws) {c : Nat} (hc : c < 256) : (clsP fold ws)[c]? = some (if inB fold ws c = true then (clsO (inB fold ws) fold c : Int) else 0) := by
 cases hp : inB fold ws (c : Int) with
 | false => rw [if_neg (by simp)]; exact cls_no hp hc
 | true => rw [if_pos rfl]; exact cls_rep (inB_shut hg) hp hc
/-- A table's states: a node, by its number. -/
def nodeI (ws : List (List Int)) (x : List Int) : Int := placeS (nodesL ws) x
theorem nodeI_at {ws : List (List Int)} {j : Nat} {x : List Int} (h : (nodesL ws)[j]? = some x) : nodeI ws x = (j : Int) := placeS_at (nodesL_srt ws).nodup h
theorem node_ex {ws : List (List Int)} {x : List Int} (h : x ∈ nodesL ws) : ∃ j : Nat, (nodesL ws)[j]? = some x ∧ nodeI ws x = (j : Int) ∧ j < (nodesL ws).length := by
 obtain ⟨j, hj⟩ := List.getElem?_of_mem h
 exact ⟨j, hj, nodeI_at hj, (List.getElem?_eq_some_iff.1 hj).1⟩

/-- A set that may be: what its table wants. -/
structure OkT (fold : Bool) (ws : List (List Int)) : Prop where
 great : noGreat fold ws
 byt : ∀ x, wordB ws x → 0 ≤ x ∧ x ≤ 255
 pos : 0 < (nodesL ws).length
theorem okT {fold : Bool} {ws : List (List Int)} (hr : rightP fold ws = true) (hb : ∀ x ∈ ws, ∀ c ∈ x, 0 ≤ c ∧ c ≤ 255) : OkT fold ws :=
 ⟨noGreat_of (right_nodup hr).2, fun x ⟨w, h1, h2⟩ => hb w h1 x h2, List.length_pos_iff.2 (nodesL_ne ws)⟩
end Go.Proofs.YtglfdclpjmhoiaaGreat
