/- Parts of the proof, one behind the other: U8, U9, C1, C2, C3, C4, Vp, Gp. No condition but what each theorem states. -/
import Derived.Deep.CutBlock
import Derived.Deep.MidRow
import Derived.Deep.RegionHeld3
import Derived.Test.YtglfdclpjmhoiaaGreatZK2
import Derived.Test.YtglfdclpjmhoiaaGreatZK3
import Derived.Test.YtglfdclpjmhoiaaGreatZK4
set_option linter.unusedVariables false
set_option linter.unusedSimpArgs false

/- The trie of a set's words (layer 7): walked. -/

namespace Go.Proofs.YtglfdclpjmhoiaaGreat
open Go.RowKit Go.Sort

/-- A trie's value: its four slices. -/
structure TV where
 ua : Option Addr
 un : Nat
 uc : Nat
 da : Option Addr
 dn : Nat
 dc : Nat
 xa : Option Addr
 xn : Nat
 xc : Nat
 ba : Option Addr
 bn : Nat
 bc : Nat
abbrev TV.cells (t : TV) : Array Value := #[.slice t.ua t.un t.uc, .slice t.da t.dn t.dc, .slice t.xa t.xn t.xc, .slice t.ba t.bn t.bc]
/-- What a trie's slices read. -/
structure Tri (W : World) (t : TV) (T : TrieT) : Prop where
 up : Sl1 (Value.int .i64) W t.ua t.un T.up
 dep : Sl1 (Value.int .i64) W t.da t.dn T.dep
 wrd : Sl1 (Value.int .i64) W t.xa t.xn T.wrd
 byt : Bys W t.ba t.bn T.byt
 cap : t.un ≤ t.uc ∧ t.dn ≤ t.dc ∧ t.xn ≤ t.xc ∧ t.bn ≤ t.bc
theorem Tri.below {W W' : World} {t : TV} {T : TrieT} (h : Tri W t T) (hb : Below W.heap.size W W') : Tri W' t T := ⟨h.up.below hb, h.dep.below hb, h.wrd.below hb, h.byt.below hb, h.cap⟩

theorem lastI_toI (s : Byt) : lastI s = lastB (toI s) := by
 unfold lastI lastB toI
 rw [List.getLast?_map]
theorem toI_dropLast (s : Byt) : toI s.dropLast = (toI s).dropLast := by simp [toI, List.map_dropLast]
theorem toI_nil {s : Byt} : toI s = [] ↔ s = [] := by simp [toI]
/-- The words' numbers, as a map has them. -/
def WMap (wss : List (List Int)) (k : Nat) (f : Byt → Option Int) : Prop := ∀ s : Byt, f s = if toI s ∈ wss.take k then some (placeS wss (toI s)) else none
theorem WMap.start (wss : List (List Int)) : WMap wss 0 (fun _ => none) := fun s => by simp
theorem WMap.step {wss : List (List Int)} {k : Nat} {f : Byt → Option Int} {x : List Int} (h : WMap wss k f) (hn : wss.Nodup) (hx : wss[k]? = some x) (hb : ∀ c ∈ x, 0 ≤ c ∧ c ≤ 255) : WMap wss (k + 1) (fun s => if s = ofI x then some (k : Int) else f s) := fun s => by
 rw [take_step hx]
 show (if s = ofI x then some (k : Int) else f s) = _
 by_cases e : s = ofI x
 ·
  rw [if_pos e]
  have e2 : toI s = x := by rw [e, toI_ofI hb]
  rw [e2, if_pos (by simp), placeS_at hn hx]
 ·
  rw [if_neg e, h s]
  have e2 : toI s ≠ x := fun e2 => e (by rw [← e2, ofI_toI])
  by_cases h1 : toI s ∈ wss.take k
  · rw [if_pos h1, if_pos (by simp [h1])]
  · rw [if_neg h1, if_neg (by simp [h1, e2])]
theorem WMap.get {wss : List (List Int)} {f : Byt → Option Int} (h : WMap wss wss.length f) (s : Byt) : (f s).getD (-1) = placeS wss (toI s) := by
 rw [h s, List.take_length]
 by_cases e : toI s ∈ wss
 · rw [if_pos e]; rfl
 · rw [if_neg e, placeS_no e]; rfl

theorem MK.putW {base mb nb wb n1 n2 m : Nat} {fN fW f' : Byt → Option Int} {U D X B : List Int} {u d x b : Value} {W V : World} (h : MK base mb nb wb n1 n2 fN fW U D X B u d x b W) (hm : MS V wb m f') (hg : W.grownBy V (some wb)) : MK base mb nb wb n1 m fN f' U D X B u d x b V := by
 have hmb := (Array.getElem?_eq_some_iff.1 h.box).1
 refine ⟨(hg.block mb hmb (fun e => by injection e with e; exact h.lt.2.2.2.2.1 e)).trans h.box, h.up.kept hg (row_ne h.up h.lt.2.2.1), h.dep.kept hg (row_ne h.dep h.lt.2.2.1), h.wrd.kept hg (row_ne h.wrd h.lt.2.2.1), h.byt.kept hg (row_ne h.byt h.lt.2.2.1), h.s1, h.s2, h.s3, h.s4, h.s5, h.s6, h.nod.kept hg (fun e => by injection e with e; exact h.lt.2.2.2.2.2 e.symm), hm, h.lt, Nat.le_trans h.sz hg.size⟩
theorem mk_nostr {nb wb : Nat} (i : Nat) (s : Byt) (h : (mkCells (.slice none 0 0) (.slice none 0 0) (.slice none 0 0) (.slice none 0 0) nb wb)[i]? = some (strV s)) : False := by
 rcases i with _ | _ | _ | _ | _ | _ | i <;> simp at h
theorem own_sl {α : Type} {enc : α → Value} {w : World} {base n c : Nat} {e : TypeId} {a : Option Addr} {xs : List α} (h : w.ownsRow base e 1 (.slice a n c) n (xs.map enc)) : Sl1 enc w a n xs := by
 obtain ⟨a', c', e, _, h1⟩ := own_sl1 h
 injection e with e1 e2 e3
 subst e1
 exact h1
theorem trieP_bd {wss : List (List Int)} (h : ∀ x ∈ wss, ∀ c ∈ x, 0 ≤ c ∧ c ≤ 255) : ∀ c ∈ (trieP wss).byt, 0 ≤ c ∧ c ≤ 255 := fun c hc => by
 simp only [trieP, List.mem_map] at hc
 obtain ⟨x, hx, rfl⟩ := hc
 unfold lastB
 cases e : x.getLast? with
 | none => simp
 | some y =>
  have hy := List.mem_of_getLast? e
  rcases (mem_nodesL wss).1 hx with h1 | ⟨w, hw, k, _, _, h2⟩
  · rw [h1] at hy; cases hy
  ·
   rw [h2] at hy
   exact h w hw y (List.mem_of_mem_take hy)
theorem sep_nil (v : Value) : sep (.slice none 0 0) v := fun k h _ => by cases h
theorem results_trie {fn : Func} {p u : Tmp} {tmps : Array Value} {W : World} {B : Nat} {x y z v : Value} (h : fn.results = #[.cell p 34, .tmp u]) (hp : tmps.getD p undef = .pointer (some ⟨B, 0, none⟩)) (hB : W.heap[B]? = some (.cells #[x, y, z, v] 34 (0, 0))) :
  (results fn tmps).run Tryz.prog W = .ok (.tuple #[.agg #[x, y, z, v], tmps.getD u undef]) W := by
 have hl : (loadVar 34 ⟨B, 0, none⟩).run Tryz.prog W = .ok (.agg #[x, y, z, v]) W := run_loadVar_row W B 34 34 #[x, y, z, v] (0, 0) _ hB Tryz.underlying34 rfl (by kernel_rfl)
 rw [results_cell_tmp h, hp]
 simp [asAddr, hl, Result.andThen]
abbrev nil4 : Array Value := #[.slice none 0 0, .slice none 0 0, .slice none 0 0, .slice none 0 0]

set_option maxHeartbeats 1000000 in
theorem make7_no (fold : Bool) (a : Option Addr) (la ca : Nat) (wss : List (List Int)) (w : World) (hA : Wds w a la wss) (hla : la ≤ 1000000) (hM : ∀ x ∈ wss, x.length ≤ 1000000) (hT : (begL fold wss).length ≤ 1000000) (hr : rightP fold wss = false) :
  Calls Tryz.prog 26 #[.agg (setV fold a la ca)] w fun e w' => e = .returned (.tuple #[.agg #[.slice none 0 0, .slice none 0 0, .slice none 0 0, .slice none 0 0], .int .i64 2]) ∧ Below w.heap.size w w' := by
 have HR := Lib.hid hr
 clear hr
 have hB2 : Below w.heap.size w ((w.alloc (.cells (setV fold a la ca) 24)).alloc (.cells (nil4) 34)) := ((Below.refl _ _).alloc (Nat.le_refl _) _).alloc (by simp) _
 have n1 := alloc_at (w := w.alloc (.cells (setV fold a la ca) 24)) (n := w.heap.size + 1) (by simp) (.cells (nil4) 34)
 have HC := Lib.hid (pright_any fold a la ca wss _ (hA.below hB2) hla hM hT)
 go_enter Tryz.func26, Tryz.ntmps26
 go_wp2_with fail
 refine HC.out.mono ?_
 rintro e w1 ⟨rfl, hb⟩
 rw [HR.out]
 have hB1 : Below w.heap.size w w1 := hB2.trans (hb.mono (by simp; omega))
 have m1 : w1.heap[w.heap.size + 1]? = some (.cells nil4 34 (0, 0)) := (hb.block _ (by simp)).trans n1
 have hsz : w.heap.size + 1 < w1.heap.size := (Array.getElem?_eq_some_iff.1 m1).1
 clear hb n1
 have q0 : w1.cell? ⟨w.heap.size + 1, 0, none⟩ = some (.slice none 0 0) := by simp [World.cell?, m1]
 have q1 : w1.cell? ⟨w.heap.size + 1, 1, none⟩ = some (.slice none 0 0) := by simp [World.cell?, m1]
 have q2 : w1.cell? ⟨w.heap.size + 1, 2, none⟩ = some (.slice none 0 0) := by simp [World.cell?, m1]
 have q3 : w1.cell? ⟨w.heap.size + 1, 3, none⟩ = some (.slice none 0 0) := by simp [World.cell?, m1]
 have f0 : ∀ i, w1.frozen? ⟨w.heap.size + 1, i, none⟩ = false := fun i => by simp [World.frozen?, m1]
 go_wp2
 have hz2 := set_at (i := 3) (set_at (i := 2) (set_at (i := 1) (set_at (i := 0) m1 (.slice none 0 0)) (.slice none 0 0)) (.slice none 0 0)) (.slice none 0 0)
 refine bodyPost_ret (results_trie rfl rfl (by simpa using hz2)) rfl ?_
 exact ⟨rfl, (((hB1.setCell (by show w.heap.size ≤ w.heap.size + 1; omega) _).setCell (by show w.heap.size ≤ w.heap.size + 1; omega) _).setCell (by show w.heap.size ≤ w.heap.size + 1; omega) _).setCell (by show w.heap.size ≤ w.heap.size + 1; omega) _⟩

theorem byteSum_len (wss : List (List Int)) : (byteSum (wss.map ofI) : Int) = bsum wss := by
 unfold byteSum bsum
 induction wss with
 | nil => rfl
 | cons x l ih => simp only [List.map_cons, List.sum_cons] at ih ⊢; rw [Int.natCast_add, ih]; simp [ofI]

set_option maxRecDepth 100000 in
set_option maxHeartbeats 8000000 in
theorem make7_yes (fold : Bool) (a : Option Addr) (la ca : Nat) (wss : List (List Int)) (w : World) (hA : Wds w a la wss) (hla : la ≤ 1000000) (hM : ∀ x ∈ wss, x.length ≤ 1000000) (hT : (begL fold wss).length ≤ 1000000) (hr : rightP fold wss = true) :
  Calls Tryz.prog 26 #[.agg (setV fold a la ca)] w fun e w' => ∃ t : TV, e = .returned (.tuple #[.agg t.cells, .int .i64 0]) ∧ Tri w' t (trieP wss) ∧ Below w.heap.size w w' := by
 have HR := Lib.hid hr
 have HL := Lib.hid hA.len
 obtain ⟨r1, r2, r3, r4, r5, r6⟩ := right_spec hr
 have hnd := (right_nodup hr).1
 obtain ⟨nn1, nn2⟩ := right_nodes (right_false hr)
 have hbs : byteSum (wss.map ofI) ≤ 1000000 := by have := byteSum_len wss; omega
 have HND := Lib.hid hnd
 have HBY := Lib.hid hA.bytes
 have hmm := @run_makeMap Tryz.prog
 have HR3 := Lib.hid r3
 clear hr r2 r3 r4 r5 r6 hnd
 have hB2 : Below w.heap.size w ((w.alloc (.cells (setV fold a la ca) 24)).alloc (.cells (nil4) 34)) := ((Below.refl _ _).alloc (Nat.le_refl _) _).alloc (by simp) _
 have n1 := alloc_at (w := w.alloc (.cells (setV fold a la ca) 24)) (n := w.heap.size + 1) (by simp) (.cells (nil4) 34)
 have n0 : ((w.alloc (.cells (setV fold a la ca) 24)).alloc (.cells (nil4) 34)).heap[w.heap.size]? = some (.cells (setV fold a la ca) 24 (0, 0)) := (Below.heap_alloc _ _ _ (by simp)).trans (World.alloc_heap_new _ _)
 have HC := Lib.hid (pright_any fold a la ca wss _ (hA.below hB2) hla hM hT)
 go_enter Tryz.func26, Tryz.ntmps26
 go_wp2_with fail
 refine HC.out.mono ?_
 rintro e w1 ⟨rfl, hb⟩
 rw [HR.out]
 have hB1 : Below w.heap.size w w1 := hB2.trans (hb.mono (by simp; omega))
 have m0 : w1.heap[w.heap.size]? = some (.cells (setV fold a la ca) 24 (0, 0)) := (hb.block _ (by simp; omega)).trans n0
 have m1 : w1.heap[w.heap.size + 1]? = some (.cells nil4 34 (0, 0)) := (hb.block _ (by simp)).trans n1
 have hsz : w.heap.size + 1 < w1.heap.size := (Array.getElem?_eq_some_iff.1 m1).1
 clear hb n1 n0 hB2
 go_upto_region 4 with fail
 obtain ⟨W4, hW4⟩ : ∃ W4, W4 = ((w1.alloc (Obj.map #[] 0)).alloc (Obj.map #[] 0)).alloc (.cells (mkCells (.slice none 0 0) (.slice none 0 0) (.slice none 0 0) (.slice none 0 0) w1.heap.size (w1.heap.size + 1)) 79) := ⟨_, rfl⟩
 have hw4 : Below w1.heap.size w1 W4 := by rw [hW4]; exact (((Below.refl _ _).alloc (Nat.le_refl _) _).alloc (by simp) _).alloc (by simp; omega) _
 have hM4 : MK (w1.heap.size + 1 + 1 + 1) (w1.heap.size + 1 + 1) w1.heap.size (w1.heap.size + 1) 0 0 (fun _ => none) (fun _ => none) [] [] [] [] (.slice none 0 0) (.slice none 0 0) (.slice none 0 0) (.slice none 0 0) W4 := by
  rw [hW4]
  have hm2 := World.ownsMap_made (H := Unit) (w1.alloc (Obj.map #[] 0)) Tryz.prog 9 (plainElem Tryz.prog 3)
  rw [World.size_alloc] at hm2
  exact ⟨alloc_at (by simp) _, World.ownsRow_nil _ _ _ _, World.ownsRow_nil _ _ _ _, World.ownsRow_nil _ _ _ _, World.ownsRow_nil _ _ _ _, sep_nil _, sep_nil _, sep_nil _, sep_nil _, sep_nil _, sep_nil _,
   ((MS.start _ (World.ownsMap_made w1 Tryz.prog 9 (plainElem Tryz.prog 3))).alloc _).alloc _, (MS.start _ hm2).alloc _, ⟨by omega, by omega, by omega, by omega, by omega, by omega⟩, by simp⟩
 have hB4 : Below w.heap.size w W4 := hB1.trans (hw4.mono hB1.size)
 have k0 : W4.heap[w.heap.size]? = _ := (hw4.block _ (by omega)).trans m0
 have k1 : W4.heap[w.heap.size + 1]? = _ := (hw4.block _ hsz).trans m1
 rw [← hW4]
 clear hW4 hw4 hB1 m0 m1
 obtain ⟨P, hP⟩ : ∃ P, w1.heap.size = P := ⟨_, rfl⟩
 rw [hP] at hM4 hsz ⊢
 clear hP
 have s1 : W4.cell? ⟨w.heap.size, 1, none⟩ = some (.slice a la ca) := by simp [World.cell?, k0]
 go_wp2
 clear s1
 go_loopw [5, 6, 19] (fun _ _ s19 wr => ∃ (k : Nat) (fW : Byt → Option Int), k ≤ la ∧ s19 = .int .i64 k ∧ Hid (WMap wss k fW) ∧ MK (P + 1 + 1 + 1) (P + 1 + 1) P (P + 1) 0 k (fun _ => none) fW [] [] [] [] (.slice none 0 0) (.slice none 0 0) (.slice none 0 0) (.slice none 0 0) wr ∧ Below w.heap.size w wr ∧ wr.heap[w.heap.size]? = some (.cells (setV fold a la ca) 24 (0, 0)) ∧ wr.heap[w.heap.size + 1]? = some (.cells nil4 34 (0, 0))) (fun _ _ i _ => la - (intOf i).toNat)
 case atStart => exact ⟨0, _, Nat.zero_le _, rfl, WMap.start wss, hM4, hB4, k0, k1⟩
 case round =>
  clear hM4 hB4 k0 k1
  obtain ⟨k, fW, hk, rfl, HW, hM4, hB4, k0, k1⟩ := hrel
  by_cases hlt : k < la
  ·
   obtain ⟨bb, off, ax, lx, cx, x, hbb, hbl, hcell, hx, hX, hlc⟩ := (hA.below hB4).at_ hlt
   have hxl : lx ≤ 1000000 := by have := mem_bd hM hx; rw [hX.len] at this; exact this
   have cv := conv_bys hX cx
   rw [strOf_eq] at cv
   have hol : (ofI x).length ≤ maxLen := by have := hX.len; simp [ofI]; unfold maxLen; omega
   have HW2 := Lib.hid (HW.out.step HND.out hx (HBY.out x (List.mem_of_getElem? hx)))
   obtain ⟨s, hs⟩ : ∃ s, ofI x = s := ⟨_, rfl⟩
   rw [hs] at cv hol HW2
   subst hbb
   have hmb : P + 1 + 1 < wr.heap.size := (Array.getElem?_eq_some_iff.1 hM4.box).1
   have c5 := hM4.cells.1.2.2.2.2.2
   have hms := hM4.wds
   have hdk : decide ((k : Int) < la) = true := by simp; omega
   clear hx hs hX
   go_wp2_with (at_mapUpdate; refine wpList_ms_put rfl _ _ _ rfl rfl hms (by unfold maxLen; omega) s k (wf_i (by omega)) rfl rfl hol ?_; intro w5 hms5 hg5)
   have hM5 := hM4.putW hms5 hg5
   have hB5 : Below w.heap.size w w5 := hB4.grown hg5 hB4.size (fun k e => by cases e; omega)
   have j0 : w5.heap[w.heap.size]? = _ := (hg5.block _ (by omega) (by intro e; injection e with e; omega)).trans k0
   have j1 : w5.heap[w.heap.size + 1]? = _ := (hg5.block _ (by omega) (by intro e; injection e with e; omega)).trans k1
   go_roundw
   case rel => exact ⟨k + 1, _, by omega, by go_num, HW2, hM5, hB5, j0, j1⟩
   case measure => simp [intOf]; omega
  ·
   obtain rfl : k = la := by omega
   have hdk : decide ((k : Int) < k) = false := by simp
   have HWL : Hid (WMap wss wss.length fW) := by rw [Hid, HL.out]; exact HW.out
   have s1 : wr.cell? ⟨w.heap.size, 1, none⟩ = some (.slice a k ca) := by simp [World.cell?, k0]
   go_wp2_with fail
   refine (begs_any a k ca wss wr (hA.below hB4) hla hM hbs).mono ?_
   rintro e w5 ⟨al, nl, cl, l, rfl, hnl, hl, hsl, hb⟩
   have hB5 : Below w.heap.size w w5 := hB4.trans (hb.mono hB4.size)
   have hmb : P + 1 + 1 < wr.heap.size := (Array.getElem?_eq_some_iff.1 hM4.box).1
   have hM5 := hM4.below hb
   have hsz5 : wr.heap.size ≤ w5.heap.size := hb.size
   have j1 : w5.heap[w.heap.size + 1]? = _ := (hb.block _ (by omega)).trans k1
   have hnn : nl = (nodesL wss).length := by rw [hnl, ← hl]; simp
   have hM6 : MK w5.heap.size (P + 1 + 1) P (P + 1) 0 k (fun _ => none) fW ((trieP wss).up.take 0) ((trieP wss).dep.take 0) ((trieP wss).wrd.take 0) ((trieP wss).byt.take 0) (.slice none 0 0) (.slice none 0 0) (.slice none 0 0) (.slice none 0 0) w5 :=
    ⟨hM5.box, World.ownsRow_nil _ _ _ _, World.ownsRow_nil _ _ _ _, World.ownsRow_nil _ _ _ _, World.ownsRow_nil _ _ _ _, sep_nil _, sep_nil _, sep_nil _, sep_nil _, sep_nil _, sep_nil _, hM5.nod, hM5.wds, ⟨by omega, by omega, by omega, by omega, by omega, by omega⟩, Nat.le_refl _⟩
   have HLL := Lib.hid hl
   have HNN := Lib.hid hnn
   have HNL := Lib.hid hnl
   have hn400 : nl ≤ 400 := by omega
   obtain ⟨BS, hBS⟩ : ∃ BS, w5.heap.size = BS := ⟨_, rfl⟩
   have HX0 : Hid (∀ q, q < BS → q ≠ P + 1 + 1 → q ≠ P → w5.heap[q]? = w5.heap[q]?) := fun _ _ _ _ => rfl
   rw [hBS] at hM6 hsz5
   obtain ⟨_, hsl0⟩ := hsl
   obtain ⟨g, off, hal, hgl, hcl⟩ := hsl0.resolve_left (by omega)
   obtain ⟨x0, hx0⟩ : ∃ x0, l[0]? = some x0 := ⟨l[0]'(by omega), by simp⟩
   have hg1 : g ≠ P + 1 + 1 := fun e => by
    have h1 := hcl 0 x0 hx0
    rw [e] at h1
    have h2 := hM6.box
    simp only [World.cell?, h2] at h1
    exact mk_nostr _ _ h1
   have hg2 : g ≠ P := fun e => by
    have h1 := hcl 0 x0 hx0
    rw [e] at h1
    obtain ⟨D, ⟨es, clock, h2, _⟩, _⟩ := hM6.nod
    simp [World.cell?, h2] at h1
   have HCL := Lib.hid hcl
   rw [hBS] at hgl
   subst hal
   clear hM4 hM5 hB4 k0 k1 hb s1 hl hnl hnn hBS HX0 hsl0 hcl hx0
   go_wp2
   go_loopw [8, 34] (fun _ s34 wr => ∃ (i : Nat) (fN : Byt → Option Int) (u d x b : Value), i ≤ nl ∧ s34 = .int .i64 i ∧ Hid (∀ j y, j < i → l[j]? = some y → fN y = some (j : Int)) ∧ MK BS (P + 1 + 1) P (P + 1) i k fN fW ((trieP wss).up.take i) ((trieP wss).dep.take i) ((trieP wss).wrd.take i) ((trieP wss).byt.take i) u d x b wr ∧ Leaves (P + 1 + 1) P BS w5 wr) (fun _ s _ => nl - (intOf s).toNat)
   case atStart => exact ⟨0, _, _, _, _, _, Nat.zero_le _, rfl, (fun j y h => by omega), hM6, Leaves.refl _ _ _ _⟩
   case round =>
    clear hM6
    obtain ⟨i, fN, u, d, x, b, hi, rfl, HF, hM7, hLv⟩ := hrel
    by_cases hil : i < nl
    ·
     obtain ⟨s, hs⟩ : ∃ s, l[i]? = some s := ⟨l[i]'(by have := HNL.out; omega), by simp⟩
     have hN : (nodesL wss)[i]? = some (toI s) := by rw [← HLL.out, List.getElem?_map, hs]; rfl
     have cs : wr.cell? ⟨g, off + i, none⟩ = some (strV s) := (World.cell?_of_block (hLv.block g hgl hg1 hg2)).trans (HCL.out i s hs)
     have hsl32 : s.length ≤ 32 := by
      have h1 := (mem_nodesL wss).1 (List.mem_of_getElem? hN)
      have h2 := toI_length s
      rcases h1 with h1 | ⟨z, hz, q, _, h3, h4⟩
      · rw [h1] at h2; simp at h2; omega
      ·
       have h5 := (HR3.out z hz).2
       rw [h4, List.length_take] at h2
       omega
     obtain ⟨uI, huI⟩ : ∃ uI, placeS (nodesL wss) (toI s).dropLast = uI := ⟨_, rfl⟩
     have hu0 : s = [] → uI = 0 := fun e => by
      rw [← huI, e]
      exact placeS_at (nodesL_srt wss).nodup (nodesL_head wss)
     have hu1 : s ≠ [] → fN s.dropLast = some uI := fun e => by
      obtain ⟨j, hj, hjx, hpl⟩ := up_lt hN (fun e2 => e (toI_nil.1 e2))
      rw [← huI, hpl]
      have h1 : (l.map toI)[j]? = some (toI s).dropLast := by rw [HLL.out]; exact hjx
      rw [List.getElem?_map] at h1
      obtain ⟨y, hy, h2⟩ := Option.map_eq_some_iff.1 h1
      rw [← toI_dropLast] at h2
      rw [← toI_inj h2]
      exact HF.out j y hj hy
     have eU : Hid ((trieP wss).up.take (i + 1) = (trieP wss).up.take i ++ [uI]) := take_step (by simp [trieP, hN, huI])
     have eD : Hid ((trieP wss).dep.take (i + 1) = (trieP wss).dep.take i ++ [(s.length : Int)]) := take_step (by simp [trieP, hN, toI_length])
     have eX : Hid ((trieP wss).wrd.take (i + 1) = (trieP wss).wrd.take i ++ [(fW s).getD (-1)]) := take_step (by rw [HWL.out.get]; simp [trieP, hN])
     have eB : Hid ((trieP wss).byt.take (i + 1) = (trieP wss).byt.take i ++ [lastI s]) := take_step (by rw [lastI_toI]; simp [trieP, hN])
     have hilen : i < (nodesL wss).length := by have := HNN.out; omega
     have lU : ((trieP wss).up.take i).length = i := by rw [List.length_take]; simp [trieP]; omega
     have lD : ((trieP wss).dep.take i).length = i := by rw [List.length_take]; simp [trieP]; omega
     have lX : ((trieP wss).wrd.take i).length = i := by rw [List.length_take]; simp [trieP]; omega
     have lB : ((trieP wss).byt.take i).length = i := by rw [List.length_take]; simp [trieP]; omega
     have HF2 : Hid (∀ j y, j < i + 1 → l[j]? = some y → (if y = s then some (((trieP wss).up.take i).length : Int) else fN y) = some (j : Int)) := fun j y hj hy => by
      by_cases e : j = i
      ·
       subst e
       rw [hs] at hy
       rw [if_pos (Option.some.inj hy).symm, lU]
      ·
       have hne : y ≠ s := fun e2 => by
        subst e2
        have h1 : (nodesL wss)[j]? = some (toI y) := by rw [← HLL.out, List.getElem?_map, hy]; rfl
        exact e (nodup_at (nodesL_srt wss).nodup h1 hN)
       rw [if_neg hne]
       exact HF.out j y (by omega) hy
     have HADD := Lib.hid (add_any BS (P + 1 + 1) P (P + 1) i k fN fW _ _ _ _ u d x b s uI wr hM7 (by omega) (by omega) (by omega) (by omega) (by omega) (by omega) hu0 hu1)
     have hdi : decide ((i : Int) < nl) = true := by simp; omega
     clear hM7 hu0 hu1 hN hs huI lU lD lX lB HF
     go_wp2_with fail
     refine HADD.out.mono ?_
     rintro e w6 ⟨rfl, u', d', x', b', hM8, hLv8⟩
     have hM9 : Hid (MK BS (P + 1 + 1) P (P + 1) (i + 1) k (fun q => if q = s then some (((trieP wss).up.take i).length : Int) else fN q) fW ((trieP wss).up.take (i + 1)) ((trieP wss).dep.take (i + 1)) ((trieP wss).wrd.take (i + 1)) ((trieP wss).byt.take (i + 1)) u' d' x' b' w6) := by
      rw [Hid, eU.out, eD.out, eX.out, eB.out]; exact hM8
     have HLV := Lib.hid (hLv.trans hLv8)
     clear hM8 hLv8 hLv HADD cs eU eD eX eB
     go_wp2
     go_roundw
     case rel => exact ⟨i + 1, _, u', d', x', b', by omega, by go_num, HF2, hM9.out, HLV.out⟩
     case measure => simp [intOf]; omega
    ·
     obtain rfl : i = nl := by omega
     have hdi : decide ((i : Int) < i) = false := by simp
     have tU : (trieP wss).up.take i = (trieP wss).up := List.take_of_length_le (by have := HNN.out; simp [trieP]; omega)
     have tD : (trieP wss).dep.take i = (trieP wss).dep := List.take_of_length_le (by have := HNN.out; simp [trieP]; omega)
     have tX : (trieP wss).wrd.take i = (trieP wss).wrd := List.take_of_length_le (by have := HNN.out; simp [trieP]; omega)
     have tB : (trieP wss).byt.take i = (trieP wss).byt := List.take_of_length_le (by have := HNN.out; simp [trieP]; omega)
     rw [tU, tD, tX, tB] at hM7
     clear tU tD tX tB
     have hB7 : Below w.heap.size w wr := hLv.below hB5 (by omega) (by omega) (by omega)
     have j7 : wr.heap[w.heap.size + 1]? = some (.cells nil4 34 (0, 0)) := (hLv.block _ (by omega) (by omega) (by omega)).trans j1
     obtain ⟨au, cu, rfl, hcu, _⟩ := own_sl1 hM7.up
     obtain ⟨ad, cd, rfl, hcd, _⟩ := own_sl1 hM7.dep
     obtain ⟨ax, cx, rfl, hcx, _⟩ := own_sl1 hM7.wrd
     obtain ⟨ab, cb, rfl, hcb, _⟩ := own_sl1 hM7.byt
     obtain ⟨⟨c0, c1, c2, c3, _, _⟩, _⟩ := hM7.cells
     have q0 : wr.cell? ⟨w.heap.size + 1, 0, none⟩ = some (.slice none 0 0) := by simp [World.cell?, j7]
     have q1 : wr.cell? ⟨w.heap.size + 1, 1, none⟩ = some (.slice none 0 0) := by simp [World.cell?, j7]
     have q2 : wr.cell? ⟨w.heap.size + 1, 2, none⟩ = some (.slice none 0 0) := by simp [World.cell?, j7]
     have q3 : wr.cell? ⟨w.heap.size + 1, 3, none⟩ = some (.slice none 0 0) := by simp [World.cell?, j7]
     have f0 : ∀ i, wr.frozen? ⟨w.heap.size + 1, i, none⟩ = false := fun i => by simp [World.frozen?, j7]
     have hlb : w.heap.size + 1 < BS := by omega
     obtain ⟨vU, hvU⟩ : ∃ v, v = Value.slice au (trieP wss).up.length cu := ⟨_, rfl⟩
     have rU := fun v0 v1 v2 v3 => row_set (i := 3) (row_set (i := 2) (row_set (i := 1) (row_set (i := 0) hM7.up hlb v0) hlb v1) hlb v2) hlb v3
     have rD := fun v0 v1 v2 v3 => row_set (i := 3) (row_set (i := 2) (row_set (i := 1) (row_set (i := 0) hM7.dep hlb v0) hlb v1) hlb v2) hlb v3
     have rX := fun v0 v1 v2 v3 => row_set (i := 3) (row_set (i := 2) (row_set (i := 1) (row_set (i := 0) hM7.wrd hlb v0) hlb v1) hlb v2) hlb v3
     have rB := fun v0 v1 v2 v3 => row_set (i := 3) (row_set (i := 2) (row_set (i := 1) (row_set (i := 0) hM7.byt hlb v0) hlb v1) hlb v2) hlb v3
     have HU := Lib.hid rU
     have HD := Lib.hid rD
     have HX := Lib.hid rX
     have HB := Lib.hid rB
     have hz2 := set_at (i := 3) (set_at (i := 2) (set_at (i := 1) (set_at (i := 0) j7 (.slice au (trieP wss).up.length cu)) (.slice ad (trieP wss).dep.length cd)) (.slice ax (trieP wss).wrd.length cx)) (.slice ab (trieP wss).byt.length cb)
     have HZ := Lib.hid hz2
     have HB7 := Lib.hid ((((hB7.setCell (p := ⟨w.heap.size + 1, 0, none⟩) (by show w.heap.size ≤ w.heap.size + 1; omega) (.slice au (trieP wss).up.length cu)).setCell (p := ⟨w.heap.size + 1, 1, none⟩) (by show w.heap.size ≤ w.heap.size + 1; omega) (.slice ad (trieP wss).dep.length cd)).setCell (p := ⟨w.heap.size + 1, 2, none⟩) (by show w.heap.size ≤ w.heap.size + 1; omega) (.slice ax (trieP wss).wrd.length cx)).setCell (p := ⟨w.heap.size + 1, 3, none⟩) (by show w.heap.size ≤ w.heap.size + 1; omega) (.slice ab (trieP wss).byt.length cb))
     clear hM7 rU rD rX rB hz2 hB7 hvU vU j7 hLv
     go_wp2
     refine bodyPost_ret (results_trie rfl rfl (by simpa using HZ.out)) rfl ?_
     refine ⟨⟨au, (trieP wss).up.length, cu, ad, (trieP wss).dep.length, cd, ax, (trieP wss).wrd.length, cx, ab, (trieP wss).byt.length, cb⟩, rfl, ⟨own_sl (HU.out _ _ _ _), own_sl (HD.out _ _ _ _), own_sl (HX.out _ _ _ _), ⟨own_sl (HB.out _ _ _ _), trieP_bd HBY.out⟩, ⟨hcu, hcd, hcx, hcb⟩⟩, HB7.out⟩

end Go.Proofs.YtglfdclpjmhoiaaGreat

/- Lists of numbers that are the same, tries that are (layer 7): walked. -/

namespace Go.Proofs.YtglfdclpjmhoiaaGreat
open Go.RowKit Go.Sort

theorem sl1_at {α : Type} {enc : α → Value} {w : World} {a : Option Addr} {n : Nat} {xs : List α} (h : Sl1 enc w a n xs) {k : Nat} (hk : k < n) : ∃ b off x, a = some ⟨b, off, none⟩ ∧ b < w.heap.size ∧ w.cell? ⟨b, off + k, none⟩ = some (enc x) ∧ xs[k]? = some x := by
 obtain ⟨h1, h2⟩ := h
 obtain ⟨b, off, e, hlt, hc⟩ := h2.resolve_left (by omega)
 obtain ⟨x, hx⟩ : ∃ x, xs[k]? = some x := ⟨xs[k]'(by omega), by simp⟩
 exact ⟨b, off, x, e, hlt, hc k x hx, hx⟩

set_option maxHeartbeats 2000000 in
theorem eqI_any (a b : Option Addr) (la ca lb cb : Nat) (l m : List Int) (w : World) (hA : Sl1 (Value.int .i64) w a la l) (hB : Sl1 (Value.int .i64) w b lb m) (hla : la ≤ 4611686018427387904) :
  Calls Tryz.prog 125 #[.slice a la ca, .slice b lb cb] w fun e w' => e = .returned (.bool (decide (l = m))) ∧ Below w.heap.size w w' := by
 have HA := Lib.hid hA.1
 have HB := Lib.hid hB.1
 by_cases hl : la = lb
 ·
  subst hl
  go_enter Tryz.func125, Tryz.ntmps125
  go_wp2
  go_loopw [13] (fun i wr => ∃ k : Nat, k ≤ la ∧ i = .int .i64 k ∧ Hid (l.take k = m.take k) ∧ Below w.heap.size w wr) (fun i _ => la - (intOf i).toNat)
  case atStart => exact ⟨0, Nat.zero_le _, rfl, by simp [Hid], Below.refl _ _⟩
  case round =>
   obtain ⟨k, hk, rfl, HK, hBe⟩ := hrel
   by_cases hlt : k < la
   ·
    obtain ⟨b1, o1, x, rfl, hb1, x0, hx⟩ := sl1_at (hA.below hBe) hlt
    obtain ⟨b2, o2, y, rfl, hb2, y0, hy⟩ := sl1_at (hB.below hBe) hlt
    have HX := Lib.hid hx
    have HY := Lib.hid hy
    clear hx hy
    have hd : decide ((k : Int) < la) = true := by simp; omega
    by_cases h : x = y
    ·
     have HS : Hid (l.take (k + 1) = m.take (k + 1)) := by rw [take_step HX.out, take_step HY.out, HK.out, h]; rfl
     have hdd : ((x : Int) != y) = false := by simp [h]
     clear h
     go_wp2
     go_quiet (fail)
     go_wp2
     go_roundw
     case rel => exact ⟨k + 1, by omega, by go_num, HS, hBe.trans ⟨rfl, rfl, rfl, Nat.le_refl _, fun _ _ => rfl⟩⟩
     case measure => simp [intOf]; omega
    ·
     have HS : Hid (decide (l = m) = false) := by
      have : l ≠ m := fun e => by
       have h1 := HX.out
       rw [e, HY.out] at h1
       exact h (Option.some.inj h1).symm
      simp [Hid, this]
     have hdd : ((x : Int) != y) = true := by simp [h]
     clear h
     go_wp2
     go_quiet (fail)
     go_wp2
     go_ret
     exact ⟨by rw [HS.out]; rfl, hBe.trans ⟨rfl, rfl, rfl, Nat.le_refl _, fun _ _ => rfl⟩⟩
   ·
    obtain rfl : k = la := by omega
    have HS : Hid (decide (l = m) = true) := by
     have h := HK.out
     rw [List.take_of_length_le (by rw [HA.out]; exact Nat.le_refl _), List.take_of_length_le (by rw [HB.out]; exact Nat.le_refl _)] at h
     simp [Hid, h]
    go_wp2
    go_ret
    exact ⟨by rw [HS.out]; rfl, hBe⟩
 ·
  have HS : Hid (decide (l = m) = false) := by
   have : l ≠ m := fun e => hl (by rw [← HA.out, ← HB.out, e])
   simp [Hid, this]
  have hne : ((la : Int) != (lb : Int)) = true := by simp; omega
  go_enter Tryz.func125, Tryz.ntmps125
  go_wp2
  go_ret
  exact ⟨by rw [HS.out]; rfl, Below.refl _ _⟩

set_option maxHeartbeats 2000000 in
theorem eqU_any (a b : Option Addr) (la ca lb cb : Nat) (l m : List Int) (w : World) (hA : Sl1 (Value.int .u8) w a la l) (hB : Sl1 (Value.int .u8) w b lb m) (hla : la ≤ 4611686018427387904) :
  Calls Tryz.prog 126 #[.slice a la ca, .slice b lb cb] w fun e w' => e = .returned (.bool (decide (l = m))) ∧ Below w.heap.size w w' := by
 have HA := Lib.hid hA.1
 have HB := Lib.hid hB.1
 by_cases hl : la = lb
 ·
  subst hl
  go_enter Tryz.func126, Tryz.ntmps126
  go_wp2
  go_loopw [13] (fun i wr => ∃ k : Nat, k ≤ la ∧ i = .int .i64 k ∧ Hid (l.take k = m.take k) ∧ Below w.heap.size w wr) (fun i _ => la - (intOf i).toNat)
  case atStart => exact ⟨0, Nat.zero_le _, rfl, by simp [Hid], Below.refl _ _⟩
  case round =>
   obtain ⟨k, hk, rfl, HK, hBe⟩ := hrel
   by_cases hlt : k < la
   ·
    obtain ⟨b1, o1, x, rfl, hb1, x0, hx⟩ := sl1_at (hA.below hBe) hlt
    obtain ⟨b2, o2, y, rfl, hb2, y0, hy⟩ := sl1_at (hB.below hBe) hlt
    have HX := Lib.hid hx
    have HY := Lib.hid hy
    clear hx hy
    have hd : decide ((k : Int) < la) = true := by simp; omega
    by_cases h : x = y
    ·
     have HS : Hid (l.take (k + 1) = m.take (k + 1)) := by rw [take_step HX.out, take_step HY.out, HK.out, h]; rfl
     have hdd : ((x : Int) != y) = false := by simp [h]
     clear h
     go_wp2
     go_quiet (fail)
     go_wp2
     go_roundw
     case rel => exact ⟨k + 1, by omega, by go_num, HS, hBe.trans ⟨rfl, rfl, rfl, Nat.le_refl _, fun _ _ => rfl⟩⟩
     case measure => simp [intOf]; omega
    ·
     have HS : Hid (decide (l = m) = false) := by
      have : l ≠ m := fun e => by
       have h1 := HX.out
       rw [e, HY.out] at h1
       exact h (Option.some.inj h1).symm
      simp [Hid, this]
     have hdd : ((x : Int) != y) = true := by simp [h]
     clear h
     go_wp2
     go_quiet (fail)
     go_wp2
     go_ret
     exact ⟨by rw [HS.out]; rfl, hBe.trans ⟨rfl, rfl, rfl, Nat.le_refl _, fun _ _ => rfl⟩⟩
   ·
    obtain rfl : k = la := by omega
    have HS : Hid (decide (l = m) = true) := by
     have h := HK.out
     rw [List.take_of_length_le (by rw [HA.out]; exact Nat.le_refl _), List.take_of_length_le (by rw [HB.out]; exact Nat.le_refl _)] at h
     simp [Hid, h]
    go_wp2
    go_ret
    exact ⟨by rw [HS.out]; rfl, hBe⟩
 ·
  have HS : Hid (decide (l = m) = false) := by
   have : l ≠ m := fun e => hl (by rw [← HA.out, ← HB.out, e])
   simp [Hid, this]
  have hne : ((la : Int) != (lb : Int)) = true := by simp; omega
  go_enter Tryz.func126, Tryz.ntmps126
  go_wp2
  go_ret
  exact ⟨by rw [HS.out]; rfl, Below.refl _ _⟩

set_option maxHeartbeats 4000000 in
theorem tsame_any (t v : TV) (T U : TrieT) (w : World) (hT : Tri w t T) (hU : Tri w v U) (hb : t.un ≤ 4611686018427387904 ∧ t.dn ≤ 4611686018427387904 ∧ t.xn ≤ 4611686018427387904 ∧ t.bn ≤ 4611686018427387904) :
  Calls Tryz.prog 108 #[.agg t.cells, .agg v.cells] w fun e w' => e = .returned (.bool (eqT T U)) ∧ Below w.heap.size w w' := by
 obtain ⟨ua, un, uc, da, dn, dc, xa, xn, xc, ba, bn, bc⟩ := t
 obtain ⟨va, vn, vc, ea, en, ec, ya, yn, yc, ca, cn, cc⟩ := v
 dsimp only at hb
 obtain ⟨h1, h2, h3, h4⟩ := hb
 have hB2 : Below w.heap.size w ((w.alloc (.cells #[.slice ua un uc, .slice da dn dc, .slice xa xn xc, .slice ba bn bc] 34)).alloc (.cells #[.slice va vn vc, .slice ea en ec, .slice ya yn yc, .slice ca cn cc] 34)) := ((Below.refl _ _).alloc (Nat.le_refl _) _).alloc (by simp) _
 have hO : Bx w.heap.size [.cells #[.slice ua un uc, .slice da dn dc, .slice xa xn xc, .slice ba bn bc] 34, .cells #[.slice va vn vc, .slice ea en ec, .slice ya yn yc, .slice ca cn cc] 34] ((w.alloc (.cells #[.slice ua un uc, .slice da dn dc, .slice xa xn xc, .slice ba bn bc] 34)).alloc (.cells #[.slice va vn vc, .slice ea en ec, .slice ya yn yc, .slice ca cn cc] 34)) :=
  ((Bx.nil _ w).snoc _ rfl).snoc _ (by simp)
 have hT2 := hT.below hB2
 have hU2 := hU.below hB2
 obtain ⟨TU, TD, TX, TB⟩ := T
 obtain ⟨UU, UD, UX, UB⟩ := U
 have HE : Hid (eqT ⟨TU, TD, TX, TB⟩ ⟨UU, UD, UX, UB⟩ = (decide (TU = UU) && decide (TD = UD) && decide (TX = UX) && decide (TB = UB))) := rfl
 have k1 := fun (V : World) (hV : Below ((w.alloc (.cells #[.slice ua un uc, .slice da dn dc, .slice xa xn xc, .slice ba bn bc] 34)).alloc (.cells #[.slice va vn vc, .slice ea en ec, .slice ya yn yc, .slice ca cn cc] 34)).heap.size _ V) => eqI_any ua va un uc vn vc TU UU V (hT2.up.below hV) (hU2.up.below hV) h1
 have k2 := fun (V : World) (hV : Below ((w.alloc (.cells #[.slice ua un uc, .slice da dn dc, .slice xa xn xc, .slice ba bn bc] 34)).alloc (.cells #[.slice va vn vc, .slice ea en ec, .slice ya yn yc, .slice ca cn cc] 34)).heap.size _ V) => eqI_any da ea dn dc en ec TD UD V (hT2.dep.below hV) (hU2.dep.below hV) h2
 have k3 := fun (V : World) (hV : Below ((w.alloc (.cells #[.slice ua un uc, .slice da dn dc, .slice xa xn xc, .slice ba bn bc] 34)).alloc (.cells #[.slice va vn vc, .slice ea en ec, .slice ya yn yc, .slice ca cn cc] 34)).heap.size _ V) => eqI_any xa ya xn xc yn yc TX UX V (hT2.wrd.below hV) (hU2.wrd.below hV) h3
 have k4 := fun (V : World) (hV : Below ((w.alloc (.cells #[.slice ua un uc, .slice da dn dc, .slice xa xn xc, .slice ba bn bc] 34)).alloc (.cells #[.slice va vn vc, .slice ea en ec, .slice ya yn yc, .slice ca cn cc] 34)).heap.size _ V) => eqU_any ba ca bn bc cn cc TB UB V (hT2.byt.below hV).1 (hU2.byt.below hV).1 h4
 generalize decide (TU = UU) = b1 at k1 HE
 generalize decide (TD = UD) = b2 at k2 HE
 generalize decide (TX = UX) = b3 at k3 HE
 generalize decide (TB = UB) = b4 at k4 HE
 have K1 := Lib.hid k1
 have K2 := Lib.hid k2
 have K3 := Lib.hid k3
 have K4 := Lib.hid k4
 clear k1 k2 k3 k4 hT hU hT2 hU2
 obtain ⟨W, hW⟩ : ∃ W, W = ((w.alloc (.cells #[.slice ua un uc, .slice da dn dc, .slice xa xn xc, .slice ba bn bc] 34)).alloc (.cells #[.slice va vn vc, .slice ea en ec, .slice ya yn yc, .slice ca cn cc] 34)) := ⟨_, rfl⟩
 rw [← hW] at hB2 hO K1 K2 K3 K4
 have cells : ∀ V, Below W.heap.size W V → (V.cell? ⟨w.heap.size, 0, none⟩ = some (.slice ua un uc) ∧ V.cell? ⟨w.heap.size, 1, none⟩ = some (.slice da dn dc) ∧ V.cell? ⟨w.heap.size, 2, none⟩ = some (.slice xa xn xc) ∧ V.cell? ⟨w.heap.size, 3, none⟩ = some (.slice ba bn bc)) ∧
   (V.cell? ⟨w.heap.size + 1, 0, none⟩ = some (.slice va vn vc) ∧ V.cell? ⟨w.heap.size + 1, 1, none⟩ = some (.slice ea en ec) ∧ V.cell? ⟨w.heap.size + 1, 2, none⟩ = some (.slice ya yn yc) ∧ V.cell? ⟨w.heap.size + 1, 3, none⟩ = some (.slice ca cn cc)) := fun V hV => by
  have h := hO.below hV
  exact ⟨⟨h.cell (i := 0) rfl rfl, h.cell (i := 0) rfl rfl, h.cell (i := 0) rfl rfl, h.cell (i := 0) rfl rfl⟩, ⟨h.cell (i := 1) rfl rfl, h.cell (i := 1) rfl rfl, h.cell (i := 1) rfl rfl, h.cell (i := 1) rfl rfl⟩⟩
 have HC := Lib.hid cells
 clear cells hO
 have fin : ∀ (V : World) (b : Bool), Below W.heap.size W V → b = eqT ⟨TU, TD, TX, TB⟩ ⟨UU, UD, UX, UB⟩ → Ending.returned (.bool b) = .returned (.bool (eqT ⟨TU, TD, TX, TB⟩ ⟨UU, UD, UX, UB⟩)) ∧ Below w.heap.size w V := fun V b hV hb => ⟨by rw [hb], hB2.trans (hV.mono hB2.size)⟩
 have HFIN := Lib.hid fin
 clear fin hB2
 go_enter Tryz.func108, Tryz.ntmps108
 go_upto_region 1 with fail
 rw [← hW]
 clear hW
 obtain ⟨⟨c0, c1, c2, c3⟩, d0, d1, d2, d3⟩ := HC.out W (Below.refl _ _)
 go_wp2_with fail
 refine (K1.out W (Below.refl _ _)).mono ?_
 rintro e w1 ⟨rfl, hb1⟩
 clear c0 c1 c2 c3 d0 d1 d2 d3
 obtain ⟨⟨c0, c1, c2, c3⟩, d0, d1, d2, d3⟩ := HC.out w1 hb1
 cases b1 with
 | false =>
  go_wp2
  go_ret
  exact HFIN.out w1 false hb1 (by rw [HE.out]; rfl)
 | true =>
  go_wp2_with fail
  refine (K2.out w1 hb1).mono ?_
  rintro e w2 ⟨rfl, hb⟩
  have hb2 := hb1.trans (hb.mono hb1.size)
  clear c0 c1 c2 c3 d0 d1 d2 d3 hb
  obtain ⟨⟨c0, c1, c2, c3⟩, d0, d1, d2, d3⟩ := HC.out w2 hb2
  cases b2 with
  | false =>
   go_wp2
   go_ret
   exact HFIN.out w2 false hb2 (by rw [HE.out]; rfl)
  | true =>
   go_wp2_with fail
   refine (K3.out w2 hb2).mono ?_
   rintro e w3 ⟨rfl, hb⟩
   have hb3 := hb2.trans (hb.mono hb2.size)
   clear c0 c1 c2 c3 d0 d1 d2 d3 hb
   obtain ⟨⟨c0, c1, c2, c3⟩, d0, d1, d2, d3⟩ := HC.out w3 hb3
   cases b3 with
   | false =>
    go_wp2
    go_ret
    exact HFIN.out w3 false hb3 (by rw [HE.out]; rfl)
   | true =>
    go_wp2_with fail
    refine (K4.out w3 hb3).mono ?_
    rintro e w4 ⟨rfl, hb⟩
    have hb4 := hb3.trans (hb.mono hb3.size)
    clear c0 c1 c2 c3 d0 d1 d2 d3 hb
    go_wp2
    go_ret
    exact HFIN.out w4 b4 hb4 (by rw [HE.out]; cases b4 <;> rfl)

end Go.Proofs.YtglfdclpjmhoiaaGreat

/- Bytes that are told apart (layer 10): small letters, great ones, a set's bytes; walked. -/

namespace Go.Proofs.YtglfdclpjmhoiaaGreat
open Go.RowKit Go.Sort

set_option maxHeartbeats 1000000 in
theorem small_any (c : Int) (w : World) :
  Calls Tryz.prog 67 #[.int .u8 c] w fun e w' => e = .returned (.bool (smallI c)) ∧ Below w.heap.size w w' := by
 have HS : Hid (smallI c = (decide (97 ≤ c) && decide (c ≤ 122))) := by
  unfold Hid smallI
  rw [Bool.decide_and]
 by_cases h1 : 97 ≤ c
 ·
  have e1 : decide ((97 : Int) ≤ c) = true := by simpa using h1
  by_cases h2 : c ≤ 122
  ·
   have e2 : decide (c ≤ (122 : Int)) = true := by simpa using h2
   go_enter Tryz.func67, Tryz.ntmps67
   go_wp2
   go_ret
   exact ⟨by rw [HS.out, e1, e2]; rfl, Below.refl _ _⟩
  ·
   have e2 : decide (c ≤ (122 : Int)) = false := by simpa using h2
   go_enter Tryz.func67, Tryz.ntmps67
   go_wp2
   go_ret
   exact ⟨by rw [HS.out, e1, e2]; rfl, Below.refl _ _⟩
 ·
  have e1 : decide ((97 : Int) ≤ c) = false := by simpa using h1
  go_enter Tryz.func67, Tryz.ntmps67
  go_wp2
  go_ret
  exact ⟨by rw [HS.out, e1]; rfl, Below.refl _ _⟩

set_option maxHeartbeats 1000000 in
theorem great10_any (c : Int) (w : World) (h : 32 ≤ c ∧ c ≤ 255) :
  Calls Tryz.prog 69 #[.int .u8 c] w fun e w' => e = .returned (.int .u8 (c - 32)) ∧ Below w.heap.size w w' := by
 have hw : IntKind.u8.wrap (c - 32) = c - 32 := by simp [IntKind.wrap, IntKind.bits, IntKind.signed]; omega
 obtain ⟨d, hd⟩ : ∃ d, c - 32 = d := ⟨_, rfl⟩
 have hb : 0 ≤ d ∧ d ≤ 255 := by omega
 go_enter Tryz.func69, Tryz.ntmps69
 go_wp2
 go_ret
 refine ⟨?_, Below.refl _ _⟩
 first | rfl | (simp [hw]; try exact hd.symm)

/-- A row of 256 truths in a box of its own. -/
def TB (W : World) (B : Nat) (l : List Bool) : Prop := W.heap[B]? = some (.cells (l.map Value.bool).toArray 117 (0, 0)) ∧ l.length = 256
theorem zero108 : Tryz.zeroCells117 = ((List.replicate 256 false).map Value.bool).toArray := by kernel_rfl
theorem zero25 : Tryz.zeroCells51 = ((List.replicate 256 (0 : Int)).map (Value.int .i64)).toArray := by kernel_rfl
def Reads (l : List Bool) (f : Nat → Bool) : Prop := ∀ c : Nat, c < 256 → l[c]? = some (f c)
theorem TB.cell {W : World} {B : Nat} {l : List Bool} (h : TB W B l) {c : Nat} (hc : c < 256) : ∃ b, W.cell? ⟨B, c, none⟩ = some (.bool b) ∧ W.frozen? ⟨B, c, none⟩ = false := by
 obtain ⟨h1, h2⟩ := h
 refine ⟨l[c]'(by omega), ?_, ?_⟩
 · simp [World.cell?, h1, show c < l.length by omega]
 · simp [World.frozen?, h1]
theorem TB.lt {W : World} {B : Nat} {l : List Bool} (h : TB W B l) : B < W.heap.size := (Array.getElem?_eq_some_iff.1 h.1).1
theorem TB.below {W V : World} {B : Nat} {l : List Bool} (h : TB W B l) (hb : Below W.heap.size W V) : TB V B l := ⟨(hb.block B h.lt).trans h.1, h.2⟩
theorem TB.set {W : World} {B : Nat} {l : List Bool} (h : TB W B l) (c : Nat) (x : Bool) : TB (W.setCell ⟨B, c, none⟩ (.bool x)) B (l.set c x) := by
 refine ⟨?_, by rw [List.length_set]; exact h.2⟩
 rw [set_at h.1, List.map_set]
 simp
theorem Reads.set {l : List Bool} {f : Nat → Bool} (h : Reads l f) (hl : l.length = 256) {y : Nat} (hy : y < 256) : Reads (l.set y true) (fun c => f c || decide (y = c)) := fun c hc => by
 rw [List.getElem?_set]
 by_cases e : y = c
 ·
  subst e
  rw [if_pos rfl, if_pos (by omega)]
  simp
 ·
  rw [if_neg e, h c hc]
  simp [e]
theorem Reads.congr {l : List Bool} {f g : Nat → Bool} (h : Reads l f) (he : ∀ c, c < 256 → f c = g c) : Reads l g := fun c hc => by rw [h c hc, he c hc]
theorem Reads.all {l : List Bool} {f : Nat → Bool} (h : Reads l f) (hl : l.length = 256) : l = (List.range 256).map f := by
 apply List.ext_getElem?
 intro i
 by_cases hi : i < 256
 ·
  rw [h i hi, List.getElem?_map, List.getElem?_range hi]
  rfl
 · rw [List.getElem?_eq_none (by omega), List.getElem?_eq_none (by simp; omega)]
/-- Is a byte one of a text's? -/
def inX (fold : Bool) (x : List Int) (c : Int) : Bool := x.any fun y => decide (y = c) || (fold && smallI y && decide (y - 32 = c))
theorem inB_any (fold : Bool) (ws : List (List Int)) (c : Int) : inB fold ws c = ws.any fun x => inX fold x c := rfl
theorem inB_step {fold : Bool} {ws : List (List Int)} {k : Nat} {x : List Int} (hx : ws[k]? = some x) (c : Int) : inB fold (ws.take (k + 1)) c = (inB fold (ws.take k) c || inX fold x c) := by
 rw [inB_any, inB_any, take_step hx, List.any_append]
 simp
theorem inX_step {fold : Bool} {x : List Int} {j : Nat} {y : Int} (hy : x[j]? = some y) (c : Int) : inX fold (x.take (j + 1)) c = (inX fold (x.take j) c || (decide (y = c) || (fold && smallI y && decide (y - 32 = c)))) := by
 unfold inX
 rw [take_step hy, List.any_append]
 simp
theorem dec_cast (n c : Nat) : decide ((n : Int) = (c : Int)) = decide (n = c) := decide_eq_decide.2 (by omega)
def hasL (fold : Bool) (ws : List (List Int)) : List Bool := (List.range 256).map fun c : Nat => inB fold ws (c : Int)
theorem info108 : (Tryz.prog.info? 117).map (·.size) = some 256 := by kernel_rfl
theorem info25 : (Tryz.prog.info? 51).map (·.size) = some 256 := by kernel_rfl

theorem below_setRow {B : Nat} {v w : World} (h : RowKit.Below B v w) {g : Nat} (hg : B ≤ g) (cs : Array Value) : RowKit.Below B v (w.setRow g cs) := by
 refine h.trans ⟨rfl, rfl, rfl, by simp [World.setRow], fun k hk => ?_⟩
 unfold World.setRow
 simp only [Array.getElem?_modify]
 rw [if_neg (by omega)]

set_option maxRecDepth 100000 in
set_option maxHeartbeats 8000000 in
theorem has_any (fold : Bool) (a : Option Addr) (la ca : Nat) (wss : List (List Int)) (w : World) (hA : Wds w a la wss) (hla : la ≤ 1000000) (hM : ∀ x ∈ wss, x.length ≤ 1000000) :
  Calls Tryz.prog 66 #[.agg (setV fold a la ca)] w fun e w' => e = .returned (.agg ((hasL fold wss).map Value.bool).toArray) ∧ Below w.heap.size w w' := by
 have HL := Lib.hid hA.len
 have HM := Lib.hid hM
 obtain ⟨W, hW⟩ : ∃ W, W = ((w.alloc (.cells (setV fold a la ca) 24)).alloc (.cells Tryz.zeroCells117 117)).alloc (.cells Tryz.zeroCells117 117) := ⟨_, rfl⟩
 have hB : Below w.heap.size w W := by rw [hW]; exact (((Below.refl _ _).alloc (Nat.le_refl _) _).alloc (by simp) _).alloc (by simp; omega) _
 have hO : Bx w.heap.size [.cells (setV fold a la ca) 24, .cells Tryz.zeroCells117 117, .cells Tryz.zeroCells117 117] W := by rw [hW]; exact (((Bx.nil _ w).snoc _ rfl).snoc _ (by simp)).snoc _ (by simp)
 have hsz : W.heap.size = w.heap.size + 1 + 1 + 1 := by rw [hW]; simp
 have h0 : W.heap[w.heap.size]? = some (.cells (setV fold a la ca) 24 (0, 0)) := hO 0 _ rfl
 have h1 : W.heap[w.heap.size + 1]? = some (.cells Tryz.zeroCells117 117 (0, 0)) := hO 1 _ rfl
 have hT : TB W (w.heap.size + 1 + 1) (List.replicate 256 false) := ⟨by rw [← zero108]; exact hO 2 _ rfl, by simp⟩
 have HR0 : Hid (Reads (List.replicate 256 false) (fun c => inB fold (wss.take 0) (c : Int))) := fun c hc => by
  rw [List.getElem?_replicate, if_pos hc, List.take_zero]
  rfl
 have HA := Lib.hid hA
 have HB := Lib.hid hB
 have HH0 := Lib.hid h0
 have HH1 := Lib.hid h1
 have HSZ := Lib.hid hsz
 have HT := Lib.hid hT
 have s1 : W.cell? ⟨w.heap.size, 1, none⟩ = some (.slice a la ca) := hO.cell (i := 0) rfl rfl
 clear hA hB hO h0 h1 hsz hT hM
 go_enter Tryz.func66, Tryz.ntmps66
 go_upto_region 2 with fail
 rw [← hW]
 clear hW
 go_wp2
 clear s1
 go_loopw [11] (fun s11 wr => ∃ (k : Nat) (l : List Bool), k ≤ la ∧ s11 = .int .i64 k ∧ TB wr (w.heap.size + 1 + 1) l ∧ Hid (Reads l (fun c => inB fold (wss.take k) (c : Int))) ∧ RowKit.Below (w.heap.size + 1 + 1) W wr) (fun s _ => la - (intOf s).toNat)
 case atStart => exact ⟨0, _, Nat.zero_le _, rfl, HT.out, HR0, RowKit.Below.refl _ _⟩
 case round =>
  clear HT HR0
  obtain ⟨k, l, hk, rfl, hTk, HRk, hBk⟩ := hrel
  by_cases hkl : k < la
  ·
   have hd : decide ((k : Int) < la) = true := by simp; omega
   have hBw := HB.out.trans (hBk.mono (by omega))
   obtain ⟨b1, o1, ax, lx, cx, x, rfl, hbl, hcx, hx, hX, hlcx⟩ := HA.out.at_ hkl
   have hlx : lx ≤ 1000000 := by have := HM.out x (List.mem_of_getElem? hx); rw [hX.len] at this; exact this
   have i1 : (0 : Int) ≤ (k : Int) := by omega
   have i2 : (k : Int) < (la : Int) := by omega
   have fx : wr.cell? ⟨b1, o1 + k, none⟩ = some (.slice ax lx cx) := (hBw.cell (p := ⟨b1, o1 + k, none⟩) hbl).trans hcx
   have HX := Lib.hid hx
   have HXB := Lib.hid hX
   have HTk := Lib.hid hTk
   have HBk := Lib.hid hBk
   have HR1 : Hid (Reads l (fun c => inB fold (wss.take k) (c : Int) || inX fold (x.take 0) (c : Int))) := HRk.out.congr (fun c hc => by simp [inX])
   have hxl := hX.len
   have HXL := Lib.hid hxl
   clear hcx hx hX hxl hTk hBk hBw HRk
   go_wp2
   clear fx
   go_loopw [17] (fun s17 wq => ∃ (j : Nat) (l : List Bool), j ≤ lx ∧ s17 = .int .i64 j ∧ TB wq (w.heap.size + 1 + 1) l ∧ Hid (Reads l (fun c => inB fold (wss.take k) (c : Int) || inX fold (x.take j) (c : Int))) ∧ RowKit.Below (w.heap.size + 1 + 1) W wq) (fun s _ => lx - (intOf s).toNat)
   case atStart => exact ⟨0, l, Nat.zero_le _, rfl, HTk.out, HR1, HBk.out⟩
   case round =>
    clear HR1
    obtain ⟨j, l2, hj, rfl, hTj, HRj, hBj⟩ := hrel
    by_cases hjl : j < lx
    ·
     have hdj : decide ((j : Int) < lx) = true := by simp; omega
     have hBw := HB.out.trans (hBj.mono (by omega))
     obtain ⟨b2, o2, y, rfl, hbl2, hcy, hy⟩ := sl1_at (HXB.out.1.below hBw) hjl
     have hyb := HXB.out.2 y (List.mem_of_getElem? hy)
     obtain ⟨n, rfl⟩ := Int.eq_ofNat_of_zero_le hyb.1
     have hn : n < 256 := by omega
     have HY := Lib.hid hy
     obtain ⟨bo, q1, q2⟩ := hTj.cell hn
     have j1 : (0 : Int) ≤ (j : Int) := by omega
     have j2 : (j : Int) < (lx : Int) := by omega
     have j3 : (0 : Int) ≤ (n : Int) := by omega
     have j4 : (n : Int) < 256 := by omega
     have HS := Lib.hid (HRj.out.set hTj.2 hn)
     have HTj := Lib.hid hTj
     have HBj := Lib.hid hBj
     have hsz := HSZ.out
     clear hy hyb HRj hBw hTj hBj
     go_upto_region 9 with fail
     obtain ⟨W1, hW1⟩ : ∃ V, V = wr.setCell ⟨w.heap.size + 1 + 1, n, none⟩ (.bool true) := ⟨_, rfl⟩
     rw [← hW1]
     have hT1 : TB W1 (w.heap.size + 1 + 1) (l2.set n true) := by rw [hW1]; exact HTj.out.set n true
     have hB1 : RowKit.Below (w.heap.size + 1 + 1) W W1 := by rw [hW1]; exact HBj.out.setCell (Nat.le_refl _) _
     have h01 : W1.heap[w.heap.size]? = some (.cells (setV fold _ la ca) 24 (0, 0)) := (hB1.block _ (by omega)).trans HH0.out
     have s0 : W1.cell? ⟨w.heap.size, 0, none⟩ = some (.bool fold) := by simp [World.cell?, h01]
     have HT1 := Lib.hid hT1
     have HB1 := Lib.hid hB1
     clear hW1 hcy q1 q2 h01 hT1 hB1 HTj HBj
     cases fold with
     | false =>
      have HR2 : Hid (Reads (l2.set n true) (fun c => inB false (wss.take k) (c : Int) || inX false (x.take (j + 1)) (c : Int))) := HS.out.congr (fun c hc => by
       rw [inX_step HY.out, Bool.or_assoc, dec_cast]
       simp)
      go_wp2
      go_roundw
      case rel => exact ⟨j + 1, _, by omega, by go_num, HT1.out, HR2, HB1.out⟩
      case measure => simp [intOf]; omega
     | true =>
      have HSm := Lib.hid (small_any (n : Int) W1)
      go_wp2_with fail
      refine HSm.out.mono ?_
      rintro e W2 ⟨rfl, hb2⟩
      have HT2 := Lib.hid (HT1.out.below hb2)
      have HB2 := Lib.hid (HB1.out.trans (hb2.mono (by have := HT1.out.lt; omega)))
      clear s0 hb2 HSm
      cases hsm : smallI (n : Int) with
      | false =>
       have HR2 : Hid (Reads (l2.set n true) (fun c => inB true (wss.take k) (c : Int) || inX true (x.take (j + 1)) (c : Int))) := HS.out.congr (fun c hc => by
        rw [inX_step HY.out, Bool.or_assoc, hsm, dec_cast]
        simp)
       clear hsm
       go_wp2
       go_roundw
       case rel => exact ⟨j + 1, _, by omega, by go_num, HT2.out, HR2, HB2.out⟩
       case measure => simp [intOf]; omega
      | true =>
       obtain ⟨p, rfl⟩ : ∃ p, n = p + 32 := ⟨n - 32, by unfold smallI at hsm; have := of_decide_eq_true hsm; omega⟩
       have hp : p < 256 := by omega
       have hg := great10_any ((p + 32 : Nat) : Int) W2 (by omega)
       rw [show ((p + 32 : Nat) : Int) - 32 = (p : Int) by omega] at hg
       have HG := Lib.hid hg
       have HS3 := Lib.hid (HS.out.set HT2.out.2 hp)
       have HR2 : Hid (Reads ((l2.set (p + 32) true).set p true) (fun c => inB true (wss.take k) (c : Int) || inX true (x.take (j + 1)) (c : Int))) := HS3.out.congr (fun c hc => by
        rw [inX_step HY.out, hsm, show ((p + 32 : Nat) : Int) - 32 = (p : Int) by omega, dec_cast, dec_cast]
        simp only [Bool.or_assoc, Bool.true_and, Bool.and_true])
       have k3 : (0 : Int) ≤ (p : Int) := by omega
       have k4 : (p : Int) < 256 := by omega
       clear hsm hg HS HS3
       go_wp2_with fail
       refine HG.out.mono ?_
       rintro e W3 ⟨rfl, hb3⟩
       have HT3 := Lib.hid (HT2.out.below hb3)
       have HB3 := Lib.hid (HB2.out.trans (hb3.mono (by have := HT2.out.lt; omega)))
       obtain ⟨bo2, r1, r2⟩ := HT3.out.cell hp
       clear hb3 HG
       go_wp2
       go_roundw
       case rel => exact ⟨j + 1, _, by omega, by go_num, HT3.out.set p true, HR2, HB3.out.setCell (Nat.le_refl _) _⟩
       case measure => simp [intOf]; omega
    ·
     obtain rfl : j = lx := by omega
     have hdj : decide ((j : Int) < j) = false := by simp
     have HR2 : Hid (Reads l2 (fun c => inB fold (wss.take (k + 1)) (c : Int))) := HRj.out.congr (fun c hc => by
      rw [inB_step HX.out, show x.take j = x from List.take_of_length_le (by rw [HXL.out]; exact Nat.le_refl _)])
     go_wp2
     go_roundw
     case rel => exact ⟨k + 1, _, by omega, by go_num, hTj, HR2, hBj⟩
     case measure => simp [intOf]; omega
  ·
   obtain rfl : k = la := by omega
   have hd : decide ((k : Int) < k) = false := by simp
   have HR2 : Hid (l = hasL fold wss) := by
    have h := HRk.out.all hTk.2
    rw [List.take_of_length_le (by rw [HL.out]; exact Nat.le_refl _)] at h
    exact h
   have h1r : wr.heap[w.heap.size + 1]? = some (.cells Tryz.zeroCells117 117 (0, 0)) := (hBk.block _ (by omega)).trans HH1.out
   rw [zero108] at h1r
   have hsz1 : ((l.map Value.bool).toArray).size = 256 := by simp [hTk.2]
   have hi : (Tryz.prog.info? 117).map (·.size) = some ((l.map Value.bool).toArray).size := by rw [hsz1]; exact info108
   have H1 := Lib.hid h1r
   have HTk := Lib.hid hTk
   have HI := Lib.hid hi
   have HBk := Lib.hid hBk
   have HS1 := Lib.hid hsz1
   have hone : ((l.map Value.bool).toArray).all (·.oneCell') = true := by simp [Value.oneCell']
   have HO := Lib.hid hone
   clear h1r hTk hi hBk hsz1 hone
   go_wp2_with (first
    | (refine wpList_load_row rfl 117 _ rfl (w.heap.size + 1 + 1) rfl 117 _ (0, 0) _ HTk.out.1 Tryz.underlying117 rfl HI.out ?_)
    | (refine wpList_store_row rfl 117 _ _ rfl (w.heap.size + 1) _ rfl rfl 117 _ H1.out HI.out (by rw [HS1.out]; simp) HO.out ?_))
   refine bodyPost_ret (results_cell_row rfl _ _ (w.heap.size + 1) 117 _ (0, 0) _ rfl (setRow_heap _ _ _ _ _ _ H1.out) Tryz.underlying117 rfl HI.out) rfl ?_
   rw [HR2.out]
   exact ⟨rfl, below_setRow (HB.out.trans (HBk.out.mono (by omega))) (by omega) _⟩

end Go.Proofs.YtglfdclpjmhoiaaGreat

/- Bytes that are told apart (layer 10): classes counted; walked. -/

namespace Go.Proofs.YtglfdclpjmhoiaaGreat
open Go.RowKit Go.Sort

/-- A row of 256 numbers and one more in a box of its own. -/
def CB (W : World) (B : Nat) (l : List Int) (m : Int) : Prop := W.heap[B]? = some (.cells ((l ++ [m]).map (Value.int .i64)).toArray 95 (0, 0)) ∧ l.length = 256
theorem CB.lt {W : World} {B : Nat} {l : List Int} {m : Int} (h : CB W B l m) : B < W.heap.size := (Array.getElem?_eq_some_iff.1 h.1).1
theorem CB.below {W V : World} {B : Nat} {l : List Int} {m : Int} (h : CB W B l m) (hb : Below W.heap.size W V) : CB V B l m := ⟨(hb.block B h.lt).trans h.1, h.2⟩
theorem CB.cell {W : World} {B : Nat} {l : List Int} {m : Int} (h : CB W B l m) {c : Nat} (hc : c < 256) {v : Int} (hv : l[c]? = some v) : W.cell? ⟨B, c, none⟩ = some (.int .i64 v) := by
 obtain ⟨h1, h2⟩ := h
 have : (l ++ [m])[c]? = some v := by rw [List.getElem?_append_left (by omega)]; exact hv
 simp only [World.cell?, h1]
 simp only [Array.getElem?_map, List.getElem?_toArray, List.getElem?_map, this, Option.map_some]
 simp
theorem CB.many {W : World} {B : Nat} {l : List Int} {m : Int} (h : CB W B l m) : W.cell? ⟨B, 256, none⟩ = some (.int .i64 m) := by
 obtain ⟨h1, h2⟩ := h
 have : (l ++ [m])[256]? = some m := by rw [← h2]; simp
 simp only [World.cell?, h1]
 simp only [Array.getElem?_map, List.getElem?_toArray, List.getElem?_map, this, Option.map_some]
 simp
theorem CB.frozen {W : World} {B : Nat} {l : List Int} {m : Int} (h : CB W B l m) (c : Nat) : W.frozen? ⟨B, c, none⟩ = false := by
 simp [World.frozen?, h.1]
theorem CB.set {W : World} {B : Nat} {l : List Int} {m : Int} (h : CB W B l m) {c : Nat} (hc : c < 256) (v : Int) : CB (W.setCell ⟨B, c, none⟩ (.int .i64 v)) B (l.set c v) m := by
 refine ⟨?_, by rw [List.length_set]; exact h.2⟩
 rw [set_at h.1]
 have e : (l ++ [m]).set c v = l.set c v ++ [m] := List.set_append_left _ _ (by rw [h.2]; exact hc)
 rw [← e, List.map_set]
 simp
theorem CB.setm {W : World} {B : Nat} {l : List Int} {m : Int} (h : CB W B l m) (v : Int) : CB (W.setCell ⟨B, 256, none⟩ (.int .i64 v)) B l v := by
 refine ⟨?_, h.2⟩
 rw [set_at h.1]
 have e : (l ++ [m]).set 256 v = l ++ [v] := by rw [← h.2]; simp
 rw [← e, List.map_set]
 simp

set_option maxRecDepth 100000 in
set_option maxHeartbeats 2000000 in
theorem set10_any (B c : Nat) (v : Int) (u : Value) (w : World) (hc : c < 256) (hu : w.cell? ⟨B, c, none⟩ = some u) (hf : w.frozen? ⟨B, c, none⟩ = false) :
  Calls Tryz.prog 68 #[.pointer (some ⟨B, 0, none⟩), .int .u8 (c : Int), .int .i64 v] w fun e w' => e = .returned (.tuple #[]) ∧ w' = w.setCell ⟨B, c, none⟩ (.int .i64 v) := by
 have i1 : (0 : Int) ≤ (c : Int) := by omega
 have i2 : (c : Int) < 256 := by omega
 go_enter Tryz.func68, Tryz.ntmps68
 go_wp2
 refine bodyPost_end (results_none rfl _ _ _) rfl ?_
 exact ⟨rfl, rfl⟩

set_option maxRecDepth 100000 in
set_option maxHeartbeats 4000000 in
theorem own10_any (B c m : Nat) (l : List Int) (w : World) (hc : c < 256) (h : CB w B l m) (hm : m ≤ 1000) :
    Calls Tryz.prog 70 #[.pointer (some ⟨B, 0, none⟩), .int .u8 (c : Int)] w fun e w' => e = .returned (.tuple #[]) ∧ CB w' B (l.set c m) ((m + 1 : Nat) : Int) ∧ RowKit.Below B w w' := by
  have H := Lib.hid h
  have i1 : (0 : Int) ≤ (c : Int) := by omega
  have i2 : (c : Int) < 256 := by omega
  have hl2 : c < l.length := by rw [h.2]; exact hc
  obtain ⟨u, hu⟩ : ∃ u, l[c]? = some u := ⟨l[c], by simp⟩
  have H1 := Lib.hid (h.below (bel_drewN w 1))
  have HBd : Hid (RowKit.Below B w (w.drewN 1)) := (bel_drewN w 1).mono (Nat.le_of_lt h.lt)
  have k1 := Lib.hid (set10_any B c m _ w.drew hc (H1.out.cell hc hu) (H1.out.frozen c))
  have hmn := H1.out.many
  clear h
  go_enter Tryz.func70, Tryz.ntmps70
  go_upto_region 0 with fail
  refine wp_region_noPanic ?_
  refine wp_region_held_drew (S := fun V => RowKit.Below B w V ∧ V.cell? ⟨B, 256, none⟩ = some (.int .i64 (m : Int))) (by kernel_rfl) ⟨HBd.out, hmn⟩ (fun hHeld => ?_)
  change wpAnyH _ _ _ _ _ 9 _ _ _
  iterate 7 (refine tkF 8 (v := ?_) ?_ ?_; rotate_left; (· intro V hV; first | (go_simp; done) | (go_simp; with_reducible rfl)); try simp only [Act.put, pA, pB, pC])
  refine tkW 7 (v := ?_) ?_ ?_
  rotate_left
  · intro V hV
    have r0 := hV.2
    first | (go_simp; done) | (go_simp; with_reducible rfl)
  try simp only [Act.put, pA, pB, pC]
  refine rdy 8 (fun K hK => ?_)
  go_simp
  go_at_call 68; refine k1.out.mono ?_; rintro e w2 ⟨rfl, hw2⟩
  have hC2 : CB w2 B (l.set c m) m := by rw [hw2]; exact H1.out.set hc m
  have hB2 : RowKit.Below B w w2 := by rw [hw2]; exact HBd.out.setCell (Nat.le_refl _) _
  refine hK.out _ _ ⟨hB2, hC2.many⟩ (fun hNew => ?_)
  clear hK K hHeld hNew hw2
  try simp only [Act.put, pA, pB, pC]
  refine wpAnyH_done (by kernel_rfl) ?_ _
  refine NoPanic.normal ?_
  have q1 := hC2.many
  have q2 := hC2.frozen 256
  have HC2 := Lib.hid hC2
  have HB2 := Lib.hid hB2
  clear hC2 hB2 hmn
  go_wp2
  refine bodyPost_end (results_none rfl _ _ _) rfl ?_
  refine ⟨rfl, ?_, HB2.out.setCell (Nat.le_refl _) _⟩
  have h := HC2.out.setm (((m + 1 : Nat)) : Int)
  first | exact h | (have e : wrap64 ((m : Int) + 1) = ((m + 1 : Nat) : Int) := by go_num
                     rw [← e] at h; exact h)
end Go.Proofs.YtglfdclpjmhoiaaGreat

/- Bytes that are told apart (layer 10): a set's classes; walked. Printed by exp.py. -/

namespace Go.Proofs.YtglfdclpjmhoiaaGreat
open Go.RowKit Go.Sort

/-- The classes of the first bytes, and nothing behind them. -/
def clsZ (p : Int → Bool) (fold : Bool) (i : Nat) : List Int := (clsN p fold i).1 ++ List.replicate (256 - i) 0
theorem clsZ_len (p : Int → Bool) (fold : Bool) {i : Nat} (h : i ≤ 256) : (clsZ p fold i).length = 256 := by
 unfold clsZ
 rw [List.length_append, clsN_len, List.length_replicate]
 omega
theorem clsZ_at (p : Int → Bool) (fold : Bool) {i j : Nat} (h : j < i) : (clsZ p fold i)[j]? = (clsN p fold i).1[j]? := by
 unfold clsZ
 rw [List.getElem?_append_left (by rw [clsN_len]; exact h)]
theorem clsZ_set (p : Int → Bool) (fold : Bool) {i : Nat} (h : i < 256) (v : Int) : (clsZ p fold i).set i v = ((clsN p fold i).1 ++ [v]) ++ List.replicate (256 - (i + 1)) 0 := by
 unfold clsZ
 have hl := clsN_len p fold i
 rw [List.set_append_right _ _ (by omega), hl, Nat.sub_self, show 256 - i = (256 - (i + 1)) + 1 by omega, List.replicate_succ, List.set_cons_zero, List.append_assoc]
 rfl
theorem clsZ_no {p : Int → Bool} {fold : Bool} {i : Nat} (h : i < 256) (hp : p i = false) : clsZ p fold (i + 1) = clsZ p fold i ∧ (clsN p fold (i + 1)).2 = (clsN p fold i).2 := by
 unfold clsZ
 rw [clsN_succ, if_pos hp]
 refine ⟨?_, rfl⟩
 rw [show 256 - i = (256 - (i + 1)) + 1 by omega, List.replicate_succ, List.append_assoc]
 rfl
theorem clsZ_small {p : Int → Bool} {fold : Bool} {i : Nat} (h : i < 256) (hp : p i = true) (hs : (fold && smallI i) = true) : clsZ p fold (i + 1) = (clsZ p fold i).set i (((clsN p fold i).1[i - 32]?).getD 0) ∧ (clsN p fold (i + 1)).2 = (clsN p fold i).2 := by
 rw [clsZ_set p fold h]
 unfold clsZ
 rw [clsN_succ, if_neg (by rw [hp]; decide), if_pos hs]
 exact ⟨rfl, rfl⟩
theorem clsZ_own {p : Int → Bool} {fold : Bool} {i : Nat} (h : i < 256) (hp : p i = true) (hs : (fold && smallI i) = false) : clsZ p fold (i + 1) = (clsZ p fold i).set i ((clsN p fold i).2 : Int) ∧ (clsN p fold (i + 1)).2 = (clsN p fold i).2 + 1 := by
 rw [clsZ_set p fold h]
 unfold clsZ
 rw [clsN_succ, if_neg (by rw [hp]; decide), if_neg (by rw [hs]; decide)]
 exact ⟨rfl, rfl⟩
theorem hasL_at (fold : Bool) (ws : List (List Int)) {i : Nat} (h : i < 256) : ((hasL fold ws).map Value.bool)[i]? = some (.bool (inB fold ws (i : Int))) := by
 unfold hasL
 rw [List.getElem?_map, List.getElem?_map, List.getElem?_range h]
 rfl

theorem zero88 : Tryz.zeroCells95.setIfInBounds 256 (Value.int IntKind.i64 1) = ((List.replicate 256 (0 : Int) ++ [1]).map (Value.int .i64)).toArray := by kernel_rfl
theorem bool_info10 : (Tryz.prog.info? 4).map (fun i => (i.zero, i.size, i.bytes)) = some (some (.bool false), 1, 1) := by kernel_rfl
theorem run_ix108 {L : Array Value} {i : Nat} {b : Bool} (hi : i < 256) (h : L[i]? = some (.bool b)) (w : World) : Sem.run Tryz.prog (Instr.index 117 (.agg L) (.int .i64 (i : Int))) w = .ok (.bool b) w := by
 obtain ⟨i0, hi0, _, hz, _⟩ := info_parts bool_info10
 have e : (0 : Int) ≤ (i : Int) ∧ (i : Int) < 256 := by omega
 unfold Instr.index
 simp only [asIntOf, Sem.run_bind, Sem.run_pure, Result.andThen_ok, run_underlying Tryz.underlying117]
 simp [e, sizeOf, typeInfo, hi0, hz, part, isAgg, run_underlying Tryz.underlying4, h]

set_option maxRecDepth 100000 in
set_option maxHeartbeats 8000000 in
theorem count10_yes (fold : Bool) (a : Option Addr) (la ca : Nat) (wss : List (List Int)) (w : World) (hA : Wds w a la wss) (hla : la ≤ 1000000) (hM : ∀ x ∈ wss, x.length ≤ 1000000) (hT : (begL fold wss).length ≤ 1000000) (hr : rightP fold wss = true) :
  Calls Tryz.prog 46 #[.agg (setV fold a la ca)] w fun e w' => ∃ B, e = .returned (.tuple #[.pointer (some ⟨B, 0, none⟩), .bool true]) ∧ CB w' B (clsP fold wss) (manyP fold wss : Int) ∧ w.heap.size ≤ B ∧ Below w.heap.size w w' := by
 obtain ⟨W, hW⟩ : ∃ W, W = w.alloc (.cells (setV fold a la ca) 24) := ⟨_, rfl⟩
 have hB : Below w.heap.size w W := by rw [hW]; exact below_alloc _ _
 have hO : Bx w.heap.size [.cells (setV fold a la ca) 24] W := by rw [hW]; exact (Bx.nil _ w).snoc _ rfl
 have s0 : W.cell? ⟨w.heap.size, 0, none⟩ = some (.bool fold) := hO.cell (i := 0) rfl rfl
 have s1 : W.cell? ⟨w.heap.size, 1, none⟩ = some (.slice a la ca) := hO.cell (i := 0) rfl rfl
 have HC := Lib.hid (pright_any fold a la ca wss W (hA.below hB) hla hM hT)
 have HA := Lib.hid (hA.below hB)
 have HO := Lib.hid hO
 have HM := Lib.hid hM
 have hWs : W.heap.size = w.heap.size + 1 := by rw [hW]; simp
 have HWS := Lib.hid hWs
 rw [hr] at HC
 clear hr hA hO hM hWs
 go_enter Tryz.func46, Tryz.ntmps46
 go_upto_region 1 with fail
 rw [← hW]
 clear hW
 go_wp2_with fail
 refine HC.out.mono ?_
 rintro e w1 ⟨rfl, hb1⟩
 clear s0 s1 HC
 go_upto_region 4 with fail
 obtain ⟨W2, hW2⟩ : ∃ V, V = w1.alloc (.cells (Tryz.zeroCells95.setIfInBounds 256 (Value.int IntKind.i64 1)) 95) := ⟨_, rfl⟩
 have hb2' : RowKit.Below w1.heap.size w1 W2 := by rw [hW2]; exact below_alloc _ _
 have hC2 : CB W2 w1.heap.size (List.replicate 256 0) 1 := ⟨by rw [hW2, zero88]; exact World.alloc_heap_new _ _, by simp⟩
 rw [← hW2]
 clear hW2
 obtain ⟨B, hBe⟩ : ∃ B, w1.heap.size = B := ⟨_, rfl⟩
 have hWB : W.heap.size ≤ B := by rw [← hBe]; exact hb1.size
 have hb2 := hb1.trans (hb2'.mono hb1.size)
 rw [hBe] at hC2 ⊢
 clear hBe hb2' hb1
 have HB2 := Lib.hid hb2
 have HC2 := Lib.hid hC2
 have hO2 := HO.out.below hb2
 have s0 : W2.cell? ⟨w.heap.size, 0, none⟩ = some (.bool fold) := hO2.cell (i := 0) rfl rfl
 have s1 : W2.cell? ⟨w.heap.size, 1, none⟩ = some (.slice a la ca) := hO2.cell (i := 0) rfl rfl
 have HH := Lib.hid (has_any fold a la ca wss W2 (HA.out.below hb2) hla HM.out)
 clear hO2 hC2 hb2
 go_wp2_with fail
 refine HH.out.mono ?_
 rintro e W3 ⟨rfl, hb3⟩
 have HB3 := Lib.hid (HB2.out.trans (hb3.mono HB2.out.size))
 have HC3 := Lib.hid (HC2.out.below hb3)
 obtain ⟨L, hL⟩ : ∃ L, ((hasL fold wss).map Value.bool).toArray = L := ⟨_, rfl⟩
 have ix : Hid (∀ (i : Nat), i < 256 → L[i]? = some (.bool (inB fold wss (i : Int)))) := fun i hi => by
  rw [← hL]
  simpa using hasL_at fold wss hi
 have hLs : L.size = 256 := by rw [← hL]; simp [hasL]
 rw [hL]
 clear s0 s1 HH hb3 hL HC2 HB2
 have hB3s : B < W3.heap.size := HC3.out.lt
 go_wp2
 go_loopw [15] (fun s15 wr => ∃ i : Nat, i ≤ 256 ∧ s15 = .int .i64 i ∧ CB wr B (clsZ (inB fold wss) fold i) ((clsN (inB fold wss) fold i).2 : Int) ∧ RowKit.Below B W3 wr) (fun s _ => 256 - (intOf s).toNat)
 case atStart => exact ⟨0, Nat.zero_le _, rfl, HC3.out, RowKit.Below.refl _ _⟩
 case round =>
  obtain ⟨i, hi, rfl, hCi, hBi⟩ := hrel
  by_cases hil : i < 256
  ·
   have hd : decide ((i : Int) < 256) = true := by simp; omega
   have i1 : (0 : Int) ≤ (i : Int) := by omega
   have i2 : (i : Int) < 256 := by omega
   have hix := ix.out i hil
   obtain ⟨b, hb⟩ : ∃ b, inB fold wss (i : Int) = b := ⟨_, rfl⟩
   rw [hb] at hix
   have hidx := fun (V : World) => run_ix108 hil hix V
   have hw8 : IntKind.u8.wrap (i : Int) = (i : Int) := by simp [IntKind.wrap, IntKind.bits, IntKind.signed]; omega
   have hCZ := Lib.hid hCi
   have hBZ := Lib.hid hBi
   have hOr := HO.out.below (HB3.out.trans (hBi.mono (by have := HB3.out.size; have := HWS.out; omega)))
   have s0 : wr.cell? ⟨w.heap.size, 0, none⟩ = some (.bool fold) := hOr.cell (i := 0) rfl rfl
   have HBB := Lib.hid hb
   clear hCi hBi hOr hix hb
   cases b with
   | false =>
    obtain ⟨z1, z2⟩ := clsZ_no (p := inB fold wss) (fold := fold) hil HBB.out
    have hC2 : CB wr B (clsZ (inB fold wss) fold (i + 1)) ((clsN (inB fold wss) fold (i + 1)).2 : Int) := by rw [z1, z2]; exact hCZ.out
    have HC2 := Lib.hid hC2
    clear z1 z2 hC2
    go_wp2
    go_roundw
    case rel => exact ⟨i + 1, by omega, by go_num, HC2.out, hBZ.out⟩
    case measure => simp [intOf]; omega
   | true =>
    have hmm := clsN_many (inB fold wss) fold i
    cases fold with
    | false =>
     obtain ⟨z1, z2⟩ := clsZ_own (p := inB false wss) (fold := false) hil HBB.out rfl
     have ho := own10_any B i (clsN (inB false wss) false i).2 _ wr hil hCZ.out (by omega)
     rw [← z1, ← z2] at ho
     have HOW := Lib.hid ho
     clear z1 z2 ho hmm
     go_wp2_with fail
     refine HOW.out.mono ?_
     rintro e w5 ⟨rfl, hc5, hb5⟩
     have HC5 := Lib.hid hc5
     clear hc5 hidx s0
     go_wp2
     go_roundw
     case rel => exact ⟨i + 1, by omega, by go_num, HC5.out, hBZ.out.trans hb5⟩
     case measure => simp [intOf]; omega
    | true =>
     have HSm := Lib.hid (small_any (i : Int) wr)
     go_wp2_with fail
     refine HSm.out.mono ?_
     rintro e w4 ⟨rfl, hb4⟩
     have hC4 := hCZ.out.below hb4
     have HC4 := Lib.hid hC4
     have HB4 := Lib.hid (hBZ.out.trans (hb4.mono (by have := hCZ.out.lt; omega)))
     clear hC4 hb4 s0 hidx HSm
     cases hsm : smallI (i : Int) with
     | false =>
      obtain ⟨z1, z2⟩ := clsZ_own (p := inB true wss) (fold := true) hil HBB.out (by rw [hsm]; rfl)
      have ho := own10_any B i (clsN (inB true wss) true i).2 _ w4 hil HC4.out (by omega)
      rw [← z1, ← z2] at ho
      have HOW := Lib.hid ho
      clear z1 z2 ho hmm hsm
      go_wp2_with fail
      refine HOW.out.mono ?_
      rintro e w5 ⟨rfl, hc5, hb5⟩
      have HC5 := Lib.hid hc5
      clear hc5
      go_wp2
      go_roundw
      case rel => exact ⟨i + 1, by omega, by go_num, HC5.out, HB4.out.trans hb5⟩
      case measure => simp [intOf]; omega
     | true =>
      obtain ⟨z1, z2⟩ := clsZ_small (p := inB true wss) (fold := true) hil HBB.out (by rw [hsm]; rfl)
      obtain ⟨p, rfl⟩ : ∃ p, i = p + 32 := ⟨i - 32, by unfold smallI at hsm; have := of_decide_eq_true hsm; omega⟩
      rw [Nat.add_sub_cancel] at z1
      obtain ⟨v, hv⟩ : ∃ v, (clsN (inB true wss) true (p + 32)).1[p]? = some v := ⟨(clsN (inB true wss) true (p + 32)).1[p]'(by rw [clsN_len]; omega), by simp⟩
      rw [hv, Option.getD_some] at z1
      have hvz : (clsZ (inB true wss) true (p + 32))[p]? = some v := by rw [clsZ_at _ _ (by omega)]; exact hv
      obtain ⟨u, hu⟩ : ∃ u, (clsZ (inB true wss) true (p + 32))[p + 32]? = some u := ⟨(clsZ (inB true wss) true (p + 32))[p + 32]'(by rw [clsZ_len _ _ (by omega)]; omega), by simp⟩
      have hpf : p < 256 := by omega
      have kg : Hid (∀ V, RowKit.Below w4.heap.size w4 V → Calls Tryz.prog 69 #[.int .u8 ((p + 32 : Nat) : Int)] V fun e w' => e = .returned (.int .u8 (p : Int)) ∧ RowKit.Below V.heap.size V w') := fun V hV => by
       have h := great10_any ((p + 32 : Nat) : Int) V (by omega)
       rwa [show ((p + 32 : Nat) : Int) - 32 = (p : Int) by omega] at h
      have ks : Hid (∀ V, RowKit.Below w4.heap.size w4 V → Calls Tryz.prog 68 #[.pointer (some ⟨B, 0, none⟩), .int .u8 ((p + 32 : Nat) : Int), .int .i64 v] V fun e w' => e = .returned (.tuple #[]) ∧ w' = V.setCell ⟨B, p + 32, none⟩ (.int .i64 v)) := fun V hV =>
       set10_any B (p + 32) v _ V hil ((HC4.out.below hV).cell hil hu) ((HC4.out.below hV).frozen _)
      have hcv : Hid (∀ V, RowKit.Below w4.heap.size w4 V → V.cell? ⟨B, p, none⟩ = some (.int .i64 v)) := fun V hV => (HC4.out.below hV).cell hpf hvz
      have HZ1 := Lib.hid z1
      have HZ2 := Lib.hid z2
      have j1 : (0 : Int) ≤ (p : Int) := by omega
      have j2 : (p : Int) < 256 := by omega
      have hlt4 := HC4.out.lt
      clear z1 z2 hv hvz hu hmm hsm
      go_upto_region 11 with fail
      refine wp_region_noPanic ?_
      refine wp_region_held_drew (S := fun V => RowKit.Below B w4 V ∧ V.cell? ⟨B, p, none⟩ = some (.int .i64 v)) (by kernel_rfl) ⟨(bel_drewN w4 1).mono (Nat.le_of_lt hlt4), hcv.out _ (bel_drewN w4 1)⟩ (fun hHeld => ?_)
      change wpAnyH _ _ _ _ _ 13 _ _ _
      iterate 6 (refine tkF 12 (v := ?_) ?_ ?_; rotate_left; (· intro V hV; first | (go_simp; done) | (go_simp; with_reducible rfl)); try simp only [Act.put, pA, pB, pC])
      iterate 3 (refine tkF 13 (v := ?_) ?_ ?_; rotate_left; (· intro V hV; first | (go_simp; done) | (go_simp; with_reducible rfl)); try simp only [Act.put, pA, pB, pC])
      refine rdy 6 (fun K hK => ?_)
      go_simp
      go_at_call 69; refine (kg.out _ (bel_drewN w4 1)).mono ?_; rintro e w5 ⟨rfl, hb5⟩
      have hB5 : RowKit.Below w4.heap.size w4 w5 := (bel_drewN w4 1).trans hb5
      refine hK.out _ _ ⟨hB5.mono (Nat.le_of_lt hlt4), hcv.out _ hB5⟩ (fun hNew => ?_)
      clear hK K hHeld
      have hHeld := hNew
      clear hNew hb5
      try simp only [Act.put, pA, pB, pC]
      refine tkW 10 (v := ?_) ?_ ?_
      rotate_left
      ·
       intro V hV
       first | (go_simp; done) | (go_simp; with_reducible rfl)
      try simp only [Act.put, pA, pB, pC]
      refine tkW 11 (v := ?_) ?_ ?_
      rotate_left
      ·
       intro V hV
       have r0 := hV.2
       first | (go_simp; done) | (go_simp; with_reducible rfl)
      try simp only [Act.put, pA, pB, pC]
      refine rdy 12 (fun K hK => ?_)
      go_simp
      go_at_call 68; refine (ks.out _ hB5).mono ?_; rintro e w6 ⟨rfl, hw6⟩
      have hC6 : CB w6 B (clsZ (inB true wss) true (p + 32 + 1)) ((clsN (inB true wss) true (p + 32 + 1)).2 : Int) := by
       rw [hw6, HZ1.out, HZ2.out]
       exact (HC4.out.below hB5).set hil v
      have hB6 : RowKit.Below B w4 w6 := by rw [hw6]; exact (hB5.mono (Nat.le_of_lt hlt4)).setCell (Nat.le_refl _) _
      have hc6 : w6.cell? ⟨B, p, none⟩ = some (.int .i64 v) := by
       rw [hw6, World.cell?_setCell_other _ _ _ _ (fun e => by injection e with e1 e2; omega)]
       exact hcv.out _ hB5
      refine hK.out _ _ ⟨hB6, hc6⟩ (fun hNew => ?_)
      clear hK K hHeld hNew hw6 hc6
      try simp only [Act.put, pA, pB, pC]
      refine wpAnyH_done (by kernel_rfl) ?_ _
      refine NoPanic.normal ?_
      have HC6 := Lib.hid hC6
      have HB6 := Lib.hid (HB4.out.trans hB6)
      clear hC6 hB6 hB5
      go_wp2
      go_roundw
      case rel => exact ⟨p + 32 + 1, by omega, by go_num, HC6.out, HB6.out⟩
      case measure => simp [intOf]; omega
  ·
   obtain rfl : i = 256 := by omega
   have hd : decide (((256 : Nat) : Int) < 256) = false := by decide
   have hz : clsZ (inB fold wss) fold 256 = clsP fold wss := by
    unfold clsZ clsP
    simp
   rw [hz] at hCi
   have HCi := Lib.hid hCi
   have HBi := Lib.hid hBi
   clear hz hCi hBi
   go_wp2
   go_ret2
   exact ⟨B, rfl, HCi.out, by have := hB.size; omega, hB.trans ((HB3.out.trans (HBi.out.mono (by have := HB3.out.size; have := HWS.out; omega))).mono hB.size)⟩
end Go.Proofs.YtglfdclpjmhoiaaGreat

/- Bytes that are told apart (layer 10): a set's classes, told; walked. Printed by exp.py. -/

namespace Go.Proofs.YtglfdclpjmhoiaaGreat
open Go.RowKit Go.Sort

theorem results_row3 {fn : Func} {p u v : Tmp} {tmps : Array Value} {W : World} {B : Nat} {cs : Array Value} (h : fn.results = #[.cell p 51, .tmp u, .tmp v]) (hp : tmps.getD p undef = .pointer (some ⟨B, 0, none⟩)) (hB : W.heap[B]? = some (.cells cs 51 (0, 0))) (hs : cs.size = 256) :
  (results fn tmps).run Tryz.prog W = .ok (.tuple #[.agg cs, tmps.getD u undef, tmps.getD v undef]) W := by
 have hp' : tmps[p]?.getD undef = .pointer (some ⟨B, 0, none⟩) := by simpa using hp
 simp [results, h, hp', asAddr, run_loadVar_row W B 51 51 cs (0, 0) _ hB Tryz.underlying51 rfl (by rw [hs]; exact info25)]
theorem rowI_size (l : List Int) : ((l.map (Value.int .i64)).toArray).size = l.length := by simp
theorem rowI_one (l : List Int) : ((l.map (Value.int .i64)).toArray).all (·.oneCell') = true := by simp [Value.oneCell']
/-- What Of tells of a set that may be, and of one that may not. -/
abbrev clsV (l : List Int) : Value := .agg (l.map (Value.int .i64)).toArray

theorem wanted_one {c : Bool} {p q : Prop} (hc : c = true) (h : p) : if c = true then p else q := by rw [if_pos hc]; exact h

set_option maxRecDepth 100000 in
set_option maxHeartbeats 8000000 in
theorem of10_yes (fold : Bool) (a : Option Addr) (la ca : Nat) (wss : List (List Int)) (w : World) (hA : Wds w a la wss) (hla : la ≤ 1000000) (hM : ∀ x ∈ wss, x.length ≤ 1000000) (hT : (begL fold wss).length ≤ 1000000) (hr : rightP fold wss = true) :
  Calls Tryz.prog 28 #[.agg (setV fold a la ca)] w fun e w' => e = .returned (.tuple #[clsV (clsP fold wss), .int .i64 (manyP fold wss), .int .i64 0]) ∧ Below w.heap.size w w' := by
 obtain ⟨W, hW⟩ : ∃ W, W = (w.alloc (.cells (setV fold a la ca) 24)).alloc (.cells Tryz.zeroCells51 51) := ⟨_, rfl⟩
 have hB : Below w.heap.size w W := by rw [hW]; exact ((Below.refl _ _).alloc (Nat.le_refl _) _).alloc (by simp) _
 have hO : Bx w.heap.size [.cells (setV fold a la ca) 24, .cells Tryz.zeroCells51 51] W := by rw [hW]; exact ((Bx.nil _ w).snoc _ rfl).snoc _ (by simp)
 have s0 : W.cell? ⟨w.heap.size, 0, none⟩ = some (.bool fold) := hO.cell (i := 0) rfl rfl
 have s1 : W.cell? ⟨w.heap.size, 1, none⟩ = some (.slice a la ca) := hO.cell (i := 0) rfl rfl
 have HC := Lib.hid (count10_yes fold a la ca wss W (hA.below hB) hla hM hT hr)
 have HO := Lib.hid hO
 clear hr hO
 go_enter Tryz.func28, Tryz.ntmps28
 go_upto_region 1 with fail
 rw [← hW]
 clear hW
 go_wp2_with fail
 refine HC.out.mono ?_
 rintro e w1 ⟨B, rfl, hC1, hBw, hb1⟩
 have h1 : w1.heap[w.heap.size + 1]? = some (.cells Tryz.zeroCells51 51 (0, 0)) := (HO.out.below hb1) 1 _ rfl
 rw [zero25] at h1
 have H1 := Lib.hid h1
 have HC1 := Lib.hid hC1
 obtain ⟨L, hL⟩ : ∃ L, clsP fold wss = L := ⟨_, rfl⟩
 obtain ⟨M, hM2⟩ : ∃ M : Int, (manyP fold wss : Int) = M := ⟨_, rfl⟩
 rw [hL, hM2] at HC1
 have HLe := Lib.hid hL
 have HMe := Lib.hid hM2
 have hLl : L.length = 256 := HC1.out.2
 have hi : (Tryz.prog.info? 51).map (·.size) = some ((L.map (Value.int .i64))).length := by rw [List.length_map, hLl]; exact info25
 have HI := Lib.hid hi
 have hOr : Hid (∀ V, CB V B L M → V.rangeAt B 0 (L.map (Value.int .i64)) ∧ V.cell? ⟨B, 256, none⟩ = some (.int .i64 M)) := fun V h => by
  refine ⟨fun j v hv => ?_, h.many⟩
  rw [List.getElem?_map, Option.map_eq_some_iff] at hv
  obtain ⟨x, hx, rfl⟩ := hv
  rw [Nat.zero_add]
  exact h.cell (by have := (List.getElem?_eq_some_iff.1 hx).1; omega) hx
 have hlt0 : w.heap.size + 1 < W.heap.size := (Array.getElem?_eq_some_iff.1 (HO.out 1 _ rfl)).1
 have hBne : B ≠ w.heap.size + 1 := by omega
 have hlt1 : w.heap.size + 1 < w1.heap.size := by have := hb1.size; omega
 clear h1 hC1 hi s0 s1 HC hL hM2
 go_upto_region 4 with fail
 refine wp_region_noPanic ?_
 refine wp_region_held_drew (S := fun V => CB V B L M ∧ RowKit.Below (w.heap.size + 1) w1 V) (by kernel_rfl) ⟨HC1.out.below (bel_drewN w1 1), (bel_drewN w1 1).mono (Nat.le_of_lt hlt1)⟩ (fun hHeld => ?_)
 change wpAnyH _ _ _ _ _ 12 _ _ _
 iterate 4 (refine tkF 11 (v := ?_) ?_ ?_; rotate_left; (· intro V hV; first | (go_simp; done) | (go_simp; with_reducible rfl)); try simp only [Act.put, pA, pB, pC])
 refine' wpAnyH_take (i := 4) (v := _) (by simp only [pD, pE, pF]; rfl) (by kernel_rfl) (by kernel_rfl) (by kernel_rfl) (fun _ _ _ h => h) (yieldsIf_load_mid (by rfl) _ _ rfl B 0 rfl (L.map (Value.int .i64)) _ (fun V hV => (hOr.out V hV.1).1) Tryz.underlying51 rfl HI.out) (by assumption) ?_
 try simp only [Act.put, pA, pB, pC]
 iterate 3 (refine tkF 11 (v := ?_) ?_ ?_; rotate_left; (· intro V hV; first | (go_simp; done) | (go_simp; with_reducible rfl)); try simp only [Act.put, pA, pB, pC])
 refine tkW 8 (v := ?_) ?_ ?_
 rotate_left
 ·
  intro V hV
  have r0 := (hOr.out V hV.1).2
  first | (go_simp; done) | (go_simp; with_reducible rfl)
 try simp only [Act.put, pA, pB, pC]
 refine rdy 9 (fun K hK => ?_)
 have hg1 : w1.drew.heap[w.heap.size + 1]? = some (.cells ((List.replicate 256 (0 : Int)).map (Value.int .i64)).toArray 51 (0, 0)) := H1.out
 have hia : (Tryz.prog.info? 51).map (·.size) = some (((L.map (Value.int .i64))).toArray).size := by rw [List.size_toArray]; exact HI.out
 refine wanted_one (by kernel_rfl) ?_
 refine wp_store_row 51 _ _ rfl (w.heap.size + 1) _ rfl rfl 51 _ hg1 hia (by rw [rowI_size, rowI_size]; rw [hLl]; rfl) (rowI_one L) ?_
 have h2 := setRow_heap w1.drew (w.heap.size + 1) _ ((L.map (Value.int .i64)).toArray) _ _ hg1
 have H2 := Lib.hid h2
 have hS2 : CB (w1.drew.setRow (w.heap.size + 1) ((L.map (Value.int .i64)).toArray)) B L M ∧ RowKit.Below (w.heap.size + 1) w1 (w1.drew.setRow (w.heap.size + 1) ((L.map (Value.int .i64)).toArray)) :=
  ⟨⟨(setRow_other _ _ _ _ hBne).trans (HC1.out.below (bel_drewN w1 1)).1, hLl⟩, below_setRow ((bel_drewN w1 1).mono (Nat.le_of_lt hlt1)) (Nat.le_refl _) _⟩
 clear h2 hg1 hia
 obtain ⟨w2, hw2⟩ : ∃ w2, w2 = w1.drew.setRow (w.heap.size + 1) ((L.map (Value.int .i64)).toArray) := ⟨_, rfl⟩
 rw [← hw2] at H2 hS2 ⊢
 clear hw2
 refine hK.out _ _ hS2 (fun hNew => ?_)
 clear hK K hHeld
 have hHeld := hNew
 clear hNew
 try simp only [Act.put, pA, pB, pC]
 iterate 2 (refine tkF 11 (v := ?_) ?_ ?_; rotate_left; (· intro V hV; first | (go_simp; done) | (go_simp; with_reducible rfl)); try simp only [Act.put, pA, pB, pC])
 refine wpAnyH_done (by kernel_rfl) ?_ _
 refine NoPanic.normal ?_
 go_wp2_with fail
 refine bodyPost_ret (results_row3 rfl rfl H2.out (by rw [rowI_size]; exact hLl)) rfl ?_
 rw [← HLe.out, ← HMe.out]
 exact ⟨rfl, hB.trans ((hb1.mono hB.size).trans (hS2.2.mono (by omega)))⟩
end Go.Proofs.YtglfdclpjmhoiaaGreat

/- Plain laws of layer 7: what is found in a trie. -/

namespace Go.Proofs.YtglfdclpjmhoiaaGreat

/-- The node of a text's bytes. -/
def findP (sp : List (List Int)) (b : List Int) : Int × Bool := if b ∈ sp then ((sp.idxOf b : Int), true) else (0, false)
theorem findP_at {sp : List (List Int)} (hn : sp.Nodup) {i : Nat} {b : List Int} (h : sp[i]? = some b) : findP sp b = ((i : Int), true) := by
 unfold findP
 rw [if_pos (List.mem_of_getElem? h)]
 have := placeS_at hn h
 unfold placeS at this
 rw [if_pos (List.mem_of_getElem? h)] at this
 rw [this]
theorem findP_no {sp : List (List Int)} {b : List Int} (h : b ∉ sp) : findP sp b = (0, false) := by unfold findP; rw [if_neg h]
section
variable {ws : List (List Int)}
theorem trie_up {i : Nat} {x : List Int} (hx : (nodesL ws)[i]? = some x) (h0 : x ≠ []) : ∃ j : Nat, j < i ∧ (trieP ws).up[i]? = some (j : Int) ∧ (nodesL ws)[j]? = some x.dropLast := by
 obtain ⟨j, h1, h2, h3⟩ := up_lt hx h0
 exact ⟨j, h1, by simp [trieP, hx, h3], h2⟩
theorem trie_byt {i : Nat} {x : List Int} (hx : (nodesL ws)[i]? = some x) : (trieP ws).byt[i]? = some (lastB x) := by simp [trieP, hx]
theorem trie_wrd {i : Nat} {x : List Int} (hx : (nodesL ws)[i]? = some x) : (trieP ws).wrd[i]? = some (placeS ws x) := by simp [trieP, hx]
theorem trie_lens : (trieP ws).up.length = (nodesL ws).length ∧ (trieP ws).dep.length = (nodesL ws).length ∧ (trieP ws).wrd.length = (nodesL ws).length ∧ (trieP ws).byt.length = (nodesL ws).length := by simp [trieP]
theorem prefix_node {w x : List Int} (hw : w ∈ ws) (hp : x <+: w) : x ∈ nodesL ws := by
 rw [mem_nodesL, IsBeg.iff]
 by_cases e : x = []
 · exact .inl e
 · exact .inr ⟨e, w, hw, hp⟩
theorem node_prefix (hne : ws ≠ []) {x : List Int} (hx : x ∈ nodesL ws) : ∃ w ∈ ws, x <+: w := by
 rw [mem_nodesL, IsBeg.iff] at hx
 rcases hx with rfl | ⟨_, w, hw, hp⟩
 ·
  obtain ⟨w, hw⟩ := List.exists_mem_of_ne_nil _ hne
  exact ⟨w, hw, List.nil_prefix⟩
 · exact ⟨w, hw, hp⟩
theorem word_find (h : rightP false ws = true) {k : Nat} {x : List Int} (hx : ws[k]? = some x) : ∃ j : Nat, 1 ≤ j ∧ j < (nodesL ws).length ∧ findP (nodesL ws) x = ((j : Int), true) ∧ (trieP ws).wrd[j]? = some (k : Int) := by
 obtain ⟨h1, h2⟩ := right_nodup h
 have h3 := ((right_spec h).2.2.1 x (List.mem_of_getElem? hx)).1
 have hm := prefix_node (List.mem_of_getElem? hx) (List.prefix_refl x)
 obtain ⟨j, hj⟩ := List.getElem?_of_mem hm
 refine ⟨j, ?_, (List.getElem?_eq_some_iff.1 hj).1, findP_at (nodesL_srt ws).nodup hj, by rw [trie_wrd hj, placeS_at h1 hx]⟩
 cases j with
 | zero => rw [nodesL_head] at hj; obtain rfl := Option.some.inj hj; exact absurd rfl h3
 | succ j => omega
end

end Go.Proofs.YtglfdclpjmhoiaaGreat

/- Plain words of layer 8: the longest end of a text that is a node; links, chains, steps. -/

namespace Go.Proofs.YtglfdclpjmhoiaaGreat

/-- The longest end of a text that stands in a list. -/
def lsf (N : List (List Int)) : List Int → List Int
 | [] => []
 | a :: t => if (a :: t) ∈ N then a :: t else lsf N t
theorem lsf_suffix (N : List (List Int)) : ∀ b, lsf N b <:+ b
 | [] => List.suffix_refl _
 | a :: t => by
  unfold lsf
  split
  · exact List.suffix_refl _
  · exact (lsf_suffix N t).trans (List.suffix_cons a t)
theorem lsf_mem {N : List (List Int)} (h0 : [] ∈ N) : ∀ b, lsf N b ∈ N
 | [] => h0
 | a :: t => by
  unfold lsf
  split
  · assumption
  · exact lsf_mem h0 t
theorem lsf_max {N : List (List Int)} {y : List Int} (hy : y ∈ N) : ∀ {b}, y <:+ b → y.length ≤ (lsf N b).length
 | [], h => by rw [List.eq_nil_of_suffix_nil h]; exact Nat.zero_le _
 | a :: t, h => by
  unfold lsf
  split
  · exact h.length_le
  ·
   rename_i hn
   rcases List.suffix_cons_iff.1 h with e | h
   · rw [e] at hy; exact absurd hy hn
   · exact lsf_max hy h
theorem lsf_of_mem {N : List (List Int)} {b : List Int} (h : b ∈ N) : lsf N b = b := by
 cases b with
 | nil => rfl
 | cons a t => unfold lsf; rw [if_pos h]
theorem suffix_eq {x y b : List Int} (hx : x <:+ b) (hy : y <:+ b) (h : x.length = y.length) : x = y := by
 obtain ⟨s, rfl⟩ := hx
 obtain ⟨t, ht⟩ := hy
 exact (List.append_inj_right' ht.symm (by omega))
theorem lsf_unique {N : List (List Int)} {b y : List Int} (hy : y ∈ N) (hs : y <:+ b) (h0 : [] ∈ N) (hm : ∀ z, z <:+ b → z ∈ N → z.length ≤ y.length) : lsf N b = y := by
 have h1 := lsf_max hy hs
 have h2 := hm _ (lsf_suffix N b) (lsf_mem h0 b)
 exact suffix_eq (lsf_suffix N b) hs (by omega)
/-- A list that has with a text all of its beginnings. -/
def Pre (N : List (List Int)) : Prop := [] ∈ N ∧ ∀ x c, x ++ [c] ∈ N → x ∈ N
theorem suffix_snoc {y b : List Int} {c : Int} (h : y <:+ b ++ [c]) : y = [] ∨ ∃ z, y = z ++ [c] ∧ z <:+ b := by
 by_cases e : y = []
 · exact .inl e
 ·
  right
  obtain ⟨s, hs⟩ := h
  have h1 := List.dropLast_concat_getLast e
  rw [← h1, ← List.append_assoc] at hs
  obtain ⟨h2, h3⟩ := List.append_inj' hs rfl
  refine ⟨y.dropLast, ?_, s, h2⟩
  have h4 : y.getLast e = c := by simpa using h3
  rw [← h4, h1]
theorem lsf_step {N : List (List Int)} (hN : Pre N) (s : List Int) (c : Int) : lsf N (s ++ [c]) = lsf N (lsf N s ++ [c]) := by
 refine lsf_unique (lsf_mem hN.1 _) ?_ hN.1 (fun z hz hm => ?_)
 ·
  refine (lsf_suffix N _).trans ?_
  obtain ⟨t, ht⟩ := lsf_suffix N s
  exact ⟨t, by rw [← List.append_assoc, ht]⟩
 ·
  rcases suffix_snoc hz with rfl | ⟨y, rfl, hy⟩
  · exact Nat.zero_le _
  ·
   have hyN := hN.2 _ _ hm
   have hle := lsf_max hyN hy
   refine lsf_max hm ?_
   obtain ⟨t, ht⟩ := List.suffix_of_suffix_length_le hy (lsf_suffix N s) hle
   exact ⟨t, by rw [← List.append_assoc, ht]⟩
/-- A node's link. -/
def linkL (N : List (List Int)) (x : List Int) : List Int := lsf N x.tail
/-- A node's chain. -/
def chainL (N : List (List Int)) : Nat → List Int → List (List Int)
 | 0, x => [x]
 | n + 1, x => if x = [] then [x] else x :: chainL N n (linkL N x)
theorem linkL_len {N : List (List Int)} {x : List Int} (h : x ≠ []) : (linkL N x).length < x.length := by
 have h1 := (lsf_suffix N x.tail).length_le
 have : x.length ≠ 0 := fun e => h (List.eq_nil_of_length_eq_zero e)
 rw [List.length_tail] at h1
 unfold linkL
 omega
theorem chainL_head (N : List (List Int)) (n : Nat) (x : List Int) : ∃ l, chainL N n x = x :: l := by
 cases n with
 | zero => exact ⟨[], rfl⟩
 | succ n =>
  unfold chainL
  split
  · exact ⟨[], rfl⟩
  · exact ⟨_, rfl⟩
theorem lsf_none {N : List (List Int)} {c : Int} (h : [c] ∉ N) : lsf N [c] = [] := by
 unfold lsf
 rw [if_neg h]
 rfl
/-- A step asks the chain: the first of its nodes that has a kid by the byte. -/
theorem step_chain {N : List (List Int)} (hN : Pre N) (c : Int) : ∀ {n : Nat} {x : List Int}, x ∈ N → x.length ≤ n →
  lsf N (x ++ [c]) = match (chainL N n x).find? (fun y => decide (y ++ [c] ∈ N)) with | some y => y ++ [c] | none => []
 | n, x, hx, hn => by
  by_cases hk : x ++ [c] ∈ N
  ·
   rw [lsf_of_mem hk]
   obtain ⟨l, hl⟩ := chainL_head N n x
   rw [hl, List.find?_cons, decide_eq_true hk]
  ·
   cases n with
   | zero =>
    have : x = [] := List.eq_nil_of_length_eq_zero (by omega)
    subst this
    have hk' : [c] ∉ N := hk
    show lsf N [c] = _
    rw [lsf_none hk']
    unfold chainL
    rw [List.find?_cons, decide_eq_false hk]
    rfl
   | succ n =>
    unfold chainL
    by_cases e : x = []
    ·
     subst e
     have hk' : [c] ∉ N := hk
     show lsf N [c] = _
     rw [lsf_none hk', if_pos rfl, List.find?_cons, decide_eq_false hk]
     rfl
    ·
     rw [if_neg e, List.find?_cons, decide_eq_false hk]
     dsimp only
     have ih := step_chain hN c (n := n) (x := linkL N x) (lsf_mem hN.1 _) (by have := linkL_len (N := N) e; omega)
     rw [← ih]
     unfold linkL
     rw [← lsf_step hN]
     cases x with
     | nil => exact absurd rfl e
     | cons a t =>
      have hk' : a :: (t ++ [c]) ∉ N := hk
      show lsf N (a :: (t ++ [c])) = lsf N (t ++ [c])
      conv => lhs; unfold lsf
      rw [if_neg hk']
theorem nodes_pre (ws : List (List Int)) : Pre (nodesL ws) :=
 ⟨(mem_nodesL ws).2 (.inl rfl), fun x c h => by
  have := ((mem_nodesL ws).1 h).up
  rw [List.dropLast_concat] at this
  exact (mem_nodesL ws).2 this⟩
theorem lsf_drop {N : List (List Int)} {M : Nat} (h0 : [] ∈ N) (hM : ∀ y ∈ N, y.length ≤ M) (b : List Int) : lsf N (b.drop (b.length - M)) = lsf N b := by
 symm
 refine lsf_unique (lsf_mem h0 _) ((lsf_suffix N _).trans (List.drop_suffix _ _)) h0 (fun z hz hm => ?_)
 refine lsf_max hm (List.suffix_of_suffix_length_le hz (List.drop_suffix _ _) ?_)
 have h1 := hM z hm
 have h2 := hz.length_le
 rw [List.length_drop]
 omega
theorem lsf_next {N : List (List Int)} {b : List Int} {k : Nat} (hk : k < b.length) (h : b.drop k ∉ N) : lsf N (b.drop k) = lsf N (b.drop (k + 1)) := by
 rw [List.drop_eq_getElem_cons hk] at h ⊢
 conv => lhs; unfold lsf
 rw [if_neg h]
theorem lsf_here {N : List (List Int)} {b : List Int} {k : Nat} (h : b.drop k ∈ N) : lsf N (b.drop k) = b.drop k := lsf_of_mem h
theorem lsf_end (N : List (List Int)) (b : List Int) {k : Nat} (hk : b.length ≤ k) : lsf N (b.drop k) = [] := by
 rw [List.drop_eq_nil_of_le hk]; rfl
/-- A shorter node stands ahead. -/
theorem idx_len {ws : List (List Int)} {i k : Nat} {x y : List Int} (hx : (nodesL ws)[i]? = some x) (hy : (nodesL ws)[k]? = some y) (h : y.length < x.length) : k < i := by
 have h1 := (List.getElem?_eq_some_iff.1 hx)
 have h2 := (List.getElem?_eq_some_iff.1 hy)
 rcases Nat.lt_trichotomy k i with hlt | rfl | hgt
 · exact hlt
 ·
  rw [hx] at hy
  have := Option.some.inj hy
  rw [this] at h
  omega
 ·
  have := List.pairwise_iff_getElem.1 (nodesL_srt ws) i k h1.1 h2.1 hgt
  rw [h1.2, h2.2] at this
  have := ltS_len this
  omega
/-- The number of a node's link. -/
def linkI (ws : List (List Int)) (x : List Int) : Int := placeS (nodesL ws) (linkL (nodesL ws) x)
def linksP (ws : List (List Int)) : List Int := (nodesL ws).map (linkI ws)
theorem linkI_at {ws : List (List Int)} (x : List Int) : ∃ k : Nat, linkI ws x = k ∧ (nodesL ws)[k]? = some (linkL (nodesL ws) x) := by
 have hm := lsf_mem (nodes_pre ws).1 x.tail
 obtain ⟨k, hk⟩ := List.getElem?_of_mem hm
 exact ⟨k, placeS_at (nodesL_srt ws).nodup hk, hk⟩
/-- A link by the link of the node above. -/
theorem link_up {ws : List (List Int)} {x : List Int} {c : Int} (h0 : x ≠ []) : linkL (nodesL ws) (x ++ [c]) = lsf (nodesL ws) (linkL (nodesL ws) x ++ [c]) := by
 unfold linkL
 rw [← lsf_step (nodes_pre ws)]
 cases x with
 | nil => exact absurd rfl h0
 | cons a t => rfl
theorem link_one {ws : List (List Int)} (c : Int) : linkL (nodesL ws) [c] = [] := rfl

end Go.Proofs.YtglfdclpjmhoiaaGreat
