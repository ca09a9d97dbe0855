/- Parts of the proof, one behind the other: U8, U9, V1. No condition but what each theorem states. -/
import Derived.Deep.DrawnRows
import Derived.Deep.RegionHeld3
import Derived.Test.YtmpmjkbjnklgfaaW14

/- The trie of a set's words (layer 7): walked. -/


namespace Go.Proofs.Ytmpmjkbjnklgfaa
open Go.RowKit Go.Sort
set_option linter.unusedVariables false
set_option linter.unusedSimpArgs false

/-- A trie's value: its four slices. -/
structure TV where
  ua : Option Addr
  un : Nat
  uc : Nat
  da : Option Addr
  dn : Nat
  dc : Nat
  xa : Option Addr
  xn : Nat
  xc : Nat
  ba : Option Addr
  bn : Nat
  bc : Nat
abbrev TV.cells (t : TV) : Array Value := #[.slice t.ua t.un t.uc, .slice t.da t.dn t.dc, .slice t.xa t.xn t.xc, .slice t.ba t.bn t.bc]
/-- What a trie's slices read. -/
structure Tri (W : World) (t : TV) (T : TrieT) : Prop where
  up : Sl1 (Value.int .i64) W t.ua t.un T.up
  dep : Sl1 (Value.int .i64) W t.da t.dn T.dep
  wrd : Sl1 (Value.int .i64) W t.xa t.xn T.wrd
  byt : Bys W t.ba t.bn T.byt
  cap : t.un ≤ t.uc ∧ t.dn ≤ t.dc ∧ t.xn ≤ t.xc ∧ t.bn ≤ t.bc
theorem Tri.below {W W' : World} {t : TV} {T : TrieT} (h : Tri W t T) (hb : Below W.heap.size W W') : Tri W' t T := ⟨h.up.below hb, h.dep.below hb, h.wrd.below hb, h.byt.below hb, h.cap⟩

theorem lastI_toI (s : Byt) : lastI s = lastB (toI s) := by
  unfold lastI lastB toI
  rw [List.getLast?_map]
theorem toI_dropLast (s : Byt) : toI s.dropLast = (toI s).dropLast := by simp [toI, List.map_dropLast]
theorem toI_nil {s : Byt} : toI s = [] ↔ s = [] := by simp [toI]
theorem toI_bd (s : Byt) : ∀ x ∈ toI s, 0 ≤ x ∧ x ≤ 255 := fun x hx => by
  unfold toI at hx
  obtain ⟨b, _, rfl⟩ := List.mem_map.1 hx
  have := b.toNat_lt
  omega
/-- The words' numbers, as a map has them. -/
def WMap (wss : List (List Int)) (k : Nat) (f : Byt → Option Int) : Prop := ∀ s : Byt, f s = if toI s ∈ wss.take k then some (placeS wss (toI s)) else none
theorem WMap.start (wss : List (List Int)) : WMap wss 0 (fun _ => none) := fun s => by simp
theorem WMap.step {wss : List (List Int)} {k : Nat} {f : Byt → Option Int} {x : List Int} (h : WMap wss k f) (hn : wss.Nodup) (hx : wss[k]? = some x) (hb : ∀ c ∈ x, 0 ≤ c ∧ c ≤ 255) : WMap wss (k + 1) (fun s => if s = ofI x then some (k : Int) else f s) := fun s => by
  rw [take_step hx]
  show (if s = ofI x then some (k : Int) else f s) = _
  by_cases e : s = ofI x
  · rw [if_pos e]
    have e2 : toI s = x := by rw [e, toI_ofI hb]
    rw [e2, if_pos (by simp), placeS_at hn hx]
  · rw [if_neg e, h s]
    have e2 : toI s ≠ x := fun e2 => e (by rw [← e2, ofI_toI])
    by_cases h1 : toI s ∈ wss.take k
    · rw [if_pos h1, if_pos (by simp [h1])]
    · rw [if_neg h1, if_neg (by simp [h1, e2])]
theorem WMap.get {wss : List (List Int)} {f : Byt → Option Int} (h : WMap wss wss.length f) (s : Byt) : (f s).getD (-1) = placeS wss (toI s) := by
  rw [h s, List.take_length]
  by_cases e : toI s ∈ wss
  · rw [if_pos e]; rfl
  · rw [if_neg e, placeS_no e]; rfl

theorem MK.putW {base mb nb wb n1 n2 m : Nat} {fN fW f' : Byt → Option Int} {U D X B : List Int} {u d x b : Value} {W V : World} (h : MK base mb nb wb n1 n2 fN fW U D X B u d x b W) (hm : MS V wb m f') (hg : W.grownBy V (some wb)) : MK base mb nb wb n1 m fN f' U D X B u d x b V := by
  have hmb := (Array.getElem?_eq_some_iff.1 h.box).1
  refine ⟨(hg.block mb hmb (fun e => by injection e with e; exact h.lt.2.2.2.2.1 e)).trans h.box, h.up.kept hg (row_ne h.up h.lt.2.2.1), h.dep.kept hg (row_ne h.dep h.lt.2.2.1), h.wrd.kept hg (row_ne h.wrd h.lt.2.2.1), h.byt.kept hg (row_ne h.byt h.lt.2.2.1), h.s1, h.s2, h.s3, h.s4, h.s5, h.s6, h.nod.kept hg (fun e => by injection e with e; exact h.lt.2.2.2.2.2 e.symm), hm, h.lt, Nat.le_trans h.sz hg.size⟩
theorem mk_nostr {nb wb : Nat} (i : Nat) (s : Byt) (h : (mkCells (.slice none 0 0) (.slice none 0 0) (.slice none 0 0) (.slice none 0 0) nb wb)[i]? = some (strV s)) : False := by
  rcases i with _ | _ | _ | _ | _ | _ | i <;> simp at h
theorem own_sl {α : Type} {enc : α → Value} {w : World} {base n c : Nat} {e : TypeId} {a : Option Addr} {xs : List α} (h : w.ownsRow base e 1 (.slice a n c) n (xs.map enc)) : Sl1 enc w a n xs := by
  obtain ⟨a', c', e, _, h1⟩ := own_sl1 h
  injection e with e1 e2 e3
  subst e1
  exact h1
theorem trieP_bd {wss : List (List Int)} (h : ∀ x ∈ wss, ∀ c ∈ x, 0 ≤ c ∧ c ≤ 255) : ∀ c ∈ (trieP wss).byt, 0 ≤ c ∧ c ≤ 255 := fun c hc => by
  simp only [trieP, List.mem_map] at hc
  obtain ⟨x, hx, rfl⟩ := hc
  unfold lastB
  cases e : x.getLast? with
  | none => simp
  | some y =>
    have hy := List.mem_of_getLast? e
    rcases (mem_nodesL wss).1 hx with h1 | ⟨w, hw, k, _, _, h2⟩
    · rw [h1] at hy; cases hy
    · rw [h2] at hy
      exact h w hw y (List.mem_of_mem_take hy)
theorem sep_nil (v : Value) : sep (.slice none 0 0) v := fun k h _ => by cases h
theorem results_trie {fn : Func} {p u : Tmp} {tmps : Array Value} {W : World} {B : Nat} {x y z v : Value} (h : fn.results = #[.cell p 62, .tmp u]) (hp : tmps.getD p undef = .pointer (some ⟨B, 0, none⟩)) (hB : W.heap[B]? = some (.cells #[x, y, z, v] 62 (0, 0))) :
    (results fn tmps).run Try.prog W = .ok (.tuple #[.agg #[x, y, z, v], tmps.getD u undef]) W := by
  have hl : (loadVar 62 ⟨B, 0, none⟩).run Try.prog W = .ok (.agg #[x, y, z, v]) W := run_loadVar_row W B 62 62 #[x, y, z, v] (0, 0) _ hB Try.underlying62 rfl (by kernel_rfl)
  rw [results_cell_tmp h, hp]
  simp [asAddr, hl, Result.andThen]
abbrev nil4 : Array Value := #[.slice none 0 0, .slice none 0 0, .slice none 0 0, .slice none 0 0]

set_option maxHeartbeats 1000000 in
theorem make7_no (fold : Bool) (a : Option Addr) (la ca : Nat) (wss : List (List Int)) (w : World) (hA : Wds w a la wss) (hla : la ≤ 1000000) (hM : ∀ x ∈ wss, x.length ≤ 1000000) (hT : (begL fold wss).length ≤ 1000000) (hr : rightP fold wss = false) :
    Calls Try.prog 45 #[.agg (setV fold a la ca)] w fun e w' => e = .returned (.tuple #[.agg #[.slice none 0 0, .slice none 0 0, .slice none 0 0, .slice none 0 0], .int .i64 2]) ∧ Below w.heap.size w w' := by
  have HR := Lib.hid hr
  clear hr
  have hB2 : Below w.heap.size w ((w.alloc (.cells (setV fold a la ca) 39)).alloc (.cells (nil4) 62)) := ((Below.refl _ _).alloc (Nat.le_refl _) _).alloc (by simp) _
  have n1 := alloc_at (w := w.alloc (.cells (setV fold a la ca) 39)) (n := w.heap.size + 1) (by simp) (.cells (nil4) 62)
  have HC := Lib.hid (pright_any fold a la ca wss _ (hA.below hB2) hla hM hT)
  go_enter Try.func45, Try.ntmps45
  go_wp2_with fail
  refine HC.out.mono ?_
  rintro e w1 ⟨rfl, hb⟩
  rw [HR.out]
  have hB1 : Below w.heap.size w w1 := hB2.trans (hb.mono (by simp; omega))
  have m1 : w1.heap[w.heap.size + 1]? = some (.cells nil4 62 (0, 0)) := (hb.block _ (by simp)).trans n1
  have hsz : w.heap.size + 1 < w1.heap.size := (Array.getElem?_eq_some_iff.1 m1).1
  clear hb n1
  have q0 : w1.cell? ⟨w.heap.size + 1, 0, none⟩ = some (.slice none 0 0) := by simp [World.cell?, m1]
  have q1 : w1.cell? ⟨w.heap.size + 1, 1, none⟩ = some (.slice none 0 0) := by simp [World.cell?, m1]
  have q2 : w1.cell? ⟨w.heap.size + 1, 2, none⟩ = some (.slice none 0 0) := by simp [World.cell?, m1]
  have q3 : w1.cell? ⟨w.heap.size + 1, 3, none⟩ = some (.slice none 0 0) := by simp [World.cell?, m1]
  have f0 : ∀ i, w1.frozen? ⟨w.heap.size + 1, i, none⟩ = false := fun i => by simp [World.frozen?, m1]
  go_wp2
  have hz2 := set_at (i := 3) (set_at (i := 2) (set_at (i := 1) (set_at (i := 0) m1 (.slice none 0 0)) (.slice none 0 0)) (.slice none 0 0)) (.slice none 0 0)
  refine bodyPost_ret (results_trie rfl rfl (by simpa using hz2)) rfl ?_
  exact ⟨rfl, (((hB1.setCell (by show w.heap.size ≤ w.heap.size + 1; omega) _).setCell (by show w.heap.size ≤ w.heap.size + 1; omega) _).setCell (by show w.heap.size ≤ w.heap.size + 1; omega) _).setCell (by show w.heap.size ≤ w.heap.size + 1; omega) _⟩

theorem byteSum_len (wss : List (List Int)) : (byteSum (wss.map ofI) : Int) = bsum wss := by
  unfold byteSum bsum
  induction wss with
  | nil => rfl
  | cons x l ih => simp only [List.map_cons, List.sum_cons] at ih ⊢; rw [Int.natCast_add, ih]; simp [ofI]

set_option maxRecDepth 100000 in
set_option maxHeartbeats 8000000 in
theorem make7_yes (fold : Bool) (a : Option Addr) (la ca : Nat) (wss : List (List Int)) (w : World) (hA : Wds w a la wss) (hla : la ≤ 1000000) (hM : ∀ x ∈ wss, x.length ≤ 1000000) (hT : (begL fold wss).length ≤ 1000000) (hr : rightP fold wss = true) :
    Calls Try.prog 45 #[.agg (setV fold a la ca)] w fun e w' => ∃ t : TV, e = .returned (.tuple #[.agg t.cells, .int .i64 0]) ∧ Tri w' t (trieP wss) ∧ Below w.heap.size w w' := by
  have HR := Lib.hid hr
  have HL := Lib.hid hA.len
  obtain ⟨r1, r2, r3, r4, r5, r6⟩ := right_spec hr
  have hnd := (right_nodup hr).1
  obtain ⟨nn1, nn2⟩ := right_nodes (right_false hr)
  have hbs : byteSum (wss.map ofI) ≤ 1000000 := by have := byteSum_len wss; omega
  have HND := Lib.hid hnd
  have HBY := Lib.hid hA.bytes
  have hmm := @run_makeMap Try.prog
  have HR3 := Lib.hid r3
  clear hr r2 r3 r4 r5 r6 hnd
  have hB2 : Below w.heap.size w ((w.alloc (.cells (setV fold a la ca) 39)).alloc (.cells (nil4) 62)) := ((Below.refl _ _).alloc (Nat.le_refl _) _).alloc (by simp) _
  have n1 := alloc_at (w := w.alloc (.cells (setV fold a la ca) 39)) (n := w.heap.size + 1) (by simp) (.cells (nil4) 62)
  have n0 : ((w.alloc (.cells (setV fold a la ca) 39)).alloc (.cells (nil4) 62)).heap[w.heap.size]? = some (.cells (setV fold a la ca) 39 (0, 0)) := (Below.heap_alloc _ _ _ (by simp)).trans (World.alloc_heap_new _ _)
  have HC := Lib.hid (pright_any fold a la ca wss _ (hA.below hB2) hla hM hT)
  go_enter Try.func45, Try.ntmps45
  go_wp2_with fail
  refine HC.out.mono ?_
  rintro e w1 ⟨rfl, hb⟩
  rw [HR.out]
  have hB1 : Below w.heap.size w w1 := hB2.trans (hb.mono (by simp; omega))
  have m0 : w1.heap[w.heap.size]? = some (.cells (setV fold a la ca) 39 (0, 0)) := (hb.block _ (by simp; omega)).trans n0
  have m1 : w1.heap[w.heap.size + 1]? = some (.cells nil4 62 (0, 0)) := (hb.block _ (by simp)).trans n1
  have hsz : w.heap.size + 1 < w1.heap.size := (Array.getElem?_eq_some_iff.1 m1).1
  clear hb n1 n0 hB2
  go_upto_region 4 with fail
  obtain ⟨W4, hW4⟩ : ∃ W4, W4 = ((w1.alloc (Obj.map #[] 0)).alloc (Obj.map #[] 0)).alloc (.cells (mkCells (.slice none 0 0) (.slice none 0 0) (.slice none 0 0) (.slice none 0 0) w1.heap.size (w1.heap.size + 1)) 108) := ⟨_, rfl⟩
  have hw4 : Below w1.heap.size w1 W4 := by rw [hW4]; exact (((Below.refl _ _).alloc (Nat.le_refl _) _).alloc (by simp) _).alloc (by simp; omega) _
  have hM4 : MK (w1.heap.size + 1 + 1 + 1) (w1.heap.size + 1 + 1) w1.heap.size (w1.heap.size + 1) 0 0 (fun _ => none) (fun _ => none) [] [] [] [] (.slice none 0 0) (.slice none 0 0) (.slice none 0 0) (.slice none 0 0) W4 := by
    rw [hW4]
    have hm2 := World.ownsMap_made (H := Unit) (w1.alloc (Obj.map #[] 0)) Try.prog 9 (plainElem Try.prog 3)
    rw [World.size_alloc] at hm2
    exact ⟨alloc_at (by simp) _, World.ownsRow_nil _ _ _ _, World.ownsRow_nil _ _ _ _, World.ownsRow_nil _ _ _ _, World.ownsRow_nil _ _ _ _, sep_nil _, sep_nil _, sep_nil _, sep_nil _, sep_nil _, sep_nil _,
      ((MS.start _ (World.ownsMap_made w1 Try.prog 9 (plainElem Try.prog 3))).alloc _).alloc _, (MS.start _ hm2).alloc _, ⟨by omega, by omega, by omega, by omega, by omega, by omega⟩, by simp⟩
  have hB4 : Below w.heap.size w W4 := hB1.trans (hw4.mono hB1.size)
  have k0 : W4.heap[w.heap.size]? = _ := (hw4.block _ (by omega)).trans m0
  have k1 : W4.heap[w.heap.size + 1]? = _ := (hw4.block _ hsz).trans m1
  rw [← hW4]
  clear hW4 hw4 hB1 m0 m1
  obtain ⟨P, hP⟩ : ∃ P, w1.heap.size = P := ⟨_, rfl⟩
  rw [hP] at hM4 hsz ⊢
  clear hP
  have s1 : W4.cell? ⟨w.heap.size, 1, none⟩ = some (.slice a la ca) := by simp [World.cell?, k0]
  go_wp2
  clear s1
  go_loopw [5, 6, 19] (fun _ _ s19 wr => ∃ (k : Nat) (fW : Byt → Option Int), k ≤ la ∧ s19 = .int .i64 k ∧ Hid (WMap wss k fW) ∧ MK (P + 1 + 1 + 1) (P + 1 + 1) P (P + 1) 0 k (fun _ => none) fW [] [] [] [] (.slice none 0 0) (.slice none 0 0) (.slice none 0 0) (.slice none 0 0) wr ∧ Below w.heap.size w wr ∧ wr.heap[w.heap.size]? = some (.cells (setV fold a la ca) 39 (0, 0)) ∧ wr.heap[w.heap.size + 1]? = some (.cells nil4 62 (0, 0))) (fun _ _ i _ => la - (intOf i).toNat)
  case atStart => exact ⟨0, _, Nat.zero_le _, rfl, WMap.start wss, hM4, hB4, k0, k1⟩
  case round =>
    clear hM4 hB4 k0 k1
    obtain ⟨k, fW, hk, rfl, HW, hM4, hB4, k0, k1⟩ := hrel
    by_cases hlt : k < la
    · obtain ⟨bb, off, ax, lx, cx, x, hbb, hbl, hcell, hx, hX, hlc⟩ := (hA.below hB4).at_ hlt
      have hxl : lx ≤ 1000000 := by have := mem_bd hM hx; rw [hX.len] at this; exact this
      have cv := conv_bys hX cx
      rw [strOf_eq] at cv
      have hol : (ofI x).length ≤ maxLen := by have := hX.len; simp [ofI]; unfold maxLen; omega
      have HW2 := Lib.hid (HW.out.step HND.out hx (HBY.out x (List.mem_of_getElem? hx)))
      obtain ⟨s, hs⟩ : ∃ s, ofI x = s := ⟨_, rfl⟩
      rw [hs] at cv hol HW2
      subst hbb
      have hmb : P + 1 + 1 < wr.heap.size := (Array.getElem?_eq_some_iff.1 hM4.box).1
      have c5 := hM4.cells.1.2.2.2.2.2
      have hms := hM4.wds
      have hdk : decide ((k : Int) < la) = true := by simp; omega
      clear hx hs hX
      go_wp2_with (at_mapUpdate; refine wpList_ms_put rfl _ _ _ rfl rfl hms (by unfold maxLen; omega) s k (wf_i (by omega)) rfl rfl hol ?_; intro w5 hms5 hg5)
      have hM5 := hM4.putW hms5 hg5
      have hB5 : Below w.heap.size w w5 := hB4.grown hg5 hB4.size (fun k e => by cases e; omega)
      have j0 : w5.heap[w.heap.size]? = _ := (hg5.block _ (by omega) (by intro e; injection e with e; omega)).trans k0
      have j1 : w5.heap[w.heap.size + 1]? = _ := (hg5.block _ (by omega) (by intro e; injection e with e; omega)).trans k1
      go_roundw
      case rel => exact ⟨k + 1, _, by omega, by go_num, HW2, hM5, hB5, j0, j1⟩
      case measure => simp [intOf]; omega
    · obtain rfl : k = la := by omega
      have hdk : decide ((k : Int) < k) = false := by simp
      have HWL : Hid (WMap wss wss.length fW) := by rw [Hid, HL.out]; exact HW.out
      have s1 : wr.cell? ⟨w.heap.size, 1, none⟩ = some (.slice a k ca) := by simp [World.cell?, k0]
      go_wp2_with fail
      refine (begs_any a k ca wss wr (hA.below hB4) hla hM hbs).mono ?_
      rintro e w5 ⟨al, nl, cl, l, rfl, hnl, hl, hsl, hb⟩
      have hB5 : Below w.heap.size w w5 := hB4.trans (hb.mono hB4.size)
      have hmb : P + 1 + 1 < wr.heap.size := (Array.getElem?_eq_some_iff.1 hM4.box).1
      have hM5 := hM4.below hb
      have hsz5 : wr.heap.size ≤ w5.heap.size := hb.size
      have j1 : w5.heap[w.heap.size + 1]? = _ := (hb.block _ (by omega)).trans k1
      have hnn : nl = (nodesL wss).length := by rw [hnl, ← hl]; simp
      have hM6 : MK w5.heap.size (P + 1 + 1) P (P + 1) 0 k (fun _ => none) fW ((trieP wss).up.take 0) ((trieP wss).dep.take 0) ((trieP wss).wrd.take 0) ((trieP wss).byt.take 0) (.slice none 0 0) (.slice none 0 0) (.slice none 0 0) (.slice none 0 0) w5 :=
        ⟨hM5.box, World.ownsRow_nil _ _ _ _, World.ownsRow_nil _ _ _ _, World.ownsRow_nil _ _ _ _, World.ownsRow_nil _ _ _ _, sep_nil _, sep_nil _, sep_nil _, sep_nil _, sep_nil _, sep_nil _, hM5.nod, hM5.wds, ⟨by omega, by omega, by omega, by omega, by omega, by omega⟩, Nat.le_refl _⟩
      have HLL := Lib.hid hl
      have HNN := Lib.hid hnn
      have HNL := Lib.hid hnl
      have hn400 : nl ≤ 400 := by omega
      obtain ⟨BS, hBS⟩ : ∃ BS, w5.heap.size = BS := ⟨_, rfl⟩
      have HX0 : Hid (∀ q, q < BS → q ≠ P + 1 + 1 → q ≠ P → w5.heap[q]? = w5.heap[q]?) := fun _ _ _ _ => rfl
      rw [hBS] at hM6 hsz5
      obtain ⟨_, hsl0⟩ := hsl
      obtain ⟨g, off, hal, hgl, hcl⟩ := hsl0.resolve_left (by omega)
      obtain ⟨x0, hx0⟩ : ∃ x0, l[0]? = some x0 := ⟨l[0]'(by omega), by simp⟩
      have hg1 : g ≠ P + 1 + 1 := fun e => by
        have h1 := hcl 0 x0 hx0
        rw [e] at h1
        have h2 := hM6.box
        simp only [World.cell?, h2] at h1
        exact mk_nostr _ _ h1
      have hg2 : g ≠ P := fun e => by
        have h1 := hcl 0 x0 hx0
        rw [e] at h1
        obtain ⟨D, ⟨es, clock, h2, _⟩, _⟩ := hM6.nod
        simp [World.cell?, h2] at h1
      have HCL := Lib.hid hcl
      rw [hBS] at hgl
      subst hal
      clear hM4 hM5 hB4 k0 k1 hb s1 hl hnl hnn hBS HX0 hsl0 hcl hx0
      go_wp2
      go_loopw [8, 34] (fun _ s34 wr => ∃ (i : Nat) (fN : Byt → Option Int) (u d x b : Value), i ≤ nl ∧ s34 = .int .i64 i ∧ Hid (∀ j y, j < i → l[j]? = some y → fN y = some (j : Int)) ∧ MK BS (P + 1 + 1) P (P + 1) i k fN fW ((trieP wss).up.take i) ((trieP wss).dep.take i) ((trieP wss).wrd.take i) ((trieP wss).byt.take i) u d x b wr ∧ Leaves (P + 1 + 1) P BS w5 wr) (fun _ s _ => nl - (intOf s).toNat)
      case atStart => exact ⟨0, _, _, _, _, _, Nat.zero_le _, rfl, (fun j y h => by omega), hM6, Leaves.refl _ _ _ _⟩
      case round =>
        clear hM6
        obtain ⟨i, fN, u, d, x, b, hi, rfl, HF, hM7, hLv⟩ := hrel
        by_cases hil : i < nl
        · obtain ⟨s, hs⟩ : ∃ s, l[i]? = some s := ⟨l[i]'(by have := HNL.out; omega), by simp⟩
          have hN : (nodesL wss)[i]? = some (toI s) := by rw [← HLL.out, List.getElem?_map, hs]; rfl
          have cs : wr.cell? ⟨g, off + i, none⟩ = some (strV s) := (World.cell?_of_block (hLv.block g hgl hg1 hg2)).trans (HCL.out i s hs)
          have hsl32 : s.length ≤ 32 := by
            have h1 := (mem_nodesL wss).1 (List.mem_of_getElem? hN)
            have h2 := toI_length s
            rcases h1 with h1 | ⟨z, hz, q, _, h3, h4⟩
            · rw [h1] at h2; simp at h2; omega
            · have h5 := (HR3.out z hz).2
              rw [h4, List.length_take] at h2
              omega
          obtain ⟨uI, huI⟩ : ∃ uI, placeS (nodesL wss) (toI s).dropLast = uI := ⟨_, rfl⟩
          have hu0 : s = [] → uI = 0 := fun e => by
            rw [← huI, e]
            exact placeS_at (nodesL_srt wss).nodup (nodesL_head wss)
          have hu1 : s ≠ [] → fN s.dropLast = some uI := fun e => by
            obtain ⟨j, hj, hjx, hpl⟩ := up_lt hN (fun e2 => e (toI_nil.1 e2))
            rw [← huI, hpl]
            have h1 : (l.map toI)[j]? = some (toI s).dropLast := by rw [HLL.out]; exact hjx
            rw [List.getElem?_map] at h1
            obtain ⟨y, hy, h2⟩ := Option.map_eq_some_iff.1 h1
            rw [← toI_dropLast] at h2
            rw [← toI_inj h2]
            exact HF.out j y hj hy
          have eU : Hid ((trieP wss).up.take (i + 1) = (trieP wss).up.take i ++ [uI]) := take_step (by simp [trieP, hN, huI])
          have eD : Hid ((trieP wss).dep.take (i + 1) = (trieP wss).dep.take i ++ [(s.length : Int)]) := take_step (by simp [trieP, hN, toI_length])
          have eX : Hid ((trieP wss).wrd.take (i + 1) = (trieP wss).wrd.take i ++ [(fW s).getD (-1)]) := take_step (by rw [HWL.out.get]; simp [trieP, hN])
          have eB : Hid ((trieP wss).byt.take (i + 1) = (trieP wss).byt.take i ++ [lastI s]) := take_step (by rw [lastI_toI]; simp [trieP, hN])
          have hilen : i < (nodesL wss).length := by have := HNN.out; omega
          have lU : ((trieP wss).up.take i).length = i := by rw [List.length_take]; simp [trieP]; omega
          have lD : ((trieP wss).dep.take i).length = i := by rw [List.length_take]; simp [trieP]; omega
          have lX : ((trieP wss).wrd.take i).length = i := by rw [List.length_take]; simp [trieP]; omega
          have lB : ((trieP wss).byt.take i).length = i := by rw [List.length_take]; simp [trieP]; omega
          have HF2 : Hid (∀ j y, j < i + 1 → l[j]? = some y → (if y = s then some (((trieP wss).up.take i).length : Int) else fN y) = some (j : Int)) := fun j y hj hy => by
            by_cases e : j = i
            · subst e
              rw [hs] at hy
              rw [if_pos (Option.some.inj hy).symm, lU]
            · have hne : y ≠ s := fun e2 => by
                subst e2
                have h1 : (nodesL wss)[j]? = some (toI y) := by rw [← HLL.out, List.getElem?_map, hy]; rfl
                exact e (nodup_at (nodesL_srt wss).nodup h1 hN)
              rw [if_neg hne]
              exact HF.out j y (by omega) hy
          have HADD := Lib.hid (add_any BS (P + 1 + 1) P (P + 1) i k fN fW _ _ _ _ u d x b s uI wr hM7 (by omega) (by omega) (by omega) (by omega) (by omega) (by omega) hu0 hu1)
          have hdi : decide ((i : Int) < nl) = true := by simp; omega
          clear hM7 hu0 hu1 hN hs huI lU lD lX lB HF
          go_wp2_with fail
          refine HADD.out.mono ?_
          rintro e w6 ⟨rfl, u', d', x', b', hM8, hLv8⟩
          have hM9 : Hid (MK BS (P + 1 + 1) P (P + 1) (i + 1) k (fun q => if q = s then some (((trieP wss).up.take i).length : Int) else fN q) fW ((trieP wss).up.take (i + 1)) ((trieP wss).dep.take (i + 1)) ((trieP wss).wrd.take (i + 1)) ((trieP wss).byt.take (i + 1)) u' d' x' b' w6) := by
            rw [Hid, eU.out, eD.out, eX.out, eB.out]; exact hM8
          have HLV := Lib.hid (hLv.trans hLv8)
          clear hM8 hLv8 hLv HADD cs eU eD eX eB
          go_wp2
          go_roundw
          case rel => exact ⟨i + 1, _, u', d', x', b', by omega, by go_num, HF2, hM9.out, HLV.out⟩
          case measure => simp [intOf]; omega
        · obtain rfl : i = nl := by omega
          have hdi : decide ((i : Int) < i) = false := by simp
          have tU : (trieP wss).up.take i = (trieP wss).up := List.take_of_length_le (by have := HNN.out; simp [trieP]; omega)
          have tD : (trieP wss).dep.take i = (trieP wss).dep := List.take_of_length_le (by have := HNN.out; simp [trieP]; omega)
          have tX : (trieP wss).wrd.take i = (trieP wss).wrd := List.take_of_length_le (by have := HNN.out; simp [trieP]; omega)
          have tB : (trieP wss).byt.take i = (trieP wss).byt := List.take_of_length_le (by have := HNN.out; simp [trieP]; omega)
          rw [tU, tD, tX, tB] at hM7
          clear tU tD tX tB
          have hB7 : Below w.heap.size w wr := hLv.below hB5 (by omega) (by omega) (by omega)
          have j7 : wr.heap[w.heap.size + 1]? = some (.cells nil4 62 (0, 0)) := (hLv.block _ (by omega) (by omega) (by omega)).trans j1
          obtain ⟨au, cu, rfl, hcu, _⟩ := own_sl1 hM7.up
          obtain ⟨ad, cd, rfl, hcd, _⟩ := own_sl1 hM7.dep
          obtain ⟨ax, cx, rfl, hcx, _⟩ := own_sl1 hM7.wrd
          obtain ⟨ab, cb, rfl, hcb, _⟩ := own_sl1 hM7.byt
          obtain ⟨⟨c0, c1, c2, c3, _, _⟩, _⟩ := hM7.cells
          have q0 : wr.cell? ⟨w.heap.size + 1, 0, none⟩ = some (.slice none 0 0) := by simp [World.cell?, j7]
          have q1 : wr.cell? ⟨w.heap.size + 1, 1, none⟩ = some (.slice none 0 0) := by simp [World.cell?, j7]
          have q2 : wr.cell? ⟨w.heap.size + 1, 2, none⟩ = some (.slice none 0 0) := by simp [World.cell?, j7]
          have q3 : wr.cell? ⟨w.heap.size + 1, 3, none⟩ = some (.slice none 0 0) := by simp [World.cell?, j7]
          have f0 : ∀ i, wr.frozen? ⟨w.heap.size + 1, i, none⟩ = false := fun i => by simp [World.frozen?, j7]
          have hlb : w.heap.size + 1 < BS := by omega
          obtain ⟨vU, hvU⟩ : ∃ v, v = Value.slice au (trieP wss).up.length cu := ⟨_, rfl⟩
          have rU := fun v0 v1 v2 v3 => row_set (i := 3) (row_set (i := 2) (row_set (i := 1) (row_set (i := 0) hM7.up hlb v0) hlb v1) hlb v2) hlb v3
          have rD := fun v0 v1 v2 v3 => row_set (i := 3) (row_set (i := 2) (row_set (i := 1) (row_set (i := 0) hM7.dep hlb v0) hlb v1) hlb v2) hlb v3
          have rX := fun v0 v1 v2 v3 => row_set (i := 3) (row_set (i := 2) (row_set (i := 1) (row_set (i := 0) hM7.wrd hlb v0) hlb v1) hlb v2) hlb v3
          have rB := fun v0 v1 v2 v3 => row_set (i := 3) (row_set (i := 2) (row_set (i := 1) (row_set (i := 0) hM7.byt hlb v0) hlb v1) hlb v2) hlb v3
          have HU := Lib.hid rU
          have HD := Lib.hid rD
          have HX := Lib.hid rX
          have HB := Lib.hid rB
          have hz2 := set_at (i := 3) (set_at (i := 2) (set_at (i := 1) (set_at (i := 0) j7 (.slice au (trieP wss).up.length cu)) (.slice ad (trieP wss).dep.length cd)) (.slice ax (trieP wss).wrd.length cx)) (.slice ab (trieP wss).byt.length cb)
          have HZ := Lib.hid hz2
          have HB7 := Lib.hid ((((hB7.setCell (p := ⟨w.heap.size + 1, 0, none⟩) (by show w.heap.size ≤ w.heap.size + 1; omega) (.slice au (trieP wss).up.length cu)).setCell (p := ⟨w.heap.size + 1, 1, none⟩) (by show w.heap.size ≤ w.heap.size + 1; omega) (.slice ad (trieP wss).dep.length cd)).setCell (p := ⟨w.heap.size + 1, 2, none⟩) (by show w.heap.size ≤ w.heap.size + 1; omega) (.slice ax (trieP wss).wrd.length cx)).setCell (p := ⟨w.heap.size + 1, 3, none⟩) (by show w.heap.size ≤ w.heap.size + 1; omega) (.slice ab (trieP wss).byt.length cb))
          clear hM7 rU rD rX rB hz2 hB7 hvU vU j7 hLv
          go_wp2
          refine bodyPost_ret (results_trie rfl rfl (by simpa using HZ.out)) rfl ?_
          refine ⟨⟨au, (trieP wss).up.length, cu, ad, (trieP wss).dep.length, cd, ax, (trieP wss).wrd.length, cx, ab, (trieP wss).byt.length, cb⟩, rfl, ⟨own_sl (HU.out _ _ _ _), own_sl (HD.out _ _ _ _), own_sl (HX.out _ _ _ _), ⟨own_sl (HB.out _ _ _ _), trieP_bd HBY.out⟩, ⟨hcu, hcd, hcx, hcb⟩⟩, HB7.out⟩

end Go.Proofs.Ytmpmjkbjnklgfaa

/- Lists of numbers that are the same, tries that are (layer 7): walked. -/

namespace Go.Proofs.Ytmpmjkbjnklgfaa
open Go.RowKit Go.Sort
set_option linter.unusedVariables false
set_option linter.unusedSimpArgs false

theorem sl1_at {α : Type} {enc : α → Value} {w : World} {a : Option Addr} {n : Nat} {xs : List α} (h : Sl1 enc w a n xs) {k : Nat} (hk : k < n) : ∃ b off x, a = some ⟨b, off, none⟩ ∧ b < w.heap.size ∧ w.cell? ⟨b, off + k, none⟩ = some (enc x) ∧ xs[k]? = some x := by
  obtain ⟨h1, h2⟩ := h
  obtain ⟨b, off, e, hlt, hc⟩ := h2.resolve_left (by omega)
  obtain ⟨x, hx⟩ : ∃ x, xs[k]? = some x := ⟨xs[k]'(by omega), by simp⟩
  exact ⟨b, off, x, e, hlt, hc k x hx, hx⟩

set_option maxHeartbeats 2000000 in
theorem eqI_any (a b : Option Addr) (la ca lb cb : Nat) (l m : List Int) (w : World) (hA : Sl1 (Value.int .i64) w a la l) (hB : Sl1 (Value.int .i64) w b lb m) (hla : la ≤ 4611686018427387904) :
    Calls Try.prog 117 #[.slice a la ca, .slice b lb cb] w fun e w' => e = .returned (.bool (decide (l = m))) ∧ Below w.heap.size w w' := by
  have HA := Lib.hid hA.1
  have HB := Lib.hid hB.1
  by_cases hl : la = lb
  · subst hl
    go_enter Try.func117, Try.ntmps117
    go_wp2
    go_loopw [13] (fun i wr => ∃ k : Nat, k ≤ la ∧ i = .int .i64 k ∧ Hid (l.take k = m.take k) ∧ Below w.heap.size w wr) (fun i _ => la - (intOf i).toNat)
    case atStart => exact ⟨0, Nat.zero_le _, rfl, by simp [Hid], Below.refl _ _⟩
    case round =>
      obtain ⟨k, hk, rfl, HK, hBe⟩ := hrel
      by_cases hlt : k < la
      · obtain ⟨b1, o1, x, rfl, hb1, x0, hx⟩ := sl1_at (hA.below hBe) hlt
        obtain ⟨b2, o2, y, rfl, hb2, y0, hy⟩ := sl1_at (hB.below hBe) hlt
        have HX := Lib.hid hx
        have HY := Lib.hid hy
        clear hx hy
        have hd : decide ((k : Int) < la) = true := by simp; omega
        by_cases h : x = y
        · have HS : Hid (l.take (k + 1) = m.take (k + 1)) := by rw [take_step HX.out, take_step HY.out, HK.out, h]; rfl
          have hdd : ((x : Int) != y) = false := by simp [h]
          clear h
          go_wp2
          go_quiet (fail)
          go_wp2
          go_roundw
          case rel => exact ⟨k + 1, by omega, by go_num, HS, hBe.trans ⟨rfl, rfl, rfl, Nat.le_refl _, fun _ _ => rfl⟩⟩
          case measure => simp [intOf]; omega
        · have HS : Hid (decide (l = m) = false) := by
            have : l ≠ m := fun e => by
              have h1 := HX.out
              rw [e, HY.out] at h1
              exact h (Option.some.inj h1).symm
            simp [Hid, this]
          have hdd : ((x : Int) != y) = true := by simp [h]
          clear h
          go_wp2
          go_quiet (fail)
          go_wp2
          go_ret
          exact ⟨by rw [HS.out]; rfl, hBe.trans ⟨rfl, rfl, rfl, Nat.le_refl _, fun _ _ => rfl⟩⟩
      · obtain rfl : k = la := by omega
        have HS : Hid (decide (l = m) = true) := by
          have h := HK.out
          rw [List.take_of_length_le (by rw [HA.out]; exact Nat.le_refl _), List.take_of_length_le (by rw [HB.out]; exact Nat.le_refl _)] at h
          simp [Hid, h]
        go_wp2
        go_ret
        exact ⟨by rw [HS.out]; rfl, hBe⟩
  · have HS : Hid (decide (l = m) = false) := by
      have : l ≠ m := fun e => hl (by rw [← HA.out, ← HB.out, e])
      simp [Hid, this]
    have hne : ((la : Int) != (lb : Int)) = true := by simp; omega
    go_enter Try.func117, Try.ntmps117
    go_wp2
    go_ret
    exact ⟨by rw [HS.out]; rfl, Below.refl _ _⟩

set_option maxHeartbeats 2000000 in
theorem eqU_any (a b : Option Addr) (la ca lb cb : Nat) (l m : List Int) (w : World) (hA : Sl1 (Value.int .u8) w a la l) (hB : Sl1 (Value.int .u8) w b lb m) (hla : la ≤ 4611686018427387904) :
    Calls Try.prog 118 #[.slice a la ca, .slice b lb cb] w fun e w' => e = .returned (.bool (decide (l = m))) ∧ Below w.heap.size w w' := by
  have HA := Lib.hid hA.1
  have HB := Lib.hid hB.1
  by_cases hl : la = lb
  · subst hl
    go_enter Try.func118, Try.ntmps118
    go_wp2
    go_loopw [13] (fun i wr => ∃ k : Nat, k ≤ la ∧ i = .int .i64 k ∧ Hid (l.take k = m.take k) ∧ Below w.heap.size w wr) (fun i _ => la - (intOf i).toNat)
    case atStart => exact ⟨0, Nat.zero_le _, rfl, by simp [Hid], Below.refl _ _⟩
    case round =>
      obtain ⟨k, hk, rfl, HK, hBe⟩ := hrel
      by_cases hlt : k < la
      · obtain ⟨b1, o1, x, rfl, hb1, x0, hx⟩ := sl1_at (hA.below hBe) hlt
        obtain ⟨b2, o2, y, rfl, hb2, y0, hy⟩ := sl1_at (hB.below hBe) hlt
        have HX := Lib.hid hx
        have HY := Lib.hid hy
        clear hx hy
        have hd : decide ((k : Int) < la) = true := by simp; omega
        by_cases h : x = y
        · have HS : Hid (l.take (k + 1) = m.take (k + 1)) := by rw [take_step HX.out, take_step HY.out, HK.out, h]; rfl
          have hdd : ((x : Int) != y) = false := by simp [h]
          clear h
          go_wp2
          go_quiet (fail)
          go_wp2
          go_roundw
          case rel => exact ⟨k + 1, by omega, by go_num, HS, hBe.trans ⟨rfl, rfl, rfl, Nat.le_refl _, fun _ _ => rfl⟩⟩
          case measure => simp [intOf]; omega
        · have HS : Hid (decide (l = m) = false) := by
            have : l ≠ m := fun e => by
              have h1 := HX.out
              rw [e, HY.out] at h1
              exact h (Option.some.inj h1).symm
            simp [Hid, this]
          have hdd : ((x : Int) != y) = true := by simp [h]
          clear h
          go_wp2
          go_quiet (fail)
          go_wp2
          go_ret
          exact ⟨by rw [HS.out]; rfl, hBe.trans ⟨rfl, rfl, rfl, Nat.le_refl _, fun _ _ => rfl⟩⟩
      · obtain rfl : k = la := by omega
        have HS : Hid (decide (l = m) = true) := by
          have h := HK.out
          rw [List.take_of_length_le (by rw [HA.out]; exact Nat.le_refl _), List.take_of_length_le (by rw [HB.out]; exact Nat.le_refl _)] at h
          simp [Hid, h]
        go_wp2
        go_ret
        exact ⟨by rw [HS.out]; rfl, hBe⟩
  · have HS : Hid (decide (l = m) = false) := by
      have : l ≠ m := fun e => hl (by rw [← HA.out, ← HB.out, e])
      simp [Hid, this]
    have hne : ((la : Int) != (lb : Int)) = true := by simp; omega
    go_enter Try.func118, Try.ntmps118
    go_wp2
    go_ret
    exact ⟨by rw [HS.out]; rfl, Below.refl _ _⟩


theorem decide_and4 {T U : TrieT} : (decide (T.up = U.up) && decide (T.dep = U.dep) && decide (T.wrd = U.wrd) && decide (T.byt = U.byt)) = eqT T U := rfl

set_option maxHeartbeats 4000000 in
theorem tsame_any (t v : TV) (T U : TrieT) (w : World) (hT : Tri w t T) (hU : Tri w v U) (hb : t.un ≤ 4611686018427387904 ∧ t.dn ≤ 4611686018427387904 ∧ t.xn ≤ 4611686018427387904 ∧ t.bn ≤ 4611686018427387904) :
    Calls Try.prog 82 #[.agg t.cells, .agg v.cells] w fun e w' => e = .returned (.bool (eqT T U)) ∧ Below w.heap.size w w' := by
  obtain ⟨ua, un, uc, da, dn, dc, xa, xn, xc, ba, bn, bc⟩ := t
  obtain ⟨va, vn, vc, ea, en, ec, ya, yn, yc, ca, cn, cc⟩ := v
  dsimp only at hb
  obtain ⟨h1, h2, h3, h4⟩ := hb
  have hB2 : Below w.heap.size w ((w.alloc (.cells #[.slice ua un uc, .slice da dn dc, .slice xa xn xc, .slice ba bn bc] 62)).alloc (.cells #[.slice va vn vc, .slice ea en ec, .slice ya yn yc, .slice ca cn cc] 62)) := ((Below.refl _ _).alloc (Nat.le_refl _) _).alloc (by simp) _
  have hO : Bx w.heap.size [.cells #[.slice ua un uc, .slice da dn dc, .slice xa xn xc, .slice ba bn bc] 62, .cells #[.slice va vn vc, .slice ea en ec, .slice ya yn yc, .slice ca cn cc] 62] ((w.alloc (.cells #[.slice ua un uc, .slice da dn dc, .slice xa xn xc, .slice ba bn bc] 62)).alloc (.cells #[.slice va vn vc, .slice ea en ec, .slice ya yn yc, .slice ca cn cc] 62)) :=
    ((Bx.nil _ w).snoc _ rfl).snoc _ (by simp)
  have hT2 := hT.below hB2
  have hU2 := hU.below hB2
  obtain ⟨TU, TD, TX, TB⟩ := T
  obtain ⟨UU, UD, UX, UB⟩ := U
  have HE : Hid (eqT ⟨TU, TD, TX, TB⟩ ⟨UU, UD, UX, UB⟩ = (decide (TU = UU) && decide (TD = UD) && decide (TX = UX) && decide (TB = UB))) := rfl
  have k1 := fun (V : World) (hV : Below ((w.alloc (.cells #[.slice ua un uc, .slice da dn dc, .slice xa xn xc, .slice ba bn bc] 62)).alloc (.cells #[.slice va vn vc, .slice ea en ec, .slice ya yn yc, .slice ca cn cc] 62)).heap.size _ V) => eqI_any ua va un uc vn vc TU UU V (hT2.up.below hV) (hU2.up.below hV) h1
  have k2 := fun (V : World) (hV : Below ((w.alloc (.cells #[.slice ua un uc, .slice da dn dc, .slice xa xn xc, .slice ba bn bc] 62)).alloc (.cells #[.slice va vn vc, .slice ea en ec, .slice ya yn yc, .slice ca cn cc] 62)).heap.size _ V) => eqI_any da ea dn dc en ec TD UD V (hT2.dep.below hV) (hU2.dep.below hV) h2
  have k3 := fun (V : World) (hV : Below ((w.alloc (.cells #[.slice ua un uc, .slice da dn dc, .slice xa xn xc, .slice ba bn bc] 62)).alloc (.cells #[.slice va vn vc, .slice ea en ec, .slice ya yn yc, .slice ca cn cc] 62)).heap.size _ V) => eqI_any xa ya xn xc yn yc TX UX V (hT2.wrd.below hV) (hU2.wrd.below hV) h3
  have k4 := fun (V : World) (hV : Below ((w.alloc (.cells #[.slice ua un uc, .slice da dn dc, .slice xa xn xc, .slice ba bn bc] 62)).alloc (.cells #[.slice va vn vc, .slice ea en ec, .slice ya yn yc, .slice ca cn cc] 62)).heap.size _ V) => eqU_any ba ca bn bc cn cc TB UB V (hT2.byt.below hV).1 (hU2.byt.below hV).1 h4
  generalize decide (TU = UU) = b1 at k1 HE
  generalize decide (TD = UD) = b2 at k2 HE
  generalize decide (TX = UX) = b3 at k3 HE
  generalize decide (TB = UB) = b4 at k4 HE
  have K1 := Lib.hid k1
  have K2 := Lib.hid k2
  have K3 := Lib.hid k3
  have K4 := Lib.hid k4
  clear k1 k2 k3 k4 hT hU hT2 hU2
  obtain ⟨W, hW⟩ : ∃ W, W = ((w.alloc (.cells #[.slice ua un uc, .slice da dn dc, .slice xa xn xc, .slice ba bn bc] 62)).alloc (.cells #[.slice va vn vc, .slice ea en ec, .slice ya yn yc, .slice ca cn cc] 62)) := ⟨_, rfl⟩
  rw [← hW] at hB2 hO K1 K2 K3 K4
  have cells : ∀ V, Below W.heap.size W V → (V.cell? ⟨w.heap.size, 0, none⟩ = some (.slice ua un uc) ∧ V.cell? ⟨w.heap.size, 1, none⟩ = some (.slice da dn dc) ∧ V.cell? ⟨w.heap.size, 2, none⟩ = some (.slice xa xn xc) ∧ V.cell? ⟨w.heap.size, 3, none⟩ = some (.slice ba bn bc)) ∧
      (V.cell? ⟨w.heap.size + 1, 0, none⟩ = some (.slice va vn vc) ∧ V.cell? ⟨w.heap.size + 1, 1, none⟩ = some (.slice ea en ec) ∧ V.cell? ⟨w.heap.size + 1, 2, none⟩ = some (.slice ya yn yc) ∧ V.cell? ⟨w.heap.size + 1, 3, none⟩ = some (.slice ca cn cc)) := fun V hV => by
    have h := hO.below hV
    exact ⟨⟨h.cell (i := 0) rfl rfl, h.cell (i := 0) rfl rfl, h.cell (i := 0) rfl rfl, h.cell (i := 0) rfl rfl⟩, ⟨h.cell (i := 1) rfl rfl, h.cell (i := 1) rfl rfl, h.cell (i := 1) rfl rfl, h.cell (i := 1) rfl rfl⟩⟩
  have HC := Lib.hid cells
  clear cells hO
  have fin : ∀ (V : World) (b : Bool), Below W.heap.size W V → b = eqT ⟨TU, TD, TX, TB⟩ ⟨UU, UD, UX, UB⟩ → Ending.returned (.bool b) = .returned (.bool (eqT ⟨TU, TD, TX, TB⟩ ⟨UU, UD, UX, UB⟩)) ∧ Below w.heap.size w V := fun V b hV hb => ⟨by rw [hb], hB2.trans (hV.mono hB2.size)⟩
  have HFIN := Lib.hid fin
  clear fin hB2
  go_enter Try.func82, Try.ntmps82
  go_upto_region 1 with fail
  rw [← hW]
  clear hW
  obtain ⟨⟨c0, c1, c2, c3⟩, d0, d1, d2, d3⟩ := HC.out W (Below.refl _ _)
  go_wp2_with fail
  refine (K1.out W (Below.refl _ _)).mono ?_
  rintro e w1 ⟨rfl, hb1⟩
  clear c0 c1 c2 c3 d0 d1 d2 d3
  obtain ⟨⟨c0, c1, c2, c3⟩, d0, d1, d2, d3⟩ := HC.out w1 hb1
  cases b1 with
  | false =>
    go_wp2
    go_ret
    exact HFIN.out w1 false hb1 (by rw [HE.out]; rfl)
  | true =>
    go_wp2_with fail
    refine (K2.out w1 hb1).mono ?_
    rintro e w2 ⟨rfl, hb⟩
    have hb2 := hb1.trans (hb.mono hb1.size)
    clear c0 c1 c2 c3 d0 d1 d2 d3 hb
    obtain ⟨⟨c0, c1, c2, c3⟩, d0, d1, d2, d3⟩ := HC.out w2 hb2
    cases b2 with
    | false =>
      go_wp2
      go_ret
      exact HFIN.out w2 false hb2 (by rw [HE.out]; rfl)
    | true =>
      go_wp2_with fail
      refine (K3.out w2 hb2).mono ?_
      rintro e w3 ⟨rfl, hb⟩
      have hb3 := hb2.trans (hb.mono hb2.size)
      clear c0 c1 c2 c3 d0 d1 d2 d3 hb
      obtain ⟨⟨c0, c1, c2, c3⟩, d0, d1, d2, d3⟩ := HC.out w3 hb3
      cases b3 with
      | false =>
        go_wp2
        go_ret
        exact HFIN.out w3 false hb3 (by rw [HE.out]; rfl)
      | true =>
        go_wp2_with fail
        refine (K4.out w3 hb3).mono ?_
        rintro e w4 ⟨rfl, hb⟩
        have hb4 := hb3.trans (hb.mono hb3.size)
        clear c0 c1 c2 c3 d0 d1 d2 d3 hb
        go_wp2
        go_ret
        exact HFIN.out w4 b4 hb4 (by rw [HE.out]; cases b4 <;> rfl)

end Go.Proofs.Ytmpmjkbjnklgfaa

/- The bytes of a trie's nodes (layer 7): walked. -/



namespace Go.Proofs.Ytmpmjkbjnklgfaa
open Go.RowKit Go.Sort
set_option linter.unusedVariables false
set_option linter.unusedSimpArgs false

abbrev Sv := Option Addr × Nat × Nat
abbrev svV (v : Sv) : Value := .slice v.1 v.2.1 v.2.2
/-- Rows that a call lays one by one into a block of its own: the first ones are laid, the others are nil. -/
structure RowsAt (g n : Nat) (l : List (List Int)) (W : World) : Prop where
  ex : ∃ vs : List Sv, W.heap[g]? = some (.cells (vs.map svV).toArray 40 (0, 0)) ∧ vs.length = n ∧ l.length ≤ n ∧ ∀ (i : Nat) (v : Sv) (x : List Int), vs[i]? = some v → l[i]? = some x → Bys W v.1 v.2.1 x ∧ v.2.1 ≤ v.2.2

theorem sl_info : (Try.prog.info? 40).map (fun i => (i.zero, i.size, i.bytes)) = some (some (.slice none 0 0), 1, 24) := by kernel_rfl
def rowsNil (n : Nat) : Array Value := Array.replicate n (.slice none 0 0)
theorem made_nil (n : Nat) : madeCells (Value.slice none 0 0).cells n = rowsNil n := by
  apply Array.ext
  · simp [madeCells, rowsNil]
  · intro i h1 h2
    simp [madeCells, rowsNil, Value.cells, Nat.mod_one]
theorem spTo_none {T : TrieT} {i : Nat} (hi : 1 ≤ i) (h : spTo T i = none) : ∀ k, i ≤ k → spTo T k = none := by
  intro k hk
  obtain ⟨d, rfl⟩ : ∃ d, k = i + d := ⟨k - i, by omega⟩
  clear hk
  induction d with
  | zero => exact h
  | succ d ih =>
    obtain ⟨j, hj⟩ : ∃ j, i + d = j + 1 := ⟨i + d - 1, by omega⟩
    rw [show i + (d + 1) = j + 2 by omega]
    unfold spTo
    rw [← hj, ih]
    rfl

theorem Bys.setSl {w : World} {a : Option Addr} {n : Nat} {x : List Int} (h : Bys w a n x) {g i : Nat} {vs : List Sv} {t : TypeId} (hg : w.heap[g]? = some (.cells (vs.map svV).toArray t (0, 0))) (u : Value) : Bys (w.setCell ⟨g, i, none⟩ u) a n x := by
  refine ⟨⟨h.1.1, ?_⟩, h.2⟩
  rcases h.1.2 with h0 | ⟨b, off, e, hlt, hc⟩
  · exact .inl h0
  · by_cases hn : x = []
    · left; have := h.1.1; rw [hn] at this; simpa using this.symm
    · refine .inr ⟨b, off, e, by simpa [World.setCell] using hlt, fun j y hy => ?_⟩
      have hbg : g ≠ b := by
        rintro rfl
        have hj := hc j y hy
        rw [cell_of_row w g (off + j) _ _ _ hg] at hj
        simp only [List.getElem?_toArray, List.getElem?_map, Option.map_eq_some_iff] at hj
        obtain ⟨v, _, hv⟩ := hj
        cases hv
      rw [World.cell?_setCell_far _ _ _ _ hbg]
      exact hc j y hy

theorem RowsAt.step {g n i : Nat} {l : List (List Int)} {W W2 : World} (hR : RowsAt g n l W) (hl : l.length = i) (hi : i < n) (hB : Below W.heap.size W W2) {a : Option Addr} {m c : Nat} {x : List Int} (hx : Bys W2 a m x) (hm : m ≤ c) :
    RowsAt g n (l ++ [x]) (W2.setCell ⟨g, i, none⟩ (.slice a m c)) := by
  obtain ⟨vs, hvs, hvl, hll, hrow⟩ := hR.ex
  have h2 : W2.heap[g]? = _ := (hB.block g (Array.getElem?_eq_some_iff.1 hvs).1).trans hvs
  refine ⟨vs.set i (a, m, c), ?_, by simp [hvl], by simp; omega, fun j v y hv hy => ?_⟩
  · have := set_at (i := i) h2 (.slice a m c)
    simpa [List.map_set, svV] using this
  · by_cases hj : j = i
    · subst hj
      rw [List.getElem?_set_self (by omega)] at hv
      obtain rfl := Option.some.inj hv
      rw [← hl, List.getElem?_concat_length] at hy
      obtain rfl := Option.some.inj hy
      exact ⟨hx.setSl h2 _, hm⟩
    · rw [List.getElem?_set_ne (Ne.symm hj)] at hv
      have hjl := (List.getElem?_eq_some_iff.1 hy).1
      rw [List.getElem?_append_left (by simp at hjl; omega)] at hy
      obtain ⟨h3, h4⟩ := hrow j v y hv hy
      exact ⟨(h3.below hB).setSl h2 _, h4⟩

theorem spTo_lt {T : TrieT} : ∀ {i : Nat} {l : List (List Int)}, spTo T i = some l → ∀ x ∈ l, x.length < i
  | 0, l, h => by simp [spTo] at h
  | 1, l, h => by simp [spTo] at h; subst h; simp
  | i + 2, l, h => by
    unfold spTo at h
    obtain ⟨l0, h0, h1⟩ := Option.bind_eq_some_iff.1 h
    have ih := spTo_lt h0
    split at h1
    · split at h1
      · obtain ⟨p, hp, rfl⟩ := Option.map_eq_some_iff.1 h1
        intro x hx
        rcases List.mem_append.1 hx with hx | hx
        · have := ih x hx; omega
        · rw [List.mem_singleton] at hx
          subst hx
          have := ih p (List.mem_of_getElem? hp)
          simp
          omega
      · cases h1
    · cases h1
/-- append of a slice that came in, nil or not, at a step of a region that draws its order. -/
theorem step_append_sl1 {P : Program} {w : World} {ops : Array Oper} {o : Oper} {a : Act} {K : Act → World → Prop} {Q : Exit → Act → World → Prop} {E : Prop} (hgd : o.guard = none) (s x : Operand) (t : TypeId)
    (ho : o.op = .call { callee := .builtin .append, args := #[s, x], argTypes := #[t, t] }) {α : Type} {enc : α → Value} (hone : ∀ x, (enc x).oneCell' = true)
    (base : Nat) (e : TypeId) (i : TypeInfo) (z : Value) (bytes : Nat) (ht : P.underlying t = some (.slice e)) (hi : P.info? e = some i) (hz : i.zero = some z) (hsize : i.size = 1) (hby : i.bytes = bytes) (hzs : z.cells.size = 1)
    (v : Value) (n : Nat) (xs : List Value) (hs : a.eval s = v) (hown : w.ownsRow base e 1 v n xs) (A : Option Addr) (m c : Nat) (ys : List α) (hx : a.eval x = .slice A m c) (hsl : Sl1 enc w A m ys)
    (h63 : n + m ≤ maxLen) (hbytes : (n + m) * bytes ≤ 140737488355328) (hbase : base ≤ w.heap.size)
    (h : ∀ v' w', w'.ownsRow base e 1 v' (n + m) (xs ++ ys.map enc) → w.grownBy w' v.ownBlock → (v'.ownBlock = v.ownBlock ∨ v'.ownBlock = some w.heap.size) → K (a.put o.dst v') w') :
    if Region.wanted o (yielded ops a.tmps) = true then Oper.wp P o a w K Q else E := by
  have hw : Region.wanted o (yielded ops a.tmps) = true := by simp [Region.wanted, hgd]
  rw [if_pos hw]
  obtain ⟨v', w', hr, h2, h3, h4⟩ := run_append_sl1 (P := P) hone w base t o.type e i z bytes ht hi hz hsize hby hzs v n xs hown A m c ys hsl h63 hbytes hbase
  unfold Oper.wp execOp
  simp only [ho, resolve, invoke, builtin, Sem.run_bind, Sem.run_pure, Result.andThen_ok, List.map_toArray, List.map_cons, List.map_nil, hs, hx, hr]
  exact h v' w' h2 h3 h4

attribute [local go_sem ↓] Go.wp_at_zero Go.wp_at_succ
set_option maxRecDepth 100000 in
set_option maxHeartbeats 4000000 in
theorem spell_any (t : TV) (T : TrieT) (w : World) (hT : Tri w t T) (hb : t.un ≤ 140737488351232) :
    Calls Try.prog 124 #[.agg t.cells] w fun e w' => (∀ sp, spO T = some sp → ∃ g, e = .returned (.tuple #[.slice (some ⟨g, 0, none⟩) sp.length sp.length, .bool true]) ∧ w.heap.size ≤ g ∧ RowsAt g sp.length sp w') ∧ (spO T = none → e = .returned (.tuple #[.slice none 0 0, .bool false])) ∧ Below w.heap.size w w' := by
  obtain ⟨ua, un, uc, da, dn, dc, xa, xn, xc, ba, bn, bc⟩ := t
  dsimp only at hb
  obtain ⟨W, hW⟩ : ∃ W, W = w.alloc (.cells #[.slice ua un uc, .slice da dn dc, .slice xa xn xc, .slice ba bn bc] 62) := ⟨_, rfl⟩
  have hB : Below w.heap.size w W := by rw [hW]; exact below_alloc _ _
  have hO : Bx w.heap.size [.cells #[.slice ua un uc, .slice da dn dc, .slice xa xn xc, .slice ba bn bc] 62] W := by rw [hW]; exact (Bx.nil _ w).snoc _ rfl
  have hT2 := hT.below hB
  by_cases hok : 1 ≤ un ∧ un ≤ 400 ∧ bn = un ∧ dn = un ∧ xn = un
  · obtain ⟨h1, h2, e1, e2, e3⟩ := hok
    subst e1 e2 e3
    have HO : Hid (spO T = spTo T xn) := by
      unfold Hid spO
      rw [hT.up.1, hT.byt.1.1, hT.dep.1, hT.wrd.1, if_pos ⟨h1, h2, rfl, rfl, rfl⟩]
    have c0 : W.cell? ⟨w.heap.size, 0, none⟩ = some (.slice ua _ uc) := hO.cell (i := 0) rfl rfl
    have c1 : W.cell? ⟨w.heap.size, 1, none⟩ = some (.slice da _ dc) := hO.cell (i := 0) rfl rfl
    have c2 : W.cell? ⟨w.heap.size, 2, none⟩ = some (.slice xa _ xc) := hO.cell (i := 0) rfl rfl
    have c3 : W.cell? ⟨w.heap.size, 3, none⟩ = some (.slice ba _ bc) := hO.cell (i := 0) rfl rfl
    have hmk : ∀ V : World, (Instr.makeSlice 37 (.int .i64 xn) (.int .i64 xn)).run Try.prog V = .ok (.slice (some ⟨V.heap.size, 0, none⟩) xn xn) (V.alloc (.cells (rowsNil xn) 40)) := fun V => by
      obtain ⟨i0, hi, hz0, hz1, hz2⟩ := info_parts sl_info
      have h := run_makeSlice (P := Try.prog) (w := V) 37 40 i0 (.slice none 0 0) Try.underlying37 hi hz0 .i64 .i64 (xn : Int) (xn : Int) (by omega) (by omega) (by rw [hz1]; omega) (by rw [hz2]; omega) (by omega)
      rw [hz1] at h
      have e1 : (xn : Int).toNat * 1 = xn := by omega
      rw [e1, made_nil, Int.toNat_natCast] at h
      exact h
    go_enter Try.func124, Try.ntmps124
    go_upto_region 1 with fail
    rw [← hW]
    clear hW
    go_upto_region 5 with fail
    clear hmk c0 c1 c2 c3
    obtain ⟨V, hV⟩ : ∃ V, V = W.alloc (.cells (rowsNil xn) 40) := ⟨_, rfl⟩
    obtain ⟨g, hg⟩ : ∃ g, g = W.heap.size := ⟨_, rfl⟩
    have hR : RowsAt g xn [[]] V := by
      rw [hV, hg]
      refine ⟨List.replicate xn (none, 0, 0), ?_, by simp, by simpa using h1, fun i v x hv hx => ?_⟩
      · rw [World.alloc_heap_new]; simp [rowsNil, svV]
      · rw [List.getElem?_replicate] at hv
        split at hv
        · obtain rfl := Option.some.inj hv
          cases i with
          | zero => simp at hx; subst hx; exact ⟨Bys.nil _ _, Nat.le_refl _⟩
          | succ i => simp at hx
        · cases hv
    have hBV : Below W.heap.size W V := by rw [hV]; exact below_alloc _ _
    have hOV := hO.below hBV
    rw [← hV, ← hg]
    clear hV
    have HG := Lib.hid hg
    clear hg
    go_wp2
    go_loopw [6, 7] (fun s6 _ wr => ∃ (i : Nat) (l : List (List Int)), 1 ≤ i ∧ i ≤ xn ∧ s6 = .int .i64 i ∧ Hid (spTo T i = some l) ∧ RowsAt g xn l wr ∧ Below W.heap.size W wr ∧ Bx w.heap.size [.cells #[.slice ua xn uc, .slice da xn dc, .slice xa xn xc, .slice ba xn bc] 62] wr) (fun s6 _ _ => xn - (intOf s6).toNat)
    case atStart => exact ⟨1, [[]], Nat.le_refl _, h1, rfl, rfl, hR, hBV, hOV⟩
    case round =>
      clear hR hBV hOV
      obtain ⟨i, l, hi1, hi2, rfl, HS, hR, hBV, hOV⟩ := hrel
      have c0 : wr.cell? ⟨w.heap.size, 0, none⟩ = some (.slice ua xn uc) := hOV.cell (i := 0) rfl rfl
      by_cases hil : i < xn
      · have hdi : decide ((i : Int) < xn) = true := by simp; omega
        obtain ⟨b0, o0, u, hb0, hl0, cu, hu⟩ := sl1_at (hT2.up.below hBV) hil
        subst hb0
        have HU := Lib.hid hu
        clear hu
        by_cases hur : 0 ≤ u ∧ u < i
        · have hd1 : decide (u < 0) = false := by simp; omega
          have hd2 : decide ((i : Int) ≤ u) = false := by simp; omega
          obtain ⟨k, rfl⟩ : ∃ k : Nat, u = k := ⟨u.toNat, by omega⟩
          have hki : k < i := by omega
          clear hur
          obtain ⟨vs, hvs, hvl, hll, hrow⟩ := hR.ex
          have hlen : l.length = i := spTo_length HS.out
          obtain ⟨⟨va, vn, vc⟩, hv⟩ : ∃ v, vs[k]? = some v := ⟨vs[k]'(by omega), by simp⟩
          obtain ⟨p, hp⟩ : ∃ p, l[k]? = some p := ⟨l[k]'(by omega), by simp⟩
          obtain ⟨hpb, hvc⟩ := hrow k _ _ hv hp
          dsimp only at hpb hvc
          obtain ⟨b3, o3, c, rfl, hb3, cb, hc⟩ := sl1_at (hT2.byt.1.below hBV) hil
          have hcr := hT2.byt.2 c (List.mem_of_getElem? hc)
          have HSS : Hid (spTo T (i + 1) = some (l ++ [p ++ [c]])) := by
            obtain ⟨j, rfl⟩ : ∃ j, i = j + 1 := ⟨i - 1, by omega⟩
            show spTo T (j + 1 + 1) = _
            unfold spTo
            rw [HS.out, Option.bind_some, HU.out, hc]
            dsimp only
            rw [if_pos (show 0 ≤ (k : Int) ∧ (k : Int) < (j : Int) + 1 by omega), Int.toNat_natCast, hp]
            rfl
          have HPL : Hid (p.length < i) := spTo_lt HS.out p (List.mem_of_getElem? hp)
          have hgl : g < wr.heap.size := (Array.getElem?_eq_some_iff.1 hvs).1
          have HK : Hid (∀ w', Below wr.heap.size wr w' → w'.cell? ⟨g, k, none⟩ = some (.slice va vn vc) ∧ w'.cell? ⟨w.heap.size, 3, none⟩ = some (.slice (some ⟨b3, o3, none⟩) xn bc) ∧ w'.cell? ⟨b3, o3 + i, none⟩ = some (.int .u8 c)) := by
            intro w' hb'
            have hO' := hOV.below hb'
            refine ⟨?_, hO'.cell (i := 0) rfl rfl, (hb'.cell (p := ⟨b3, o3 + i, none⟩) hb3).trans cb⟩
            rw [cell_of_row w' g k _ _ _ ((hb'.block g hgl).trans hvs)]
            simp [hv, svV]
          have hwg : w.heap.size < g := by
            have h := HG.out
            have := hO 0 _ rfl
            have := (Array.getElem?_eq_some_iff.1 this).1
            omega
          have h3g : g ≠ b3 := by
            rintro rfl
            rw [cell_of_row wr g _ _ _ _ hvs] at cb
            simp only [List.getElem?_toArray, List.getElem?_map, Option.map_eq_some_iff] at cb
            obtain ⟨v, _, hv⟩ := cb
            cases hv
          have HKS : Hid (∀ w', Below wr.heap.size wr w' → ∀ u, (w'.setCell ⟨g, i, none⟩ u).cell? ⟨g, k, none⟩ = some (.slice va vn vc) ∧ (w'.setCell ⟨g, i, none⟩ u).cell? ⟨w.heap.size, 3, none⟩ = some (.slice (some ⟨b3, o3, none⟩) xn bc) ∧ (w'.setCell ⟨g, i, none⟩ u).cell? ⟨b3, o3 + i, none⟩ = some (.int .u8 c)) := by
            intro w' hb' u
            obtain ⟨_, h2, h3⟩ := HK.out w' hb'
            refine ⟨?_, ?_, ?_⟩
            · rw [cell_of_row _ g k _ _ _ (set_at (i := i) ((hb'.block g hgl).trans hvs) u), Array.getElem?_setIfInBounds_ne (by omega)]
              simp [hv, svV]
            · rw [World.cell?_setCell_far _ _ _ _ (by show g ≠ w.heap.size; omega)]; exact h2
            · rw [World.cell?_setCell_far _ _ _ _ h3g]; exact h3
          have HF : Hid (∀ w', Below wr.heap.size wr w' → w'.cell? ⟨g, i, none⟩ = some (svV (vs[i]'(by omega))) ∧ w'.frozen? ⟨g, i, none⟩ = false) := by
            intro w' hb'
            have := (hb'.block g hgl).trans hvs
            refine ⟨?_, by simp [World.frozen?, this]⟩
            rw [cell_of_row w' g i _ _ _ this, List.getElem?_toArray, List.getElem?_map, List.getElem?_eq_getElem (by omega)]
            rfl
          clear cb hc hv hp hrow hvs hll
          go_wp2
          have hBd : Below wr.heap.size wr wr.drew := (Below.refl _ _).drew
          have i1 : k < xn := by omega
          have i2 : (0 : Int) ≤ (k : Int) := by omega
          have i3 : (k : Int) < (xn : Int) := by omega
          have i4 : (0 : Int) ≤ (i : Int) := by omega
          have i5 : (i : Int) < (xn : Int) := by omega
          obtain ⟨k1, k2, k3⟩ := HK.out wr (Below.refl _ _)
          have f0 := HF.out wr (Below.refl _ _)
          have hpd : Bys wr.drew va vn p := hpb.below ((Below.refl _ _).drew)
          have hvn : vn < 400 := by have := HPL.out; have := hpb.len; omega
          obtain ⟨i0, hi, hz0, hz1, hz2⟩ := info_parts u8_info
          have hB3 : ∀ o, Below wr.heap.size wr (wr.alloc o).drew := fun o => ((Below.refl _ _).alloc (Nat.le_refl _) o).drew
          have hpd3 : ∀ o, Bys (wr.alloc o).drew va vn p := fun o => hpb.below (hB3 o)
          have hsz3 : ∀ o, wr.heap.size ≤ (wr.alloc o).drew.heap.size := fun o => (hB3 o).size
          have hS3 : ∀ (c : Int) (t : TypeId), Sl1 (Value.int .u8) (wr.alloc (.cells #[.int .u8 c] t)).drew (some ⟨wr.heap.size, 0, none⟩) 1 [c] := fun c t => (Sl1.lay (Value.int .u8) wr [c] t _ rfl).below ((Below.refl _ _).drew)
          have hBA : ∀ o, Below wr.heap.size wr (wr.drew.alloc o) := fun o => hBd.alloc (Nat.le_refl _) o
          go_region_held3 (fun w' => w'.cell? ⟨g, k, none⟩ = some (.slice va vn vc) ∧ w'.cell? ⟨w.heap.size, 3, none⟩ = some (.slice (some ⟨b3, o3, none⟩) xn bc) ∧ w'.cell? ⟨b3, o3 + i, none⟩ = some (.int .u8 c)) (first | (go_keep; done) | exact HK.out _ (hBA _) | exact HK.out _ (hB1.alloc hB1.size _) | exact HKS.out _ hB2 _) (first
            | (refine step_append_sl1 (by rfl) _ _ 40 (by rfl) u8_one wr.heap.size 5 i0 (.int .u8 0) 1 Try.underlying40 hi hz0 hz1 hz2 rfl (.slice none 0 0) 0 [] (by rfl) (World.ownsRow_nil _ _ _ _) va vn vc p (by rfl) hpd.1 (by unfold maxLen; omega) (by omega) (Nat.le_refl _) ?_
               intro v1 w1 hown1 hg1 hat1
               have hB1 : Below wr.heap.size wr w1 := hBd.grown hg1 (Nat.le_refl _) (fun k e => by cases e)
               rw [Nat.zero_add, List.nil_append] at hown1
               obtain ⟨a1, c1, rfl, hc1, _⟩ := own_sl1 (enc := Value.int .u8) (xs := p) hown1
               obtain ⟨d1, d2, d3⟩ := HK.out w1 hB1
               clear hat1)
            | (refine step_append_sl1 (by rfl) _ _ 40 (by rfl) u8_one wr.heap.size 5 i0 (.int .u8 0) 1 Try.underlying40 hi hz0 hz1 hz2 rfl (.slice none 0 0) 0 [] (by rfl) (World.ownsRow_nil _ _ _ _) va vn vc p (by rfl) (hpd3 _).1 (by unfold maxLen; omega) (by omega) (hsz3 _) ?_
               intro v1 w1 hown1 hg1 hat1
               have hB1 : Below wr.heap.size wr w1 := (hB3 _).grown hg1 (hsz3 _) (fun k e => by cases e)
               have hS1 : Sl1 (Value.int .u8) w1 (some ⟨wr.heap.size, 0, none⟩) 1 [c] := (hS3 c _).below ((Below.refl _ _).grown hg1 (Nat.le_refl _) (fun k e => by cases e))
               rw [Nat.zero_add, List.nil_append] at hown1
               obtain ⟨a1, c1, rfl, hc1, _⟩ := own_sl1 (enc := Value.int .u8) (xs := p) hown1
               obtain ⟨d1, d2, d3⟩ := HK.out w1 hB1
               clear hat1)
            | (refine step_append_sl1 (by rfl) _ _ 40 (by rfl) u8_one wr.heap.size 5 i0 (.int .u8 0) 1 Try.underlying40 hi hz0 hz1 hz2 rfl (.slice a1 vn c1) vn (p.map (Value.int .u8)) (by rfl) (hown1.alloc _) (some ⟨w1.heap.size, 0, none⟩) 1 1 [c] (by rfl) (Sl1.lay (Value.int .u8) w1 [c] _ _ rfl) (by unfold maxLen; omega) (by omega) (by have := hB1.size; simp; omega) ?_
               intro v2 w2 hown2 hg2 hat2
               have hB2 : Below wr.heap.size wr w2 := (hB1.alloc hB1.size _).grown hg2 (by have := hB1.size; simp; omega) (fun j hj => (hown1.lt j hj).1)
               obtain ⟨a2, c2, rfl, hc2, hsl2⟩ := own_sl1 (enc := Value.int .u8) (xs := p ++ [c]) (by simpa using hown2)
               obtain ⟨e1, e2, e3⟩ := HK.out w2 hB2
               obtain ⟨e4, e5⟩ := HF.out w2 hB2
               clear hat2)
            | (refine step_append_sl1 (by rfl) _ _ 40 (by rfl) u8_one wr.heap.size 5 i0 (.int .u8 0) 1 Try.underlying40 hi hz0 hz1 hz2 rfl (.slice a1 vn c1) vn (p.map (Value.int .u8)) (by rfl) hown1 (some ⟨wr.heap.size, 0, none⟩) 1 1 [c] (by rfl) hS1 (by unfold maxLen; omega) (by omega) hB1.size ?_
               intro v2 w2 hown2 hg2 hat2
               have hB2 : Below wr.heap.size wr w2 := hB1.grown hg2 hB1.size (fun j hj => (hown1.lt j hj).1)
               obtain ⟨a2, c2, rfl, hc2, hsl2⟩ := own_sl1 (enc := Value.int .u8) (xs := p ++ [c]) (by simpa using hown2)
               obtain ⟨e1, e2, e3⟩ := HK.out w2 hB2
               obtain ⟨e4, e5⟩ := HF.out w2 hB2
               clear hat2))
          all_goals
            go_wp2
            have hBf : Below W.heap.size W (w2.setCell ⟨g, i, none⟩ (.slice a2 (vn + 1) c2)) := (hBV.trans (hB2.mono hBV.size)).setCell (by show W.heap.size ≤ g; exact Nat.le_of_eq HG.out.symm) _
            go_roundw
            case rel =>
              refine ⟨i + 1, _, by omega, by omega, by go_num, HSS, hR.step hlen hil hB2 ⟨hsl2, fun x hx => ?_⟩ hc2, hBf, hO.below hBf⟩
              rcases List.mem_append.1 hx with hx | hx
              · exact hpb.2 x hx
              · rw [List.mem_singleton] at hx; subst hx; exact hcr
            case measure => simp [intOf]; omega
        · have HN : Hid (∀ k, i + 1 ≤ k → spTo T k = none) := by
            refine spTo_none (by omega) ?_
            obtain ⟨j, rfl⟩ : ∃ j, i = j + 1 := ⟨i - 1, by omega⟩
            unfold spTo
            rw [HS.out, Option.bind_some, HU.out]
            cases hby : T.byt[j + 1]? with
            | none => rfl
            | some c => simp; omega
          by_cases hu0 : u < 0
          · have hd1 : decide (u < 0) = true := by simp; omega
            have HZ : Hid (spO T = none) := by rw [Hid, HO.out]; exact HN.out xn (by omega)
            go_wp2
            go_ret2
            exact ⟨fun sp h => (by rw [HZ.out] at h; cases h), fun _ => rfl, hB.trans (hBV.mono hB.size)⟩
          · have hd1 : decide (u < 0) = false := by simp; omega
            have hd2 : decide ((i : Int) ≤ u) = true := by simp; omega
            have HZ : Hid (spO T = none) := by rw [Hid, HO.out]; exact HN.out xn (by omega)
            go_wp2
            go_ret2
            exact ⟨fun sp h => (by rw [HZ.out] at h; cases h), fun _ => rfl, hB.trans (hBV.mono hB.size)⟩
      · obtain rfl : i = xn := by omega
        have hdi : decide ((i : Int) < i) = false := by simp
        have HLN : Hid (l.length = i) := spTo_length HS.out
        go_wp2
        go_ret2
        refine ⟨fun sp h => ?_, fun h => ?_, hB.trans (hBV.mono hB.size)⟩
        · rw [HO.out, HS.out] at h
          obtain rfl := Option.some.inj h
          rw [HLN.out]
          exact ⟨g, rfl, by rw [HG.out]; exact hB.size, hR⟩
        · rw [HO.out, HS.out] at h; cases h
  · have HZ : Hid (spO T = none) := by
      unfold Hid spO
      rw [if_neg]
      rw [hT.up.1, hT.byt.1.1, hT.dep.1, hT.wrd.1]
      exact hok
    have c0 : W.cell? ⟨w.heap.size, 0, none⟩ = some (.slice ua un uc) := hO.cell (i := 0) rfl rfl
    have c1 : W.cell? ⟨w.heap.size, 1, none⟩ = some (.slice da dn dc) := hO.cell (i := 0) rfl rfl
    have c2 : W.cell? ⟨w.heap.size, 2, none⟩ = some (.slice xa xn xc) := hO.cell (i := 0) rfl rfl
    have c3 : W.cell? ⟨w.heap.size, 3, none⟩ = some (.slice ba bn bc) := hO.cell (i := 0) rfl rfl
    by_cases q1 : un < 1
    · have g1 : decide ((un : Int) < 1) = true := by simp; omega
      go_enter Try.func124, Try.ntmps124
      go_upto_region 1 with fail
      rw [← hW]
      clear hW
      go_wp2
      go_ret2
      exact ⟨fun sp h => (by rw [HZ.out] at h; cases h), fun _ => rfl, hB⟩
    · have g1 : decide ((un : Int) < 1) = false := by simp; omega
      by_cases q2 : 400 < un
      · have g2 : decide (400 < (un : Int)) = true := by simp; omega
        go_enter Try.func124, Try.ntmps124
        go_upto_region 1 with fail
        rw [← hW]
        clear hW
        go_wp2
        go_ret2
        exact ⟨fun sp h => (by rw [HZ.out] at h; cases h), fun _ => rfl, hB⟩
      · have g2 : decide (400 < (un : Int)) = false := by simp; omega
        by_cases q3 : bn = un
        · subst q3
          by_cases q4 : dn = bn
          · subst q4
            have q5 : xn ≠ dn := fun e => hok ⟨by omega, by omega, rfl, rfl, e⟩
            have g5 : ((xn : Int) != dn) = true := by simp; omega
            go_enter Try.func124, Try.ntmps124
            go_upto_region 1 with fail
            rw [← hW]
            clear hW
            go_wp2
            go_ret2
            exact ⟨fun sp h => (by rw [HZ.out] at h; cases h), fun _ => rfl, hB⟩
          · have g4 : ((dn : Int) != bn) = true := by simp; omega
            go_enter Try.func124, Try.ntmps124
            go_upto_region 1 with fail
            rw [← hW]
            clear hW
            go_wp2
            go_ret2
            exact ⟨fun sp h => (by rw [HZ.out] at h; cases h), fun _ => rfl, hB⟩
        · have g3 : ((bn : Int) != un) = true := by simp; omega
          go_enter Try.func124, Try.ntmps124
          go_upto_region 1 with fail
          rw [← hW]
          clear hW
          go_wp2
          go_ret2
          exact ⟨fun sp h => (by rw [HZ.out] at h; cases h), fun _ => rfl, hB⟩

end Go.Proofs.Ytmpmjkbjnklgfaa
