/- Parts of the proof, one behind the other: G3, K7, K8, Y1, Y2, Ap, A1, Rx, V7, A2. No condition but what each theorem states. -/
import Derived.Lib.SlBytesConst
import Derived.RangeFuncWrites
import Derived.Laws.OwnMore
import Derived.Test.YtglfdclpjmhoiaaGreatZK3
import Derived.Test.YtglfdclpjmhoiaaGreatZK5
import Derived.Test.YtglfdclpjmhoiaaGreatZK6
import Derived.Test.YtglfdclpjmhoiaaGreatZK7
set_option linter.unusedVariables false
set_option linter.unusedSimpArgs false

/- The document's trie of words (layer 7): walked. -/

namespace Go.Proofs.YtglfdclpjmhoiaaGreat
open Go.RowKit Go.Sort

/-- A trie that grows in a box of the call's own: its four rows. -/
structure MT (tb : Nat) (U D X B : List Int) (u d x b : Value) (W : World) : Prop where
 box : W.heap[tb]? = some (.cells #[u, d, x, b] 34 (0, 0))
 up : OwnI W (tb + 1) u U
 dep : OwnI W (tb + 1) d D
 wrd : OwnI W (tb + 1) x X
 byt : OwnU W (tb + 1) b B
 s1 : sep u d
 s2 : sep u x
 s3 : sep u b
 s4 : sep d x
 s5 : sep d b
 s6 : sep x b

section
variable {tb : Nat} {U D X B : List Int} {u d x b : Value} {W W' : World}
theorem MT.lt (h : MT tb U D X B u d x b W) : tb < W.heap.size := (Array.getElem?_eq_some_iff.1 h.box).1
theorem MT.below (h : MT tb U D X B u d x b W) (hb : Below W.heap.size W W') : MT tb U D X B u d x b W' :=
 ⟨(hb.block _ h.lt).trans h.box, row_below h.up hb, row_below h.dep hb, row_below h.wrd hb, row_below h.byt hb, h.s1, h.s2, h.s3, h.s4, h.s5, h.s6⟩
theorem MT.cells (h : MT tb U D X B u d x b W) : (W.cell? ⟨tb, 0, none⟩ = some u ∧ W.cell? ⟨tb, 1, none⟩ = some d ∧ W.cell? ⟨tb, 2, none⟩ = some x ∧ W.cell? ⟨tb, 3, none⟩ = some b) ∧ ∀ i, W.frozen? ⟨tb, i, none⟩ = false := by
 refine ⟨⟨?_, ?_, ?_, ?_⟩, fun i => ?_⟩ <;> simp [World.cell?, World.frozen?, h.box]
theorem MT.cz (h : MT tb U D X B u d x b W) {V : World} (o : Obj) {v : Value} (hg : (W.alloc o).grownBy V v.ownBlock) (hv : v.ownBlock ≠ some tb) : (V.cell? ⟨tb, 0, none⟩ = some u ∧ V.cell? ⟨tb, 1, none⟩ = some d ∧ V.cell? ⟨tb, 2, none⟩ = some x ∧ V.cell? ⟨tb, 3, none⟩ = some b) ∧ ∀ i, V.frozen? ⟨tb, i, none⟩ = false := by
 have hlt := h.lt
 have hbx : V.heap[tb]? = some (.cells #[u, d, x, b] 34 (0, 0)) := (hg.block tb (by simp; omega) (fun e => hv e.symm)).trans ((Below.heap_alloc _ _ _ hlt).trans h.box)
 refine ⟨⟨?_, ?_, ?_, ?_⟩, fun i => ?_⟩ <;> simp [World.cell?, World.frozen?, hbx]
theorem MT.put_u (h : MT tb U D X B u d x b W) {V : World} {u' : Value} {z : Int} (o : Obj) (hown : V.ownsRow (tb + 1) 3 1 u' (U.length + 1) (U.map (Value.int .i64) ++ [.int .i64 z])) (hg : (W.alloc o).grownBy V u.ownBlock) (hat : u'.ownBlock = u.ownBlock ∨ u'.ownBlock = some (W.alloc o).heap.size) :
  MT tb (U ++ [z]) D X B u' d x b (V.setCell ⟨tb, 0, none⟩ u') ∧ Below tb W (V.setCell ⟨tb, 0, none⟩ u') := by
 have hs := hg.size
 simp at hs
 have hal : W.heap.size ≤ (W.alloc o).heap.size := by simp
 have hlt := h.lt
 have hnr : u.ownBlock ≠ some tb := fun e => by have := (row_lt h.up _ e).1; omega
 have hbx : V.heap[tb]? = some (.cells #[u, d, x, b] 34 (0, 0)) := (hg.block tb (by simp; omega) (fun e => hnr e.symm)).trans ((Below.heap_alloc _ _ _ hlt).trans h.box)
 have k_d := row_set (i := 0) ((h.dep.alloc o).kept hg h.s1.kept) (Nat.lt_succ_self tb) u'
 have k_x := row_set (i := 0) ((h.wrd.alloc o).kept hg h.s2.kept) (Nat.lt_succ_self tb) u'
 have k_b := row_set (i := 0) ((h.byt.alloc o).kept hg h.s3.kept) (Nat.lt_succ_self tb) u'
 exact ⟨⟨set_at hbx _, (by unfold OwnI; rw [List.length_append, List.map_append]; exact row_set hown (Nat.lt_succ_self tb) _), k_d, k_x, k_b, (h.s1.put hat (fun k e => Nat.lt_of_lt_of_le (row_lt h.dep k e).2 hal)), (h.s2.put hat (fun k e => Nat.lt_of_lt_of_le (row_lt h.wrd k e).2 hal)), (h.s3.put hat (fun k e => Nat.lt_of_lt_of_le (row_lt h.byt k e).2 hal)), h.s4, h.s5, h.s6⟩, (((Below.refl tb W).alloc (by omega) o).grown hg (by simp; omega) (fun k e => by have := (row_lt h.up k e).1; omega)).setCell (Nat.le_refl _) _⟩
theorem MT.put_d (h : MT tb U D X B u d x b W) {V : World} {d' : Value} {z : Int} (o : Obj) (hown : V.ownsRow (tb + 1) 3 1 d' (D.length + 1) (D.map (Value.int .i64) ++ [.int .i64 z])) (hg : (W.alloc o).grownBy V d.ownBlock) (hat : d'.ownBlock = d.ownBlock ∨ d'.ownBlock = some (W.alloc o).heap.size) :
  MT tb U (D ++ [z]) X B u d' x b (V.setCell ⟨tb, 1, none⟩ d') ∧ Below tb W (V.setCell ⟨tb, 1, none⟩ d') := by
 have hs := hg.size
 simp at hs
 have hal : W.heap.size ≤ (W.alloc o).heap.size := by simp
 have hlt := h.lt
 have hnr : d.ownBlock ≠ some tb := fun e => by have := (row_lt h.dep _ e).1; omega
 have hbx : V.heap[tb]? = some (.cells #[u, d, x, b] 34 (0, 0)) := (hg.block tb (by simp; omega) (fun e => hnr e.symm)).trans ((Below.heap_alloc _ _ _ hlt).trans h.box)
 have k_u := row_set (i := 1) ((h.up.alloc o).kept hg (h.s1.symm).kept) (Nat.lt_succ_self tb) d'
 have k_x := row_set (i := 1) ((h.wrd.alloc o).kept hg h.s4.kept) (Nat.lt_succ_self tb) d'
 have k_b := row_set (i := 1) ((h.byt.alloc o).kept hg h.s5.kept) (Nat.lt_succ_self tb) d'
 exact ⟨⟨set_at hbx _, k_u, (by unfold OwnI; rw [List.length_append, List.map_append]; exact row_set hown (Nat.lt_succ_self tb) _), k_x, k_b, ((h.s1.symm.put hat (fun k e => Nat.lt_of_lt_of_le (row_lt h.up k e).2 hal)).symm), h.s2, h.s3, (h.s4.put hat (fun k e => Nat.lt_of_lt_of_le (row_lt h.wrd k e).2 hal)), (h.s5.put hat (fun k e => Nat.lt_of_lt_of_le (row_lt h.byt k e).2 hal)), h.s6⟩, (((Below.refl tb W).alloc (by omega) o).grown hg (by simp; omega) (fun k e => by have := (row_lt h.dep k e).1; omega)).setCell (Nat.le_refl _) _⟩
theorem MT.put_x (h : MT tb U D X B u d x b W) {V : World} {x' : Value} {z : Int} (o : Obj) (hown : V.ownsRow (tb + 1) 3 1 x' (X.length + 1) (X.map (Value.int .i64) ++ [.int .i64 z])) (hg : (W.alloc o).grownBy V x.ownBlock) (hat : x'.ownBlock = x.ownBlock ∨ x'.ownBlock = some (W.alloc o).heap.size) :
  MT tb U D (X ++ [z]) B u d x' b (V.setCell ⟨tb, 2, none⟩ x') ∧ Below tb W (V.setCell ⟨tb, 2, none⟩ x') := by
 have hs := hg.size
 simp at hs
 have hal : W.heap.size ≤ (W.alloc o).heap.size := by simp
 have hlt := h.lt
 have hnr : x.ownBlock ≠ some tb := fun e => by have := (row_lt h.wrd _ e).1; omega
 have hbx : V.heap[tb]? = some (.cells #[u, d, x, b] 34 (0, 0)) := (hg.block tb (by simp; omega) (fun e => hnr e.symm)).trans ((Below.heap_alloc _ _ _ hlt).trans h.box)
 have k_u := row_set (i := 2) ((h.up.alloc o).kept hg (h.s2.symm).kept) (Nat.lt_succ_self tb) x'
 have k_d := row_set (i := 2) ((h.dep.alloc o).kept hg (h.s4.symm).kept) (Nat.lt_succ_self tb) x'
 have k_b := row_set (i := 2) ((h.byt.alloc o).kept hg h.s6.kept) (Nat.lt_succ_self tb) x'
 exact ⟨⟨set_at hbx _, k_u, k_d, (by unfold OwnI; rw [List.length_append, List.map_append]; exact row_set hown (Nat.lt_succ_self tb) _), k_b, h.s1, ((h.s2.symm.put hat (fun k e => Nat.lt_of_lt_of_le (row_lt h.up k e).2 hal)).symm), h.s3, ((h.s4.symm.put hat (fun k e => Nat.lt_of_lt_of_le (row_lt h.dep k e).2 hal)).symm), h.s5, (h.s6.put hat (fun k e => Nat.lt_of_lt_of_le (row_lt h.byt k e).2 hal))⟩, (((Below.refl tb W).alloc (by omega) o).grown hg (by simp; omega) (fun k e => by have := (row_lt h.wrd k e).1; omega)).setCell (Nat.le_refl _) _⟩
theorem MT.put_b (h : MT tb U D X B u d x b W) {V : World} {b' : Value} {z : Int} (o : Obj) (hown : V.ownsRow (tb + 1) 5 1 b' (B.length + 1) (B.map (Value.int .u8) ++ [.int .u8 z])) (hg : (W.alloc o).grownBy V b.ownBlock) (hat : b'.ownBlock = b.ownBlock ∨ b'.ownBlock = some (W.alloc o).heap.size) :
  MT tb U D X (B ++ [z]) u d x b' (V.setCell ⟨tb, 3, none⟩ b') ∧ Below tb W (V.setCell ⟨tb, 3, none⟩ b') := by
 have hs := hg.size
 simp at hs
 have hal : W.heap.size ≤ (W.alloc o).heap.size := by simp
 have hlt := h.lt
 have hnr : b.ownBlock ≠ some tb := fun e => by have := (row_lt h.byt _ e).1; omega
 have hbx : V.heap[tb]? = some (.cells #[u, d, x, b] 34 (0, 0)) := (hg.block tb (by simp; omega) (fun e => hnr e.symm)).trans ((Below.heap_alloc _ _ _ hlt).trans h.box)
 have k_u := row_set (i := 3) ((h.up.alloc o).kept hg (h.s3.symm).kept) (Nat.lt_succ_self tb) b'
 have k_d := row_set (i := 3) ((h.dep.alloc o).kept hg (h.s5.symm).kept) (Nat.lt_succ_self tb) b'
 have k_x := row_set (i := 3) ((h.wrd.alloc o).kept hg (h.s6.symm).kept) (Nat.lt_succ_self tb) b'
 exact ⟨⟨set_at hbx _, k_u, k_d, k_x, (by unfold OwnU; rw [List.length_append, List.map_append]; exact row_set hown (Nat.lt_succ_self tb) _), h.s1, h.s2, ((h.s3.symm.put hat (fun k e => Nat.lt_of_lt_of_le (row_lt h.up k e).2 hal)).symm), h.s4, ((h.s5.symm.put hat (fun k e => Nat.lt_of_lt_of_le (row_lt h.dep k e).2 hal)).symm), ((h.s6.symm.put hat (fun k e => Nat.lt_of_lt_of_le (row_lt h.wrd k e).2 hal)).symm)⟩, (((Below.refl tb W).alloc (by omega) o).grown hg (by simp; omega) (fun k e => by have := (row_lt h.byt k e).1; omega)).setCell (Nat.le_refl _) _⟩
end

theorem up_zero {ws : List (List Int)} {x : List Int} (h : x = []) : placeS (nodesL ws) x.dropLast = 0 ∧ lastB x = 0 := by
 subst h
 have := placeS_at (nodesL_srt ws).nodup (nodesL_head ws)
 exact ⟨by simpa using this, rfl⟩
theorem trie_at {ws : List (List Int)} {i : Nat} {x : List Int} (h : (nodesL ws)[i]? = some x) : (trieP ws).up.take (i + 1) = (trieP ws).up.take i ++ [placeS (nodesL ws) x.dropLast] ∧ (trieP ws).dep.take (i + 1) = (trieP ws).dep.take i ++ [(x.length : Int)] ∧
  (trieP ws).wrd.take (i + 1) = (trieP ws).wrd.take i ++ [placeS ws x] ∧ (trieP ws).byt.take (i + 1) = (trieP ws).byt.take i ++ [lastB x] := by
 refine ⟨?_, ?_, ?_, ?_⟩ <;> exact take_step (by simp [trieP, h])
theorem trie_len (ws : List (List Int)) (i : Nat) (h : i ≤ (nodesL ws).length) : ((trieP ws).up.take i).length = i ∧ ((trieP ws).dep.take i).length = i ∧ ((trieP ws).wrd.take i).length = i ∧ ((trieP ws).byt.take i).length = i := by
 refine ⟨?_, ?_, ?_, ?_⟩ <;> simp [trieP] <;> omega
theorem trie_all (ws : List (List Int)) : (trieP ws).up.take (nodesL ws).length = (trieP ws).up ∧ (trieP ws).dep.take (nodesL ws).length = (trieP ws).dep ∧ (trieP ws).wrd.take (nodesL ws).length = (trieP ws).wrd ∧ (trieP ws).byt.take (nodesL ws).length = (trieP ws).byt := by
 refine ⟨?_, ?_, ?_, ?_⟩ <;> exact List.take_of_length_le (by simp [trieP])

set_option maxHeartbeats 1000000 in
theorem rmake7_no (fold : Bool) (a : Option Addr) (la ca : Nat) (wss : List (List Int)) (w : World) (hA : Wds w a la wss) (hla : la ≤ 1000000) (hM : ∀ x ∈ wss, x.length ≤ 1000000) (hr : rightP fold wss = false) :
  Calls Tryz.prog 19 #[.agg (setV fold a la ca)] w fun e w' => e = .returned (.tuple #[.agg #[.slice none 0 0, .slice none 0 0, .slice none 0 0, .slice none 0 0], .int .i64 2]) ∧ Below w.heap.size w w' := by
 have hB2 : Below w.heap.size w ((w.alloc (.cells (setV fold a la ca) 24)).alloc (.cells (nil4) 34)) := ((Below.refl _ _).alloc (Nat.le_refl _) _).alloc (by simp) _
 have n1 := alloc_at (w := w.alloc (.cells (setV fold a la ca) 24)) (n := w.heap.size + 1) (by simp) (.cells (nil4) 34)
 have HC := Lib.hid (rright_any fold a la ca wss _ (hA.below hB2) hla hM)
 have HR : Hid (rightR fold wss = false) := by rw [Hid, ← right_eq]; exact hr
 clear hr
 go_enter Tryz.func19, Tryz.ntmps19
 go_wp2_with fail
 refine HC.out.mono ?_
 rintro e w1 ⟨rfl, hb⟩
 rw [HR.out]
 have hB1 : Below w.heap.size w w1 := hB2.trans (hb.mono (by simp; omega))
 have m1 : w1.heap[w.heap.size + 1]? = some (.cells nil4 34 (0, 0)) := (hb.block _ (by simp)).trans n1
 have hsz : w.heap.size + 1 < w1.heap.size := (Array.getElem?_eq_some_iff.1 m1).1
 clear hb n1
 have q0 : w1.cell? ⟨w.heap.size + 1, 0, none⟩ = some (.slice none 0 0) := by simp [World.cell?, m1]
 have q1 : w1.cell? ⟨w.heap.size + 1, 1, none⟩ = some (.slice none 0 0) := by simp [World.cell?, m1]
 have q2 : w1.cell? ⟨w.heap.size + 1, 2, none⟩ = some (.slice none 0 0) := by simp [World.cell?, m1]
 have q3 : w1.cell? ⟨w.heap.size + 1, 3, none⟩ = some (.slice none 0 0) := by simp [World.cell?, m1]
 have f0 : ∀ i, w1.frozen? ⟨w.heap.size + 1, i, none⟩ = false := fun i => by simp [World.frozen?, m1]
 go_wp2
 have hz2 := set_at (i := 3) (set_at (i := 2) (set_at (i := 1) (set_at (i := 0) m1 (.slice none 0 0)) (.slice none 0 0)) (.slice none 0 0)) (.slice none 0 0)
 refine bodyPost_ret (results_trie rfl rfl (by simpa using hz2)) rfl ?_
 exact ⟨rfl, (((hB1.setCell (by show w.heap.size ≤ w.heap.size + 1; omega) _).setCell (by show w.heap.size ≤ w.heap.size + 1; omega) _).setCell (by show w.heap.size ≤ w.heap.size + 1; omega) _).setCell (by show w.heap.size ≤ w.heap.size + 1; omega) _⟩

theorem dropLast_take {x : List Int} {q : Nat} (h : x.length = q + 1) : x.dropLast = x.take q := by rw [List.dropLast_eq_take, h, Nat.add_sub_cancel]
theorem lastB_at {x : List Int} {q : Nat} (h : x.length = q + 1) {c : Int} (hc : x[q]? = some c) : lastB x = c := by
 unfold lastB
 rw [List.getLast?_eq_getElem?, h, Nat.add_sub_cancel, hc]
 rfl

set_option maxRecDepth 100000 in
set_option maxHeartbeats 8000000 in
theorem rmake7_yes (fold : Bool) (a : Option Addr) (la ca : Nat) (wss : List (List Int)) (w : World) (hA : Wds w a la wss) (hr : rightP fold wss = true) :
    Calls Tryz.prog 19 #[.agg (setV fold a la ca)] w fun e w' => ∃ t : TV, e = .returned (.tuple #[.agg t.cells, .int .i64 0]) ∧ Tri w' t (trieP wss) ∧ Below w.heap.size w w' := by
  obtain ⟨iI, hi, hz0, hz1, hz2⟩ := info_parts i64_info7
  obtain ⟨iU, hj, hy0, hy1, hy2⟩ := info_parts u8_info7
  have HL := Lib.hid hA.len
  obtain ⟨r1, r2, r3, r4, r5, r6⟩ := right_spec hr
  have hla : la ≤ 1000 := by have := HL.out; omega
  have hM : ∀ x ∈ wss, x.length ≤ 1000 := fun x hx => by have := (r3 x hx).2; omega
  have hM32 : ∀ x ∈ wss, x.length ≤ 32 := fun x hx => (r3 x hx).2
  have HBY := Lib.hid hA.bytes
  have HNB := Lib.hid (nodes_bd hM)
  have HNL := Lib.hid (nodes_le wss hM32)
  have HLM : Hid (wss.length ≤ 64) := by rw [Hid]; omega
  have HR : Hid (rightR fold wss = true) := by rw [Hid, ← right_eq]; exact hr
  clear r1 r2 r3 r4 r5 r6 hr hM32
  have hB2 : Below w.heap.size w ((w.alloc (.cells (setV fold a la ca) 24)).alloc (.cells (nil4) 34)) := ((Below.refl _ _).alloc (Nat.le_refl _) _).alloc (by simp) _
  have n1 := alloc_at (w := w.alloc (.cells (setV fold a la ca) 24)) (n := w.heap.size + 1) (by simp) (.cells (nil4) 34)
  have n0 : ((w.alloc (.cells (setV fold a la ca) 24)).alloc (.cells (nil4) 34)).heap[w.heap.size]? = some (.cells (setV fold a la ca) 24 (0, 0)) := (Below.heap_alloc _ _ _ (by simp)).trans (World.alloc_heap_new _ _)
  have HC := Lib.hid (rright_any fold a la ca wss _ (hA.below hB2) (by omega) (fun x hx => by have := hM x hx; omega))
  go_enter Tryz.func19, Tryz.ntmps19
  go_wp2_with fail
  refine HC.out.mono ?_
  rintro e w1 ⟨rfl, hb⟩
  rw [HR.out]
  have hB1 : Below w.heap.size w w1 := hB2.trans (hb.mono (by simp; omega))
  have m0 : w1.heap[w.heap.size]? = some (.cells (setV fold a la ca) 24 (0, 0)) := (hb.block _ (by simp; omega)).trans n0
  have m1 : w1.heap[w.heap.size + 1]? = some (.cells nil4 34 (0, 0)) := (hb.block _ (by simp)).trans n1
  have hsz : w.heap.size + 1 < w1.heap.size := (Array.getElem?_eq_some_iff.1 m1).1
  have s1 : w1.cell? ⟨w.heap.size, 1, none⟩ = some (.slice a la ca) := by simp [World.cell?, m0]
  clear hb n1 n0 hB2 HC
  have HND := Lib.hid (rnodes7_any a la ca wss w1 (hA.below hB1) hla hM)
  go_wp2_with fail
  refine HND.out.mono ?_
  rintro e w4 ⟨aN, cN, rfl, hcN, hN, hb⟩
  have hB4 : Below w.heap.size w w4 := hB1.trans (hb.mono hB1.size)
  have k0 : w4.heap[w.heap.size]? = _ := (hb.block _ (by omega)).trans m0
  have k1 : w4.heap[w.heap.size + 1]? = _ := (hb.block _ hsz).trans m1
  have hsz4 : w.heap.size + 1 < w4.heap.size := (Array.getElem?_eq_some_iff.1 k1).1
  clear m0 m1 s1 hb HND hB1 hsz HR
  have HA4 := Lib.hid (hA.below hB4)
  have HN := Lib.hid hN
  obtain ⟨n, hn⟩ : ∃ n, (nodesL wss).length = n := ⟨_, rfl⟩
  rw [hn] at HN hcN ⊢
  have HNN := Lib.hid hn
  have hn6 : n ≤ 2049 := by have h1 := HNL.out; have h2 := HLM.out; omega
  clear hn hN HNL HLM
  go_upto_region 5 with fail
  obtain ⟨W5, hW5⟩ : ∃ W5, W5 = w4.alloc (.cells nil4 34) := ⟨_, rfl⟩
  have hT0 : MT w4.heap.size ((trieP wss).up.take 0) ((trieP wss).dep.take 0) ((trieP wss).wrd.take 0) ((trieP wss).byt.take 0) (.slice none 0 0) (.slice none 0 0) (.slice none 0 0) (.slice none 0 0) W5 := by
    rw [hW5]
    exact ⟨World.alloc_heap_new _ _, World.ownsRow_nil _ _ _ _, World.ownsRow_nil _ _ _ _, World.ownsRow_nil _ _ _ _, World.ownsRow_nil _ _ _ _, sep_nil _, sep_nil _, sep_nil _, sep_nil _, sep_nil _, sep_nil _⟩
  have hB5 : Below w4.heap.size w4 W5 := by rw [hW5]; exact below_alloc _ _
  rw [← hW5]
  clear hW5
  go_wp2
  go_loopw [6] (fun s6 wr => ∃ (i : Nat) (u d x b : Value), i ≤ n ∧ s6 = .int .i64 i ∧ MT w4.heap.size ((trieP wss).up.take i) ((trieP wss).dep.take i) ((trieP wss).wrd.take i) ((trieP wss).byt.take i) u d x b wr ∧ Below w4.heap.size w4 wr) (fun s _ => n - (intOf s).toNat)
  case atStart => exact ⟨0, _, _, _, _, Nat.zero_le _, rfl, hT0, hB5⟩
  case round =>
    clear hT0 hB5
    obtain ⟨i, u, d, x, b, hin, rfl, h, hBe⟩ := hrel
    by_cases hil : i < n
    · have hd : decide ((i : Int) < n) = true := by simp; omega
      obtain ⟨bb, off, aw, lw, cw, y, hbb, hbl, hcell, hy, hY, hlc⟩ := HN.out.at_ hil
      subst hbb
      have hc1 : wr.cell? ⟨bb, off + i, none⟩ = some (.slice aw lw cw) := (hBe.cell (p := ⟨bb, off + i, none⟩) hbl).trans hcell
      have HY := Lib.hid hy
      have HYB := Lib.hid hY
      have hlw : lw ≤ 1000 := by have := HNB.out y (List.mem_of_getElem? hy); rw [hY.len] at this; exact this
      have i1 : (0 : Int) ≤ (i : Int) := by omega
      have i2 : (i : Int) < (n : Int) := by omega
      obtain ⟨e1, e2, e3, e4⟩ := trie_at hy
      have E1 := Lib.hid e1
      have E2 := Lib.hid e2
      have E3 := Lib.hid e3
      have E4 := Lib.hid e4
      obtain ⟨l1, l2, l3, l4⟩ := trie_len wss i (by rw [HNN.out]; exact hin)
      clear e1 e2 e3 e4
      obtain ⟨U, hU⟩ : ∃ U, (trieP wss).up.take i = U := ⟨_, rfl⟩
      obtain ⟨D, hD⟩ : ∃ D, (trieP wss).dep.take i = D := ⟨_, rfl⟩
      obtain ⟨X, hX⟩ : ∃ X, (trieP wss).wrd.take i = X := ⟨_, rfl⟩
      obtain ⟨B, hB⟩ : ∃ B, (trieP wss).byt.take i = B := ⟨_, rfl⟩
      rw [hU] at h E1 l1
      rw [hD] at h E2 l2
      rw [hX] at h E3 l3
      rw [hB] at h E4 l4
      clear hU hD hX hB hy hY
      have hBA : Below w4.heap.size w4 wr := hBe
      go_upto_if 29 with fail
      go_cut [7, 8] (fun s7 s8 wx => s7 = .int .i64 (placeS (nodesL wss) y.dropLast) ∧ s8 = .int .u8 (lastB y) ∧ MT w4.heap.size U D X B u d x b wx ∧ Below w4.heap.size w4 wx)
      case first =>
        by_cases hz : lw = 0
        · subst hz
          have hy0 : y = [] := List.eq_nil_of_length_eq_zero HYB.out.len
          have HU := Lib.hid (up_zero (ws := wss) hy0)
          clear hy0
          go_wp2_with fail
          go_meet
          exact ⟨by rw [HU.out.1], by rw [HU.out.2], h, hBe⟩
        · obtain ⟨q, rfl⟩ : ∃ q, lw = q + 1 := ⟨lw - 1, by omega⟩
          have hd2 : decide ((0 : Int) < ((q + 1 : Nat) : Int)) = true := by simp
          have HDT := Lib.hid (dropLast_take HYB.out.len)
          have hNr := HN.out.below hBe
          have hTr : Bys wr aw q (y.take q) := (HYB.out.below hBe).take (by omega)
          have HP := Lib.hid (rplace7_any (some ⟨bb, off, none⟩) aw n cN q cw (nodesL wss) (y.take q) wr hNr hTr (by omega))
          obtain ⟨b2, o2, c, hb2, hl2, hcc, hc⟩ := sl1_at HYB.out.1 (show q < q + 1 by omega)
          have HLB := Lib.hid (lastB_at HYB.out.len hc)
          subst hb2
          clear hNr hTr hc
          go_wp2_with fail
          refine HP.out.mono ?_
          rintro e w6 ⟨rfl, hb6⟩
          have hBe6 : Below w4.heap.size w4 w6 := hBe.trans (hb6.mono hBe.size)
          have h6 := h.below hb6
          have hc2 : w6.cell? ⟨bb, off + i, none⟩ = some (.slice (some ⟨b2, o2, none⟩) (q + 1) cw) := (hBe6.cell (p := ⟨bb, off + i, none⟩) hbl).trans hcell
          have hc3 : w6.cell? ⟨b2, o2 + q, none⟩ = some (.int .u8 c) := (hBe6.cell (p := ⟨b2, o2 + q, none⟩) hl2).trans hcc
          have i3 : (0 : Int) ≤ (q : Int) := by omega
          have i4 : (q : Int) < ((q + 1 : Nat) : Int) := by omega
          clear hc1 hBe hb6 h
          go_wp2_with fail
          go_meet
          exact ⟨by rw [HDT.out], by rw [HLB.out], h6, hBe6⟩
      case rest =>
        obtain ⟨rfl, rfl, h, hBe⟩ := hcut
        clear hc1 hBA
        obtain ⟨P1, hP1⟩ : ∃ P, placeS (nodesL wss) y.dropLast = P := ⟨_, rfl⟩
        obtain ⟨P2, hP2⟩ : ∃ P, lastB y = P := ⟨_, rfl⟩
        rw [hP1] at E1 ⊢
        rw [hP2] at E4 ⊢
        clear hP1 hP2
        have hlU : U.length ≤ 2049 := by omega
        have hlD : D.length ≤ 2049 := by omega
        have hlX : X.length ≤ 2049 := by omega
        have hlB : B.length ≤ 2049 := by omega
        clear l1 l2 l3 l4
        obtain ⟨au, cu, rfl, _, _⟩ := own_sl1 h.up
        obtain ⟨ad, cd, rfl, _, _⟩ := own_sl1 h.dep
        obtain ⟨ax, cx, rfl, _, _⟩ := own_sl1 h.wrd
        obtain ⟨ab, cb, rfl, _, _⟩ := own_sl1 h.byt
        obtain ⟨⟨c0, c1, c2, c3⟩, cf⟩ := h.cells
        go_upto_region 14 with (at_builtin; refine wpList_append_own_at _ rfl _ _ 32 rfl (w4.heap.size + 1) 3 iI (.int .i64 0) 1 8 Tryz.underlying32 hi hz0 hz1 hz2 rfl (by decide) _ _ _ rfl (h.up.alloc _) ⟨wc.heap.size, 0, none⟩ 1 1 [.int .i64 P1] rfl rfl (cells_new _ _ (by simp)) (by simp [Value.oneCell']) (by unfold maxLen; omega) (by omega) (by have := h.lt; simp; omega) ?_; intro v7 v7w hown7 hg7 hnil7 hat7; obtain ⟨g7, cp7, rfl⟩ := ownsRow_succ hown7; obtain ⟨⟨e70, e71, e72, e73⟩, fz7⟩ := h.cz _ hg7 (row_nm h.up (Nat.lt_succ_self _)))
        obtain ⟨h', hl'⟩ := h.put_u _ hown7 hg7 hat7
        have hBe' := hBe.trans hl'
        clear e70 e71 e72 e73 c0 c1 c2 c3 cf hown7 hg7 hnil7 hat7 hl' fz7 h hBe
        have h := h'
        have hBe := hBe'
        clear h' hBe'
        obtain ⟨Y7, hY⟩ : ∃ Y, Y = v7w.setCell ⟨w4.heap.size, 0, none⟩ (.slice (some ⟨g7, 0, none⟩) (U.length + 1) cp7) := ⟨_, rfl⟩
        rw [← hY] at h hBe ⊢
        clear hY v7w
        obtain ⟨⟨c0, c1, c2, c3⟩, cf⟩ := h.cells
        go_upto_region 15 with (at_builtin; refine wpList_append_own_at _ rfl _ _ 25 rfl (w4.heap.size + 1) 5 iU (.int .u8 0) 1 1 Tryz.underlying25 hj hy0 hy1 hy2 rfl (by decide) _ _ _ rfl (h.byt.alloc _) ⟨Y7.heap.size, 0, none⟩ 1 1 [.int .u8 P2] rfl rfl (cells_new _ _ (by simp)) (by simp [Value.oneCell']) (by unfold maxLen; omega) (by omega) (by have := h.lt; simp; omega) ?_; intro v8 v8w hown8 hg8 hnil8 hat8; obtain ⟨g8, cp8, rfl⟩ := ownsRow_succ hown8; obtain ⟨⟨e80, e81, e82, e83⟩, fz8⟩ := h.cz _ hg8 (row_nm h.byt (Nat.lt_succ_self _)))
        obtain ⟨h', hl'⟩ := h.put_b _ hown8 hg8 hat8
        have hBe' := hBe.trans hl'
        clear e80 e81 e82 e83 c0 c1 c2 c3 cf hown8 hg8 hnil8 hat8 hl' fz8 h hBe
        have h := h'
        have hBe := hBe'
        clear h' hBe'
        obtain ⟨Y8, hY⟩ : ∃ Y, Y = v8w.setCell ⟨w4.heap.size, 3, none⟩ (.slice (some ⟨g8, 0, none⟩) (B.length + 1) cp8) := ⟨_, rfl⟩
        rw [← hY] at h hBe ⊢
        clear hY v8w
        obtain ⟨⟨c0, c1, c2, c3⟩, cf⟩ := h.cells
        go_upto_region 16 with (at_builtin; refine wpList_append_own_at _ rfl _ _ 32 rfl (w4.heap.size + 1) 3 iI (.int .i64 0) 1 8 Tryz.underlying32 hi hz0 hz1 hz2 rfl (by decide) _ _ _ rfl (h.dep.alloc _) ⟨Y8.heap.size, 0, none⟩ 1 1 [.int .i64 (lw : Int)] rfl rfl (cells_new _ _ (by simp)) (by simp [Value.oneCell']) (by unfold maxLen; omega) (by omega) (by have := h.lt; simp; omega) ?_; intro v9 v9w hown9 hg9 hnil9 hat9; obtain ⟨g9, cp9, rfl⟩ := ownsRow_succ hown9; obtain ⟨⟨e90, e91, e92, e93⟩, fz9⟩ := h.cz _ hg9 (row_nm h.dep (Nat.lt_succ_self _)))
        obtain ⟨h', hl'⟩ := h.put_d _ hown9 hg9 hat9
        have hBe' := hBe.trans hl'
        clear e90 e91 e92 e93 c0 c1 c2 c3 cf hown9 hg9 hnil9 hat9 hl' fz9 h hBe
        have h := h'
        have hBe := hBe'
        clear h' hBe'
        obtain ⟨Y9, hY⟩ : ∃ Y, Y = v9w.setCell ⟨w4.heap.size, 1, none⟩ (.slice (some ⟨g9, 0, none⟩) (D.length + 1) cp9) := ⟨_, rfl⟩
        rw [← hY] at h hBe ⊢
        clear hY v9w
        obtain ⟨⟨c0, c1, c2, c3⟩, cf⟩ := h.cells
        have hlt := h.lt
        have HS1 : Y9.cell? ⟨w.heap.size, 1, none⟩ = some (.slice a la ca) := (hBe.cell (p := ⟨w.heap.size, 1, none⟩) (by show w.heap.size < w4.heap.size; omega)).trans (by simp [World.cell?, k0])
        have hc1 : Y9.cell? ⟨bb, off + i, none⟩ = some (.slice aw lw cw) := (hBe.cell (p := ⟨bb, off + i, none⟩) hbl).trans hcell
        have hdd : Below Y9.heap.size Y9 Y9.drew := bel_drewN Y9 1
        have HP := Lib.hid (rplace7_any a aw la ca lw cw wss y Y9.drew ((HA4.out.below hBe).below hdd) ((HYB.out.below hBe).below hdd) (by omega))
        obtain ⟨Z, hZ⟩ : ∃ Z, placeS wss y = Z := ⟨_, rfl⟩
        rw [hZ] at E3 HP
        clear hZ
        go_wp2
        go_region_law (first
          | (go_simp; go_at_call 37; refine HP.out.mono ?_; rintro e w3 ⟨rfl, hb3⟩
             have hB3 : Below Y9.heap.size Y9 w3 := hdd.trans hb3
             have h3 := h.below hB3
             have hBe3 : Below w4.heap.size w4 w3 := hBe.trans (hB3.mono hBe.size)
             obtain ⟨⟨c30, c31, c32, c33⟩, cf3⟩ := h3.cells
             have hl3 : w4.heap.size < w3.heap.size := h3.lt
             have s14 : (w3.alloc (.cells #[.int .i64 Z] 3)).cell? ⟨w4.heap.size, 2, none⟩ = some (.slice ax X.length cx) := by rw [World.cell?_alloc_lt _ _ _ hl3]; exact c32
             have hl3b : w4.heap.size ≠ w3.heap.size := by omega
             have hl3c : w3.heap.size ≠ w4.heap.size := by omega
             dsimp only)
          | (refine step_append_lies _ (by rfl) _ _ 32 (by rfl) (w4.heap.size + 1) 3 iI (.int .i64 0) 1 8 Tryz.underlying32 hi hz0 hz1 hz2 rfl (by decide) (.slice ax X.length cx) X.length (X.map (Value.int .i64)) (by rfl) (h3.wrd.alloc _) ⟨w3.heap.size, 0, none⟩ 1 1 [.int .i64 Z] (by rfl) rfl (cell_one_new _ _ _) (by simp [Value.oneCell']) (by decide) (by unfold maxLen; omega) (by omega) (by simp; omega) _ rfl ?_
             intro g10 cp10 v10w hown10 hg10 hat10 hl10
             obtain ⟨⟨q0, q1, q2, q3⟩, qf⟩ := h3.cz _ hg10 (row_nm h3.wrd (Nat.lt_succ_self _))))
        all_goals
          go_wp2
          obtain ⟨h', hl'⟩ := h3.put_x (z := Z) (.cells #[.int .i64 Z] 3) hown10 hg10 (hat10.elim (fun e => .inl e.symm) (fun e => .inr (by rw [e]; rfl)))
          have hBe' := hBe3.trans hl'
          go_roundw
          case rel => exact ⟨i + 1, _, _, _, _, by omega, by go_num, by rw [E1.out, E2.out, E3.out, E4.out, HYB.out.len]; exact h', hBe'⟩
          case measure => simp [intOf]; omega
    · obtain rfl : i = n := by omega
      have hd : decide ((i : Int) < i) = false := by simp
      obtain ⟨e1, e2, e3, e4⟩ := trie_all wss
      rw [HNN.out] at e1 e2 e3 e4
      rw [e1, e2, e3, e4] at h
      obtain ⟨au, cu, rfl, hcu, rU⟩ := own_sl1 h.up
      obtain ⟨ad, cd, rfl, hcd, rD⟩ := own_sl1 h.dep
      obtain ⟨ax, cx, rfl, hcx, rX⟩ := own_sl1 h.wrd
      obtain ⟨ab, cb, rfl, hcb, rB⟩ := own_sl1 h.byt
      obtain ⟨⟨c0, c1, c2, c3⟩, cf⟩ := h.cells
      have j1 : wr.heap[w.heap.size + 1]? = some (.cells nil4 34 (0, 0)) := (hBe.block _ hsz4).trans k1
      have q0 : wr.cell? ⟨w.heap.size + 1, 0, none⟩ = some (.slice none 0 0) := by simp [World.cell?, j1]
      have q1 : wr.cell? ⟨w.heap.size + 1, 1, none⟩ = some (.slice none 0 0) := by simp [World.cell?, j1]
      have q2 : wr.cell? ⟨w.heap.size + 1, 2, none⟩ = some (.slice none 0 0) := by simp [World.cell?, j1]
      have q3 : wr.cell? ⟨w.heap.size + 1, 3, none⟩ = some (.slice none 0 0) := by simp [World.cell?, j1]
      have f0 : ∀ k, wr.frozen? ⟨w.heap.size + 1, k, none⟩ = false := fun k => by simp [World.frozen?, j1]
      have hz2 := set_at (i := 3) (set_at (i := 2) (set_at (i := 1) (set_at (i := 0) j1 (.slice au (trieP wss).up.length cu)) (.slice ad (trieP wss).dep.length cd)) (.slice ax (trieP wss).wrd.length cx)) (.slice ab (trieP wss).byt.length cb)
      have HZ := Lib.hid hz2
      have hBw : Below w.heap.size w wr := hB4.trans (hBe.mono hB4.size)
      have st : ∀ {V : World} (k : Nat) (u : Value), MT w4.heap.size (trieP wss).up (trieP wss).dep (trieP wss).wrd (trieP wss).byt (.slice au (trieP wss).up.length cu) (.slice ad (trieP wss).dep.length cd) (.slice ax (trieP wss).wrd.length cx) (.slice ab (trieP wss).byt.length cb) V → MT w4.heap.size (trieP wss).up (trieP wss).dep (trieP wss).wrd (trieP wss).byt (.slice au (trieP wss).up.length cu) (.slice ad (trieP wss).dep.length cd) (.slice ax (trieP wss).wrd.length cx) (.slice ab (trieP wss).byt.length cb) (V.setCell ⟨w.heap.size + 1, k, none⟩ u) := fun k u hV =>
        ⟨(Below.heap_setCell _ _ _ _ (by show w4.heap.size ≠ w.heap.size + 1; omega)).trans hV.box, row_set hV.up (by omega) _, row_set hV.dep (by omega) _, row_set hV.wrd (by omega) _, row_set hV.byt (by omega) _, hV.s1, hV.s2, hV.s3, hV.s4, hV.s5, hV.s6⟩
      have HF := Lib.hid (st 3 (.slice ab (trieP wss).byt.length cb) (st 2 (.slice ax (trieP wss).wrd.length cx) (st 1 (.slice ad (trieP wss).dep.length cd) (st 0 (.slice au (trieP wss).up.length cu) h))))
      have HBF := Lib.hid ((((hBw.setCell (p := ⟨w.heap.size + 1, 0, none⟩) (by show w.heap.size ≤ w.heap.size + 1; omega) (.slice au (trieP wss).up.length cu)).setCell (p := ⟨w.heap.size + 1, 1, none⟩) (by show w.heap.size ≤ w.heap.size + 1; omega) (.slice ad (trieP wss).dep.length cd)).setCell (p := ⟨w.heap.size + 1, 2, none⟩) (by show w.heap.size ≤ w.heap.size + 1; omega) (.slice ax (trieP wss).wrd.length cx)).setCell (p := ⟨w.heap.size + 1, 3, none⟩) (by show w.heap.size ≤ w.heap.size + 1; omega) (.slice ab (trieP wss).byt.length cb))
      have HCP := Lib.hid (And.intro hcu (And.intro hcd (And.intro hcx hcb)))
      clear h hz2 hBw st rU rD rX rB hBe e1 e2 e3 e4
      go_wp2
      refine bodyPost_ret (results_trie rfl rfl (by simpa using HZ.out)) rfl ?_
      exact ⟨⟨au, (trieP wss).up.length, cu, ad, (trieP wss).dep.length, cd, ax, (trieP wss).wrd.length, cx, ab, (trieP wss).byt.length, cb⟩, rfl, ⟨own_sl HF.out.up, own_sl HF.out.dep, own_sl HF.out.wrd, ⟨own_sl HF.out.byt, trieP_bd HBY.out⟩, HCP.out⟩, HBF.out⟩

end Go.Proofs.YtglfdclpjmhoiaaGreat

/- The trie of he, she, her; ends; a set's small trie (layer 8's laws): walked. -/

namespace Go.Proofs.YtglfdclpjmhoiaaGreat
open Go.RowKit Go.Sort

/-- What a slice of numbers reads lies in no box of slices: such a box may turn. -/
theorem Sl1.turn {k : IntKind} {W V : World} {a : Option Addr} {n Q : Nat} {xs : List Int} {cs : Array Value} {t : TypeId} {fr : Nat × Nat} (h : Sl1 (Value.int k) W a n xs) (hQ : W.heap[Q]? = some (.cells cs t fr)) (hcs : ∀ (i : Nat) (x : Int), cs[i]? ≠ some (.int k x))
  (hk : ∀ j, j ≠ Q → j < W.heap.size → V.heap[j]? = W.heap[j]?) (hs : W.heap.size ≤ V.heap.size) : Sl1 (Value.int k) V a n xs := by
 refine ⟨h.1, ?_⟩
 rcases h.2 with h0 | ⟨b, off, e, hlt, hc⟩
 · exact .inl h0
 ·
  refine .inr ⟨b, off, e, Nat.lt_of_lt_of_le hlt hs, fun i x hx => ?_⟩
  have h1 := hc i x hx
  have hb : b ≠ Q := by
   rintro rfl
   simp only [World.cell?, hQ] at h1
   exact hcs _ x h1
  rw [← h1]
  exact World.cell?_of_block (hk b hb hlt)
theorem Tri.turn {W V : World} {Q : Nat} {t : TV} {T : TrieT} {cs : Array Value} {ty : TypeId} {fr : Nat × Nat} (h : Tri W t T) (hQ : W.heap[Q]? = some (.cells cs ty fr)) (hcs : ∀ (k : IntKind) (i : Nat) (x : Int), cs[i]? ≠ some (.int k x))
  (hk : ∀ j, j ≠ Q → j < W.heap.size → V.heap[j]? = W.heap[j]?) (hs : W.heap.size ≤ V.heap.size) : Tri V t T :=
 ⟨h.up.turn hQ (hcs _) hk hs, h.dep.turn hQ (hcs _) hk hs, h.wrd.turn hQ (hcs _) hk hs, ⟨h.byt.1.turn hQ (hcs _) hk hs, h.byt.2⟩, h.cap⟩
theorem nil4_noint (k : IntKind) (i : Nat) (x : Int) : nil4[i]? ≠ some (.int k x) := by
 intro h
 rcases i with _ | _ | _ | _ | i <;> simp at h
end Go.Proofs.YtglfdclpjmhoiaaGreat

/- A set's small trie (layer 8's laws): walked. -/

namespace Go.Proofs.YtglfdclpjmhoiaaGreat
open Go.RowKit Go.Sort

theorem gr8_bd {wss : List (List Int)} (h : greatP wss = false) (fold : Bool) : wss.length ≤ 80 ∧ (∀ x ∈ wss, x.length ≤ 3000) ∧ (begL fold wss).length ≤ 3000 := by
 unfold greatP at h
 have h := of_decide_eq_false h
 have h1 : wss.length ≤ 80 := by omega
 have h2 : gsum wss ≤ 3000 := by omega
 have key : ∀ (l : List (List Int)), gsum l ≤ 3000 → (∀ x ∈ l, x.length ≤ 3000) ∧ ((begL fold l).length : Int) = gsum l := by
  intro l
  induction l with
  | nil => intro _; exact ⟨by simp, by simp [begL, gsum]⟩
  | cons x l ih =>
   intro hg
   have e : gsum (x :: l) = min (x.length : Int) 4000 + gsum l := by simp [gsum]
   have hn := gsum_nonneg l
   rw [e] at hg ⊢
   obtain ⟨i1, i2⟩ := ih (by omega)
   refine ⟨fun y hy => ?_, ?_⟩
   ·
    rcases List.mem_cons.1 hy with rfl | hy
    · omega
    · exact i1 y hy
   ·
    have e2 : begL fold (x :: l) = begW (foldL fold x) ++ begL fold l := by simp [begL]
    rw [e2, List.length_append, begW_length, foldL_length]
    omega
 obtain ⟨k1, k2⟩ := key wss h2
 exact ⟨h1, k1, by omega⟩

theorem Wds.turn {W V : World} {Q n : Nat} {a : Option Addr} {l : List (List Int)} {t : TypeId} {fr : Nat × Nat} (h : Wds W a n l) (hQ : W.heap[Q]? = some (.cells nil4 t fr)) (hx : ∃ x ∈ l, x ≠ [])
  (hk : ∀ j, j ≠ Q → j < W.heap.size → V.heap[j]? = W.heap[j]?) (hs : W.heap.size ≤ V.heap.size) : Wds V a n l := by
 obtain ⟨vs, ⟨h1, h2⟩, h3, h4⟩ := h
 have row : ∀ (i : Nat) (v : Option Addr × Nat × Nat) (x : List Int), vs[i]? = some v → l[i]? = some x → Bys V v.1 v.2.1 x ∧ v.2.1 ≤ v.2.2 := fun i v x hv hx => by
  obtain ⟨h5, h6⟩ := h4 i v x hv hx
  exact ⟨⟨h5.1.turn hQ (nil4_noint _) hk hs, h5.2⟩, h6⟩
 obtain ⟨x, hxm, hx0⟩ := hx
 obtain ⟨i, hi⟩ := List.getElem?_of_mem hxm
 have hil := (List.getElem?_eq_some_iff.1 hi).1
 obtain ⟨v, hv⟩ : ∃ v, vs[i]? = some v := ⟨vs[i]'(by omega), by simp⟩
 refine ⟨vs, ⟨h1, ?_⟩, h3, row⟩
 rcases h2 with h2 | ⟨b, off, e, hlt, hc⟩
 · exact .inl h2
 ·
  have hb : b ≠ Q := by
   rintro rfl
   have h5 := hc i v hv
   simp only [World.cell?, hQ] at h5
   have h6 : v.2.1 = 0 := by
    rcases hoi : off + i with _ | _ | _ | _ | k <;> rw [hoi] at h5 <;> simp at h5 <;> omega
   have h7 := (h4 i v x hv hi).1.len
   rw [h6] at h7
   exact hx0 (List.eq_nil_of_length_eq_zero h7)
  exact .inr ⟨b, off, e, Nat.lt_of_lt_of_le hlt hs, fun k u hu => (World.cell?_of_block (hk b hb hlt)).trans (hc k u hu)⟩
end Go.Proofs.YtglfdclpjmhoiaaGreat

/- Tables (layer 11): a table that is filled, its rows; walked. Printed by exp.py. -/

namespace Go.Proofs.YtglfdclpjmhoiaaGreat
open Go.RowKit Go.Sort

theorem wrap_nat {x : Nat} (h : x ≤ 1000000000000) : IntKind.i64.wrap (x : Int) = (x : Int) := by simp [IntKind.wrap, IntKind.bits, IntKind.signed]; omega

end Go.Proofs.YtglfdclpjmhoiaaGreat

/- Tables (layer 11): a node's kids, each with the class of its byte: the iterator, walked. -/

namespace Go.Proofs.YtglfdclpjmhoiaaGreat
open Go.RowKit Go.Sort
attribute [local go_sem] Oper.semAt_some
attribute [local simp] wide_fn wide_depth
attribute [local go_sem] wide_fn wide_depth

/-- The kids of a node, of the first nodes, each with its byte. -/
def kidsA (T : TrieT) (node : Int) : Nat → List (Int × Nat)
 | 0 => []
 | k + 1 => kidsA T node k ++ (if 1 ≤ k ∧ T.up[k]? = some node then [((T.byt[k]?).getD 0, k)] else [])
theorem kidsA_length (T : TrieT) (node : Int) : ∀ k, (kidsA T node k).length ≤ k
 | 0 => by simp [kidsA]
 | k + 1 => by
  have := kidsA_length T node k
  unfold kidsA
  rw [List.length_append]
  split <;> simp <;> omega
theorem mem_kidsA {T : TrieT} {node : Int} {p : Int × Nat} : ∀ {k : Nat}, p ∈ kidsA T node k ↔ 1 ≤ p.2 ∧ p.2 < k ∧ T.up[p.2]? = some node ∧ p.1 = (T.byt[p.2]?).getD 0
 | 0 => by simp [kidsA]
 | k + 1 => by
  unfold kidsA
  rw [List.mem_append, mem_kidsA (k := k)]
  constructor
  ·
   rintro (⟨h1, h2, h3⟩ | h)
   · exact ⟨h1, by omega, h3⟩
   ·
    split at h
    ·
     rename_i hc
     rw [List.mem_singleton] at h
     subst h
     exact ⟨hc.1, by dsimp only; omega, hc.2, rfl⟩
    · cases h
  ·
   rintro ⟨h1, h2, h3, h4⟩
   by_cases e : p.2 = k
   ·
    right
    subst e
    rw [if_pos ⟨h1, h3⟩, List.mem_singleton]
    exact Prod.ext h4 rfl
   · exact .inl ⟨h1, by omega, h3, h4⟩
/-- The kids of a node, of the first nodes, each with the class of its byte. -/
def kidsQ (L : List Int) (T : TrieT) (node : Int) (k : Nat) : List (Nat × Nat) := (kidsA T node k).map fun p => (((L[p.1.toNat]?).getD 0).toNat, p.2)
end Go.Proofs.YtglfdclpjmhoiaaGreat

/- Fewer places (layer 12), plain: where nodes' kids stand. -/

namespace Go.Proofs.YtglfdclpjmhoiaaGreat

/-- Is a place free? Do all kids find free places above a base? -/
def freeP (ow : List Int) (p : Nat) : Bool := match ow[p]? with | none => true | some o => decide (o < 0)
def fitsP (ow : List Int) (ks : List (Nat × Nat)) (b : Nat) : Bool := ks.all fun q => freeP ow (b + q.1)
/-- The least base. -/
def baseP (ow : List Int) (ks : List (Nat × Nat)) : Nat := ((List.range (ow.length + 1)).find? (fitsP ow ks)).getD 0
def padP (l : List Int) (x : Int) (n : Nat) : List Int := l ++ List.replicate (n - l.length) x
/-- A kid comes to stand; all kids of a node. -/
def standP (s : List Int × List Int) (p node kid : Nat) : List Int × List Int := ((padP s.1 (-1) (p + 1)).set p (node : Int), (padP s.2 0 (p + 1)).set p (kid : Int))
def standsP (s : List Int × List Int) (b node : Nat) (ks : List (Nat × Nat)) : List Int × List Int := ks.foldl (fun t q => standP t (b + q.1) node q.2) s
/-- Owners, kids, bases: with one node more; with so many. -/
def settleP (K : Nat → List (Nat × Nat)) (s : List Int × List Int × List Int) (node : Nat) : List Int × List Int × List Int :=
 ((standsP (s.1, s.2.1) (baseP s.1 (K node)) node (K node)).1, (standsP (s.1, s.2.1) (baseP s.1 (K node)) node (K node)).2, s.2.2 ++ [if K node = [] then -1 else (baseP s.1 (K node) : Int)])
def placesP (K : Nat → List (Nat × Nat)) : Nat → List Int × List Int × List Int
 | 0 => ([], [], [])
 | n + 1 => settleP K (placesP K n) n

theorem padP_len (l : List Int) (x : Int) (n : Nat) : (padP l x n).length = max l.length n := by unfold padP; rw [List.length_append, List.length_replicate]; omega
theorem padP_at (l : List Int) (x : Int) (n p : Nat) : (padP l x n)[p]? = if p < l.length then l[p]? else if p < n then some x else none := by
 unfold padP
 rw [List.getElem?_append]
 split
 · rfl
 ·
  rw [List.getElem?_replicate]
  split <;> split <;> first | rfl | omega
theorem freeP_no {ow : List Int} {p : Nat} (h : freeP ow p = false) : ∃ o, ow[p]? = some o ∧ 0 ≤ o := by
 unfold freeP at h
 cases ho : ow[p]? with
 | none => rw [ho] at h; cases h
 | some o => rw [ho] at h; exact ⟨o, rfl, by have := of_decide_eq_false h; omega⟩
theorem fits_far (ow : List Int) (ks : List (Nat × Nat)) : fitsP ow ks ow.length = true := by
 unfold fitsP
 rw [List.all_eq_true]
 intro q _
 unfold freeP
 rw [List.getElem?_eq_none (by omega)]
/-- The base fits, none that is less does. -/
theorem baseP_spec (ow : List Int) (ks : List (Nat × Nat)) : fitsP ow ks (baseP ow ks) = true ∧ baseP ow ks ≤ ow.length ∧ ∀ b, b < baseP ow ks → fitsP ow ks b = false := by
 unfold baseP
 cases h : (List.range (ow.length + 1)).find? (fitsP ow ks) with
 | none =>
  have := List.find?_eq_none.1 h ow.length (List.mem_range.2 (by omega))
  rw [fits_far] at this
  exact absurd rfl this
 | some b =>
  rw [Option.getD_some]
  have h1 := List.find?_some h
  have h2 := List.mem_of_find?_eq_some h
  refine ⟨h1, by have := List.mem_range.1 h2; omega, fun c hc => ?_⟩
  obtain ⟨_, us, vs, e, hno⟩ := List.find?_eq_some_iff_append.1 h
  have hlen : us.length = b := by
   have e1 : (List.range (ow.length + 1))[us.length]? = some b := by rw [e]; simp
   rw [List.getElem?_range] at e1
   · exact Option.some.inj e1
   ·
    have := congrArg List.length e
    simp at this
    omega
  have hc2 : c ∈ us := by
   have e1 : (List.range (ow.length + 1))[c]? = some c := by rw [List.getElem?_range]; have := List.mem_range.1 h2; omega
   rw [e, List.getElem?_append_left (by omega)] at e1
   exact List.mem_of_getElem? e1
  simpa using hno c hc2
/-- Where a stand is done. -/
theorem standP_at (s : List Int × List Int) (hl : s.1.length = s.2.length) (p node kid : Nat) :
  (standP s p node kid).1.length = (standP s p node kid).2.length ∧ (standP s p node kid).1.length = max s.1.length (p + 1) ∧ (standP s p node kid).1[p]? = some (node : Int) ∧ (standP s p node kid).2[p]? = some (kid : Int) ∧
  ∀ r, r ≠ p → ((standP s p node kid).1[r]? = if r < s.1.length then s.1[r]? else if r < p then some (-1) else none) ∧ ((standP s p node kid).2[r]? = if r < s.2.length then s.2[r]? else if r < p then some 0 else none) := by
 unfold standP
 refine ⟨by simp only [List.length_set, padP_len]; omega, by simp only [List.length_set, padP_len], ?_, ?_, fun r hr => ⟨?_, ?_⟩⟩
 · rw [List.getElem?_set_self]; rw [padP_len]; omega
 · rw [List.getElem?_set_self]; rw [padP_len]; omega
 ·
  rw [List.getElem?_set_ne (Ne.symm hr), padP_at]
  split
  · rfl
  · split <;> split <;> first | rfl | omega
 ·
  rw [List.getElem?_set_ne (Ne.symm hr), padP_at]
  split
  · rfl
  · split <;> split <;> first | rfl | omega
/-- Where all kids of a node come to stand. -/
theorem standsP_at (b node : Nat) : ∀ (ks : List (Nat × Nat)) (s : List Int × List Int), s.1.length = s.2.length → ks.Pairwise (fun x y => x.1 ≠ y.1) →
  (standsP s b node ks).1.length = (standsP s b node ks).2.length ∧ s.1.length ≤ (standsP s b node ks).1.length ∧ (∀ q ∈ ks, b + q.1 < (standsP s b node ks).1.length) ∧ ((standsP s b node ks).1.length = s.1.length ∨ ∃ q ∈ ks, (standsP s b node ks).1.length = b + q.1 + 1) ∧
  (∀ q ∈ ks, (standsP s b node ks).1[b + q.1]? = some (node : Int) ∧ (standsP s b node ks).2[b + q.1]? = some (q.2 : Int)) ∧
  (∀ p, (∀ q ∈ ks, p ≠ b + q.1) → ((standsP s b node ks).1[p]? = if p < s.1.length then s.1[p]? else if p < (standsP s b node ks).1.length then some (-1) else none) ∧ ((standsP s b node ks).2[p]? = if p < s.1.length then s.2[p]? else if p < (standsP s b node ks).1.length then some 0 else none))
 | [], s, hl, _ => by
  show s.1.length = s.2.length ∧ s.1.length ≤ s.1.length ∧ _ ∧ (s.1.length = s.1.length ∨ _) ∧ _ ∧ (∀ p, _ → (s.1[p]? = if p < s.1.length then s.1[p]? else if p < s.1.length then some (-1) else none) ∧ (s.2[p]? = if p < s.1.length then s.2[p]? else if p < s.1.length then some 0 else none))
  refine ⟨hl, Nat.le_refl _, fun q hq => (by cases hq), .inl rfl, fun q hq => (by cases hq), fun p _ => ?_⟩
  by_cases hp : p < s.1.length
  · rw [if_pos hp, if_pos hp]; exact ⟨rfl, rfl⟩
  · rw [if_neg hp, if_neg hp, if_neg hp, if_neg hp, List.getElem?_eq_none (by omega), List.getElem?_eq_none (by omega)]; exact ⟨rfl, rfl⟩
 | q :: ks, s, hl, hp => by
  have e : standsP s b node (q :: ks) = standsP (standP s (b + q.1) node q.2) b node ks := rfl
  obtain ⟨h1, h2, h3, h4, h5⟩ := standP_at s hl (b + q.1) node q.2
  obtain ⟨hq, hks⟩ := List.pairwise_cons.1 hp
  obtain ⟨i1, i2, i3, i4, i5, i6⟩ := standsP_at b node ks (standP s (b + q.1) node q.2) h1 hks
  rw [e]
  obtain ⟨t, ht⟩ : ∃ t, standsP (standP s (b + q.1) node q.2) b node ks = t := ⟨_, rfl⟩
  obtain ⟨u, hu⟩ : ∃ u, standP s (b + q.1) node q.2 = u := ⟨_, rfl⟩
  rw [ht] at i1 i2 i3 i4 i5 i6 ⊢
  rw [hu] at h1 h2 h3 h4 h5 i2 i4 i6
  have hself : ∀ r ∈ ks, b + q.1 ≠ b + r.1 := fun r hr e => hq r hr (by omega)
  refine ⟨i1, by omega, fun r hr => ?_, ?_, fun r hr => ?_, fun p hpn => ?_⟩
  ·
   rcases List.mem_cons.1 hr with rfl | hr
   · omega
   · exact i3 r hr
  ·
   rcases i4 with h | ⟨r, hr, h⟩
   ·
    by_cases hle : b + q.1 + 1 ≤ s.1.length
    · exact .inl (by omega)
    · exact .inr ⟨q, List.mem_cons_self .., by omega⟩
   · exact .inr ⟨r, List.mem_cons_of_mem _ hr, h⟩
  ·
   rcases List.mem_cons.1 hr with rfl | hr
   ·
    obtain ⟨j1, j2⟩ := i6 (b + r.1) hself
    rw [if_pos (by omega)] at j1 j2
    exact ⟨j1.trans h3, j2.trans h4⟩
   · exact i5 r hr
  ·
   obtain ⟨j1, j2⟩ := i6 p (fun r hr => hpn r (List.mem_cons_of_mem _ hr))
   obtain ⟨k1, k2⟩ := h5 p (hpn q (List.mem_cons_self ..))
   have hpq := hpn q (List.mem_cons_self ..)
   by_cases ha : p < s.1.length
   ·
    rw [if_pos (by omega)] at j1 j2
    rw [if_pos ha] at k1
    rw [if_pos (by omega)] at k2
    rw [if_pos ha, if_pos ha]
    exact ⟨j1.trans k1, j2.trans k2⟩
   ·
    rw [if_neg ha, if_neg ha]
    rw [if_neg ha] at k1
    rw [if_neg (by omega)] at k2
    by_cases hb : p < u.1.length
    ·
     rw [if_pos hb] at j1 j2
     rw [if_pos (by omega)] at k1 k2
     rw [if_pos (by omega), if_pos (by omega)]
     exact ⟨j1.trans k1, j2.trans k2⟩
    ·
     rw [if_neg hb] at j1 j2
     exact ⟨j1, j2⟩

/-- What holds of the places of so many nodes. -/
structure PlOK (K : Nat → List (Nat × Nat)) (many n : Nat) (ow ki ba : List Int) : Prop where
 len : ow.length = ki.length
 bal : ba.length = n
 own : ∀ (p : Nat) (o : Int), ow[p]? = some o → (o = -1 ∧ ki[p]? = some 0) ∨ ∃ node b : Nat, o = (node : Int) ∧ node < n ∧ ba[node]? = some (b : Int) ∧ ∃ q ∈ K node, p = b + q.1 ∧ ki[p]? = some (q.2 : Int)
 std : ∀ node, node < n → K node ≠ [] → ∃ b : Nat, ba[node]? = some (b : Int) ∧ (∀ q ∈ K node, ow[b + q.1]? = some (node : Int) ∧ ki[b + q.1]? = some (q.2 : Int)) ∧ ∀ c, c < b → ∃ q ∈ K node, ∃ o : Nat, ow[c + q.1]? = some (o : Int) ∧ o < node
 non : ∀ node, node < n → K node = [] → ba[node]? = some (-1)
 big : ow.length ≤ n * many
 lst : ow.length ≠ 0 → ∃ node : Nat, ow[ow.length - 1]? = some (node : Int)

theorem settle_ok {K : Nat → List (Nat × Nat)} {many : Nat} (hK1 : ∀ node, ∀ q ∈ K node, 1 ≤ q.1 ∧ q.1 < many) (hK2 : ∀ node, (K node).Pairwise (fun x y => x.1 ≠ y.1)) {n : Nat} {s : List Int × List Int × List Int} (h : PlOK K many n s.1 s.2.1 s.2.2) :
  PlOK K many (n + 1) (settleP K s n).1 (settleP K s n).2.1 (settleP K s n).2.2 := by
 obtain ⟨hf, hbl, hno⟩ := baseP_spec s.1 (K n)
 obtain ⟨i1, i2, i3, i4, i5, i6⟩ := standsP_at (baseP s.1 (K n)) n (K n) (s.1, s.2.1) h.len (hK2 n)
 unfold settleP
 obtain ⟨b, hb⟩ : ∃ b, baseP s.1 (K n) = b := ⟨_, rfl⟩
 rw [hb] at hf hbl hno i1 i2 i3 i4 i5 i6 ⊢
 obtain ⟨t, ht⟩ : ∃ t, standsP (s.1, s.2.1) b n (K n) = t := ⟨_, rfl⟩
 rw [ht] at i1 i2 i3 i4 i5 i6 ⊢
 dsimp only at i2 i4 i6 ⊢
 have hfree : ∀ q ∈ K n, ∀ o, s.1[b + q.1]? = some o → o < 0 := fun q hq o ho => by
  have h1 := (List.all_eq_true.1 hf) q hq
  unfold freeP at h1
  rw [ho] at h1
  exact of_decide_eq_true h1
 have hold : ∀ (p : Nat) (o : Int), 0 ≤ o → s.1[p]? = some o → t.1[p]? = some o ∧ t.2[p]? = s.2.1[p]? := fun p o h0 ho => by
  have hp := (List.getElem?_eq_some_iff.1 ho).1
  obtain ⟨j1, j2⟩ := i6 p (fun q hq e => by have := hfree q hq o (by rw [← e]; exact ho); omega)
  rw [if_pos hp] at j1 j2
  exact ⟨j1.trans ho, j2⟩
 have hba : ∀ node, node < n → ∀ x, s.2.2[node]? = some x → (s.2.2 ++ [if K n = [] then (-1 : Int) else (b : Int)])[node]? = some x := fun node hn x hx => by
  rw [List.getElem?_append_left (by rw [h.bal]; exact hn)]; exact hx
 have hbn : (s.2.2 ++ [if K n = [] then (-1 : Int) else (b : Int)])[n]? = some (if K n = [] then (-1 : Int) else (b : Int)) := by
  rw [List.getElem?_append_right (by rw [h.bal]; exact Nat.le_refl _), h.bal, Nat.sub_self]; rfl
 refine ⟨i1, by rw [List.length_append, h.bal]; rfl, fun p o ho => ?_, fun node hn hne => ?_, fun node hn he => ?_, ?_, fun hne => ?_⟩
 ·
  by_cases hq : ∃ q ∈ K n, p = b + q.1
  ·
   obtain ⟨q, hqm, rfl⟩ := hq
   obtain ⟨e1, e2⟩ := i5 q hqm
   rw [e1] at ho
   have hne : K n ≠ [] := fun e => by rw [e] at hqm; cases hqm
   have hbn := hbn.trans (congrArg some (if_neg hne))
   exact .inr ⟨n, b, (Option.some.inj ho).symm, by omega, hbn, q, hqm, rfl, e2⟩
  ·
   obtain ⟨j1, j2⟩ := i6 p (fun q hqm e => hq ⟨q, hqm, e⟩)
   by_cases hp : p < s.1.length
   ·
    rw [if_pos hp] at j1 j2
    rw [j1] at ho
    rcases h.own p o ho with ⟨e1, e2⟩ | ⟨node, c, e1, e2, e3, q, hqm, e4, e5⟩
    · exact .inl ⟨e1, j2.trans e2⟩
    · exact .inr ⟨node, c, e1, by omega, hba node e2 _ e3, q, hqm, e4, j2.trans e5⟩
   ·
    rw [if_neg hp] at j1 j2
    by_cases hp2 : p < t.1.length
    ·
     rw [if_pos hp2] at j1 j2
     rw [j1] at ho
     exact .inl ⟨(Option.some.inj ho).symm, j2⟩
    ·
     rw [if_neg hp2] at j1
     rw [j1] at ho
     cases ho
 ·
  by_cases hnn : node < n
  ·
   obtain ⟨c, e1, e2, e3⟩ := h.std node hnn hne
   refine ⟨c, hba node hnn _ e1, fun q hq => ?_, fun d hd => ?_⟩
   ·
    obtain ⟨f1, f2⟩ := e2 q hq
    obtain ⟨g1, g2⟩ := hold _ _ (by omega) f1
    exact ⟨g1, g2.trans f2⟩
   ·
    obtain ⟨q, hq, o, f1, f2⟩ := e3 d hd
    exact ⟨q, hq, o, (hold _ _ (by omega) f1).1, f2⟩
  ·
   obtain rfl : n = node := by omega
   have hbn := hbn.trans (congrArg some (if_neg hne))
   refine ⟨b, hbn, i5, fun d hd => ?_⟩
   have h1 := hno d hd
   unfold fitsP at h1
   rw [List.all_eq_false] at h1
   obtain ⟨q, hq, h2⟩ := h1
   obtain ⟨o, ho, h0⟩ := freeP_no (by simpa using h2)
   rcases h.own _ _ ho with ⟨e1, _⟩ | ⟨nd, c, e1, e2, _⟩
   · omega
   · exact ⟨q, hq, nd, by rw [← e1]; exact (hold _ _ h0 ho).1, e2⟩
 ·
  by_cases hnn : node < n
  · exact hba node hnn _ (h.non node hnn he)
  ·
   obtain rfl : n = node := by omega
   have hbn := hbn.trans (congrArg some (if_pos he))
   exact hbn
 ·
  rw [Nat.succ_mul]
  have := h.big
  rcases i4 with e | ⟨q, hq, e⟩
  · omega
  ·
   have := (hK1 n q hq).2
   omega
 ·
  rcases i4 with e | ⟨q, hq, e⟩
  ·
   obtain ⟨nd, hnd⟩ := h.lst (by omega)
   rw [e]
   exact ⟨nd, (hold _ _ (by omega) hnd).1⟩
  ·
   rw [e, Nat.add_sub_cancel]
   exact ⟨n, (i5 q hq).1⟩
theorem places_ok {K : Nat → List (Nat × Nat)} {many : Nat} (hK1 : ∀ node, ∀ q ∈ K node, 1 ≤ q.1 ∧ q.1 < many) (hK2 : ∀ node, (K node).Pairwise (fun x y => x.1 ≠ y.1)) : ∀ n, PlOK K many n (placesP K n).1 (placesP K n).2.1 (placesP K n).2.2
 | 0 => ⟨rfl, rfl, fun p o ho => by simp [placesP] at ho, fun node hn => by omega, fun node hn => by omega, by simp [placesP], fun h => absurd rfl h⟩
 | n + 1 => settle_ok hK1 hK2 (places_ok hK1 hK2 n)
end Go.Proofs.YtglfdclpjmhoiaaGreat

/- Fewer places (layer 12): a table in memory; is there a node, is a place free; walked. -/

namespace Go.Proofs.YtglfdclpjmhoiaaGreat
open Go.RowKit Go.Sort

/-- The cells of a table: the tree's slices, the classes, the places' slices. -/
def skC (L : List Int) (u l y o k s : Value) : List Value := [u, l, y] ++ (L.map (Value.int .i64) ++ [o, k, s])
/-- A table, in a box of its own. -/
structure Sk (W : World) (T : Nat) (L : List Int) (u l y o k s : Value) : Prop where
 box : W.heap[T]? = some (.cells (skC L u l y o k s).toArray 68 (0, 0))
 len : L.length = 256
section
variable {W V : World} {T : Nat} {L : List Int} {u l y o k s : Value}
theorem Sk.lt (h : Sk W T L u l y o k s) : T < W.heap.size := (Array.getElem?_eq_some_iff.1 h.box).1
theorem Sk.below (h : Sk W T L u l y o k s) (hb : Below W.heap.size W V) : Sk V T L u l y o k s := ⟨(hb.block T h.lt).trans h.box, h.len⟩
theorem Sk.cls (h : Sk W T L u l y o k s) {c : Nat} {v : Int} (hv : L[c]? = some v) : W.cell? ⟨T, 3 + c, none⟩ = some (.int .i64 v) := by
 have hc : c < 256 := by have := (List.getElem?_eq_some_iff.1 hv).1; have := h.len; omega
 have e : (skC L u l y o k s)[3 + c]? = some (.int .i64 v) := by
  unfold skC
  rw [List.getElem?_append_right (by simp), List.getElem?_append_left (by simp [h.len]; omega), List.getElem?_map]
  simp [hv]
 simp only [World.cell?, h.box]
 simp [e]
theorem Sk.tail (h : Sk W T L u l y o k s) {i : Nat} {v : Value} (hv : [o, k, s][i]? = some v) : W.cell? ⟨T, 259 + i, none⟩ = some v := by
 have e : (skC L u l y o k s)[259 + i]? = some v := by
  unfold skC
  rw [List.getElem?_append_right (by simp; omega), List.getElem?_append_right (by simp [h.len]; omega)]
  simpa [h.len, show 259 + i - 3 - 256 = i by omega] using hv
 simp only [World.cell?, h.box]
 simp [e]
theorem Sk.cells (h : Sk W T L u l y o k s) : (W.cell? ⟨T, 0, none⟩ = some u ∧ W.cell? ⟨T, 1, none⟩ = some l ∧ W.cell? ⟨T, 2, none⟩ = some y) ∧ W.cell? ⟨T, 259, none⟩ = some o ∧ W.cell? ⟨T, 260, none⟩ = some k ∧ W.cell? ⟨T, 261, none⟩ = some s := by
 refine ⟨⟨?_, ?_, ?_⟩, h.tail (i := 0) rfl, h.tail (i := 1) rfl, h.tail (i := 2) rfl⟩
 all_goals (simp only [World.cell?, h.box]; simp [skC])
end

set_option maxRecDepth 100000 in
set_option maxHeartbeats 4000000 in
theorem is12_any (T : Nat) (un uc : Nat) (ua : Option Addr) (L : List Int) (l y o k s : Value) (node : Int) (w : World) (h : Sk w T L (.slice ua un uc) l y o k s) :
  Calls Tryz.prog 31 #[.pointer (some ⟨T, 0, none⟩), .int .i64 node] w fun e w' => e = .returned (.bool (decide (0 ≤ node ∧ node < (un : Int)))) ∧ w = w' := by
 obtain ⟨⟨c0, _, _⟩, _⟩ := h.cells
 by_cases h0 : 0 ≤ node
 ·
  have d0 : decide ((0 : Int) ≤ node) = true := by simpa using h0
  have e : decide (0 ≤ node ∧ node < (un : Int)) = decide (node < (un : Int)) := decide_eq_decide.2 ⟨fun h => h.2, fun h => ⟨h0, h⟩⟩
  rw [e]
  clear h0 h e
  go_enter Tryz.func31, Tryz.ntmps31
  go_wp2
  go_ret
  exact ⟨rfl, rfl⟩
 ·
  have d0 : decide ((0 : Int) ≤ node) = false := by simpa using h0
  have e : decide (0 ≤ node ∧ node < (un : Int)) = false := decide_eq_false (fun h => h0 h.1)
  rw [e]
  clear h0 h e
  go_enter Tryz.func31, Tryz.ntmps31
  go_wp2
  go_ret
  exact ⟨rfl, rfl⟩

set_option maxRecDepth 100000 in
set_option maxHeartbeats 4000000 in
theorem free12_any (T : Nat) (on oc : Nat) (oa : Option Addr) (L ow : List Int) (u l y k s : Value) (p : Nat) (w : World) (h : Sk w T L u l y (.slice oa on oc) k s) (hO : Sl1 (Value.int .i64) w oa on ow) :
  Calls Tryz.prog 30 #[.pointer (some ⟨T, 259, none⟩), .int .i64 (p : Int)] w fun e w' => e = .returned (.bool (freeP ow p)) ∧ w = w' := by
 obtain ⟨_, c0, _, _⟩ := h.cells
 have hl : ow.length = on := hO.1
 by_cases hp : on ≤ p
 ·
  have d0 : decide ((on : Int) ≤ (p : Int)) = true := by simp; omega
  have d1 : decide (on ≤ p) = true := by simp; omega
  have e : freeP ow p = true := by unfold freeP; rw [List.getElem?_eq_none (by omega)]
  rw [e]
  clear e hl hO h hp
  go_enter Tryz.func30, Tryz.ntmps30
  go_wp2
  go_ret
  exact ⟨rfl, rfl⟩
 ·
  have d0 : decide ((on : Int) ≤ (p : Int)) = false := by simp; omega
  have d1 : decide (on ≤ p) = false := by simp; omega
  obtain ⟨b, off, v, rfl, hb, cv, hv⟩ := sl1_at hO (show p < on by omega)
  have e : freeP ow p = decide (v < 0) := by unfold freeP; rw [hv]
  have q1 : (0 : Int) ≤ (p : Int) := by omega
  have q2 : (p : Int) < (on : Int) := by omega
  rw [e]
  clear e hl hO h hp hv
  go_enter Tryz.func30, Tryz.ntmps30
  go_wp2
  go_ret
  exact ⟨rfl, rfl⟩
end Go.Proofs.YtglfdclpjmhoiaaGreat

/- Ranging over a function that writes cells of its own between two rounds: as XRw, but how its blocks may turn is told of both worlds, and what it leaves behind is told of the last one. -/

namespace Go.Proofs.YtglfdclpjmhoiaaGreat
open Go Go.RowKit Go.Sort

/-- It abides growth, the turn of a walk beyond B, and the turn of a block of the iterator's own. -/
def AbidesX {β : Type} (B : Nat) (Pb : Nat → World → World → Prop) (J : β → World → Prop) : Prop :=
 ∀ (s : β) (W W' : World) (row : Option Nat), J s W → W.grownBy W' row → (∀ r, row = some r → (B ≤ r ∧ ∃ o : Obj, W.heap[r]? = some o ∧ o.isWalk = true) ∨ Pb r W W') → J s W'
/-- It abides growth, the turn of what is no cells beyond B, and the turn of a block of the iterator's own. -/
def OwnsX {β : Type} (B : Nat) (Pb : Nat → World → World → Prop) (I : β → World → Prop) : Prop :=
 ∀ (s : β) (W W' : World) (row : Option Nat), I s W → W.grownBy W' row → (∀ r, row = some r → (B ≤ r ∧ ∃ o : Obj, W.heap[r]? = some o ∧ o.isCells = false) ∨ Pb r W W') → I s W'
/-- The contract of an iterator that may write its own blocks. -/
def SeqStopsX {α : Type} (F : Fence) (n : Nat) (P : Program) (g : Nat) (lb : Array Value) (encs : α → Array Value) (Kp : World → World → Prop) (Pb : Nat → World → World → Prop) (S : List α → World → Prop) (Sp : List α → Prop) (N : Nat) (w : World) : Prop :=
 ∀ (l : Nat) (J Jx : List α → World → Prop) (W : World), Below w.heap.size w W → AbidesX W.heap.size Pb J → AbidesX W.heap.size Pb Jx →
  (∀ pre x W1, J pre W1 → pre.length < N → YieldAt F (n - 1) P l (encs x) W1 fun e W' => (e = .returned (.bool true) ∧ J (pre ++ [x]) W' ∧ Kp W1 W') ∨ (e = .returned (.bool false) ∧ Jx (pre ++ [x]) W')) →
  J [] W →
  CallsIn F n P g (#[.func (.yield l) #[] #[]] ++ lb) W fun e W' => (∃ v, e = .returned v) ∧ ((∃ xs, S xs W' ∧ J xs W') ∨ (∃ pre, Sp pre ∧ Jx pre W'))

theorem OwnsX.of {β : Type} {B : Nat} {Pb : Nat → World → World → Prop} {I : β → World → Prop} (h : OwnFrom B I) (h2 : ∀ (s : β) (W W' : World) (r : Nat), I s W → Pb r W W' → W.grownBy W' (some r) → I s W') : OwnsX B Pb I := by
 intro s W W' row hs hg hr
 cases row with
 | none => exact h s W W' none hs hg (fun r e => by cases e)
 | some r =>
  rcases hr r rfl with h3 | h3
  · exact h s W W' _ hs hg (fun q e => by cases e; exact h3)
  · exact h2 s W W' r hs h3 hg
theorem OwnsX.and {β : Type} {B : Nat} {Pb : Nat → World → World → Prop} {I I' : β → World → Prop} (h : OwnsX B Pb I) (h' : OwnsX B Pb I') : OwnsX B Pb (fun s W => I s W ∧ I' s W) := fun s W W' row hs hg hr => ⟨h s W W' row hs.1 hg hr, h' s W W' row hs.2 hg hr⟩
theorem OwnsX.pure {β : Type} (B : Nat) (Pb : Nat → World → World → Prop) (p : β → Prop) : OwnsX B Pb (fun s (_ : World) => p s) := fun s W W' row hs _ _ => hs
theorem OwnsX.box {β : Type} (B : Nat) (Pb : Nat → World → World → Prop) (b : Nat) (t : TypeId) (f : β → Value) (hb : ∀ W W', ¬ Pb b W W') : OwnsX B Pb (fun s W => Boxed W b t (f s)) := fun s W W' row hs hg hr =>
 (hg.block b (Array.getElem?_eq_some_iff.1 hs).1 (fun e => by
  rcases hr b e.symm with ⟨_, o, ho, hc⟩ | h
  ·
   have hs' : W.heap[b]? = some (.cells #[f s] t (0, 0)) := hs
   rw [hs'] at ho; cases ho; cases hc
  · exact hb _ _ h)).trans hs
theorem OwnsX.below {β : Type} {B n₀ : Nat} {Pb : Nat → World → World → Prop} {w : World} (hB : n₀ ≤ B) (hn : n₀ ≤ w.heap.size) (hP : ∀ r W W', Pb r W W' → n₀ ≤ r) : OwnsX B Pb (fun (_ : β) W => Below n₀ w W) := fun s W W' row hs hg hr =>
 hs.grown hg (Nat.le_trans hn hs.size) (fun k e => by rcases hr k e with ⟨h, _⟩ | h; exact Nat.le_trans hB h; exact hP k _ _ h)
theorem OwnsX.size {β : Type} (B : Nat) (Pb : Nat → World → World → Prop) (n : Nat) : OwnsX B Pb (fun (_ : β) W => n ≤ W.heap.size) := fun s W W' row hs hg _ => Nat.le_trans hs hg.size
theorem OwnsX.block {β : Type} (B : Nat) (Pb : Nat → World → World → Prop) (b : Nat) (cs : β → Array Value) (t : TypeId) (fr : Nat × Nat) (hb : ∀ W W', ¬ Pb b W W') : OwnsX B Pb (fun s W => W.heap[b]? = some (.cells (cs s) t fr)) := fun s W W' row hs hg hr =>
 (hg.block b (Array.getElem?_eq_some_iff.1 hs).1 (fun e => by
  rcases hr b e.symm with ⟨_, o, ho, hc⟩ | h
  ·
   have hs' : W.heap[b]? = some (.cells (cs s) t fr) := hs
   rw [hs'] at ho; cases ho; cases hc
  · exact hb _ _ h)).trans hs
theorem abides_x {β : Type} {B : Nat} {Pb : Nat → World → World → Prop} {J : β → World → Prop} (h : AbidesX B Pb J) {s : β} {w w' : World} (hj : J s w) (hb : Below w.heap.size w w') : J s w' :=
 h s w w' none hj (grownBy_of_below hb) (fun r e => by cases e)
/-- Of two worlds blocks of cells are the same. -/
def CellsEq (A B : World) : Prop := B.heap.size = A.heap.size ∧ ∀ (k : Nat) (cs : Array Value) (t : TypeId) (f : Nat × Nat), A.heap[k]? = some (Obj.cells cs t f) → B.heap[k]? = some (Obj.cells cs t f)

set_option maxHeartbeats 1000000 in
theorem rangeX {P : Program} {α : Type} {g : Operand} {ps : Array Tmp} {assign body : Code} {Q : Exit → Act → World → Prop} {a : Act} {w : World} {gf : Nat} {lb : Array Value}
  (hg : a.eval g = .func (.func gf) #[] lb) (eg : ∀ args w, (callFunc gf args).run P w = .ok (.enter gf args) w)
  {encs : α → Array Value} {Kp : World → World → Prop} {Pb : Nat → World → World → Prop} {S : List α → World → Prop} {Sp : List α → Prop} {N : Nat} (hseq : SeqStopsX Fence.wide 8 P gf lb encs Kp Pb S Sp N w) (hPb : ∀ r W W', Pb r W W' → r < w.heap.size) (hSk : ∀ (xs : List α) (W : World) (l : Nat) (o o' : Obj), w.heap.size ≤ l → W.heap[l]? = some o → o.isCells = false → S xs W → S xs (W.putObj l o'))
  (hKt : ∀ {A B C : World}, Kp A B → Kp B C → Kp A C) (hKb : ∀ (W : World) (l : Nat) (o o' : Obj), w.heap.size ≤ l → W.heap[l]? = some o → o.isCells = false → o.isWalk = false → Kp W (W.putObj l o')) (hps : ∀ x, (encs x).size = ps.size)
  (I : List α → World → Prop) (Ix : Code → List α → World → Prop) (hI : OwnsX w.heap.size Pb I) (hIx : ∀ c, OwnsX w.heap.size Pb (Ix c)) (h0 : I [] w) (a₁ : α → World → Act) (wA : α → World → World) (hwA : ∀ x W, Below W.heap.size W (wA x W)) (hKg : ∀ x W, w.heap.size ≤ W.heap.size → Kp W (wA x W))
  (hassign : ∀ (l : Nat) (x : α) (W : World) (K : Act → World → Prop), K (a₁ x W) (wA x W) →
   assign.wpIn (Fence.wide.inRound l) 7 P (Exit.then K (fun _ _ _ => False)) { tmps := (ps.zip (encs x)).foldl (fun t (p, v) => t.setIfInBounds p v) a.tmps, defers := [] } W)
  (hbody : ∀ (l : Nat) (pre : List α) (x : α) (W V : World), CellsEq (wA x W) V → I pre V → pre.length < N → body.wpIn (Fence.wide.inRound l) 7 P (ownPostG w.heap.size Kp I Ix (pre ++ [x]) V) (a₁ x W) V)
  (hdone : ∀ (D : Nat) (xs : List α) (W : World), w.heap.size ≤ D → S xs W → I xs W → W.heap[D]? = some (.deferred (some [])) → Q .normal { a with defers := { target := .collected D, args := #[] } :: a.defers } W)
  (hstop : ∀ (D : Nat) (c : Code) (pre : List α) (W : World), w.heap.size ≤ D → Sp pre → Ix c pre W → W.heap[D]? = some (.deferred (some [])) → c.wp P Q { a with defers := { target := .collected D, args := #[] } :: a.defers } W) :
  (Code.rangeFunc g ps assign body).wp P Q a w := by
 refine (wpIn_wide (n := 9)).1 (wpIn_rangeFunc fun fn hfn => ?_)
 -- the loop's record, and where it and the block for the rounds' deferred calls lie
 let rec_ : LoopState → Option Code → Loop := fun st pe => { state := st, pending := pe, fn, tmps := a.tmps, params := ps, assign, body, defers := w.heap.size }
 have hrec : ∀ st pe, rec_ st pe = { state := st, pending := pe, fn, tmps := a.tmps, params := ps, assign, body, defers := w.heap.size } := fun _ _ => rfl
 clear_value rec_
 have put : ∀ {J : List α → World → Prop}, OwnsX w.heap.size Pb J → ∀ {s : List α} {W : World} {q : Nat} {o : Obj} (o' : Obj), J s W → w.heap.size ≤ q → W.heap[q]? = some o → o.isCells = false → J s (W.putObj q o') := fun hJ _ W q o o' hs hq ho hc =>
  hJ _ _ _ _ hs (grownBy_putObj' W q o') (fun r e => by cases e; exact .inl ⟨hq, o, ho, hc⟩)
 have al : ∀ {J : List α → World → Prop}, OwnsX w.heap.size Pb J → ∀ {s : List α} {W : World} (o : Obj), J s W → J s (W.alloc o) := fun hJ _ W o hs => hJ _ _ _ none hs (World.grownBy_alloc W o none) (fun r e => by cases e)
 obtain ⟨W1, hW1⟩ : ∃ W1, (w.alloc (.deferred (some []))).alloc (.loop (rec_ .ready none)) = W1 := ⟨_, rfl⟩
 have hL1 : W1.heap[w.heap.size + 1]? = some (.loop (rec_ .ready none)) := by
  rw [← hW1]; have := World.alloc_heap_new (w.alloc (.deferred (some []))) (.loop (rec_ .ready none)); rwa [World.size_alloc] at this
 have hK1 : W1.heap[w.heap.size]? = some (.deferred (some [])) := by
  rw [← hW1]; exact (Below.heap_alloc _ _ _ (by simp)).trans (World.alloc_heap_new w _)
 have hI1 : I [] W1 := by rw [← hW1]; exact al hI _ (al hI _ h0)
 have hb1 : Below w.heap.size w W1 := by rw [← hW1]; exact ((Below.refl _ w).alloc (Nat.le_refl _) _).alloc (by simp) _
 have hsz1 : W1.heap.size = w.heap.size + 1 + 1 := by rw [← hW1]; simp
 refine ⟨w.heap.size + 1, [{ target := .collected w.heap.size, args := #[] }], W1, { target := .fn (.func gf) lb, args := #[.func (.yield (w.heap.size + 1)) #[] #[]] }, W1, gf,
  #[.func (.yield (w.heap.size + 1)) #[] #[]] ++ lb, W1, ?_, ?_, ?_, ?_, fun _ => (by decide), ?_⟩
 · rw [← hW1, hrec]; exact run_enterLoop_outer _ _ _ _ _
 ·
  simp only [resolve, hg]
  simp [go_sem]
 · intro f' hf'; trivial
 · simp [invoke, go_sem, eg]
 ·
  -- a turn that the iterator may do turns neither the record nor the other block
  have stays : ∀ {A B : World} {row : Option Nat}, A.grownBy B row → (∀ r, row = some r → (W1.heap.size ≤ r ∧ ∃ o : Obj, A.heap[r]? = some o ∧ o.isWalk = true) ∨ Pb r A B) → ∀ q, w.heap.size ≤ q → q < W1.heap.size → ∀ o, A.heap[q]? = some o → B.heap[q]? = some o := fun hg' hr q h1 h2 o ho =>
   (hg'.block q (Array.getElem?_eq_some_iff.1 ho).1 (fun e => by
    rcases hr q e.symm with ⟨h, _⟩ | h
    · omega
    · have := hPb q _ _ h; omega)).trans ho
  have own : ∀ {A B : World} {row : Option Nat}, (∀ r, row = some r → (W1.heap.size ≤ r ∧ ∃ o : Obj, A.heap[r]? = some o ∧ o.isWalk = true) ∨ Pb r A B) → ∀ r, row = some r → (w.heap.size ≤ r ∧ ∃ o : Obj, A.heap[r]? = some o ∧ o.isCells = false) ∨ Pb r A B := fun hr r e => by
   rcases hr r e with ⟨h, o, ho, hw⟩ | h
   · exact .inl ⟨by omega, o, ho, Obj.not_cells_of_walk hw⟩
   · exact .inr h
  refine (hseq (w.heap.size + 1)
   (fun pre W => I pre W ∧ W.heap[w.heap.size + 1]? = some (.loop (rec_ .ready none)) ∧ W.heap[w.heap.size]? = some (.deferred (some [])))
   (fun pre W => ∃ c, Ix c pre W ∧ W.heap[w.heap.size + 1]? = some (.loop (rec_ .done (some c))) ∧ W.heap[w.heap.size]? = some (.deferred (some [])))
   W1 hb1
   (fun s A B row hs hg' hr => ⟨hI s A B row hs.1 hg' (own hr), stays hg' hr _ (by omega) (by omega) _ hs.2.1, stays hg' hr _ (by omega) (by omega) _ hs.2.2⟩)
   (fun s A B row hs hg' hr => by
    obtain ⟨c, hc, hl, hk⟩ := hs
    exact ⟨c, hIx c s A B row hc hg' (own hr), stays hg' hr _ (by omega) (by omega) _ hl, stays hg' hr _ (by omega) (by omega) _ hk⟩)
   ?_ ⟨hI1, hL1, hK1⟩).mono ?_
  ·
   rintro pre x W ⟨hi, hl, hk⟩ hlen
   have hlt : w.heap.size + 1 < W.heap.size := (Array.getElem?_eq_some_iff.1 hl).1
   have hy := run_yield (P := P) (args := encs x) hl (by rw [hrec]; exact hps x)
   rw [hrec] at hy
   obtain ⟨WA, hWA⟩ : ∃ X, wA x W = X := ⟨_, rfl⟩
   have hbA : Below W.heap.size W WA := by rw [← hWA]; exact hwA x W
   have hlA : WA.heap[w.heap.size + 1]? = some (.loop (rec_ .ready none)) := (hbA.block _ hlt).trans hl
   have hkA : WA.heap[w.heap.size]? = some (.deferred (some [])) := (hbA.block _ (by omega)).trans hk
   have hiA : I pre WA := hI _ _ _ none hi (grownBy_of_below hbA) (fun r e => by cases e)
   have hKA : Kp W WA := by rw [← hWA]; exact hKg x W (by omega)
   have hltA : w.heap.size + 1 < WA.heap.size := (Array.getElem?_eq_some_iff.1 hlA).1
   refine ⟨fn, _, assign, body, hy, roundIn_of_wpIn hfn (hassign _ x W _ ?_)⟩
   rw [hWA]
   refine ⟨_, run_beginRound hlA (by rw [hrec]), ?_⟩
   obtain ⟨V, hV⟩ : ∃ V, WA.putObj (w.heap.size + 1) (.loop { rec_ .ready none with state := .busy }) = V := ⟨_, rfl⟩
   rw [hV]
   have hl2 : V.heap[w.heap.size + 1]? = some (.loop { rec_ .ready none with state := .busy }) := by rw [← hV]; exact World.putObj_heap_same hltA
   have hk2 : V.heap[w.heap.size]? = some (.deferred (some [])) := by rw [← hV]; exact (World.putObj_heap_other (by omega)).trans hkA
   have hw2 : Kp W V := by rw [← hV]; exact hKt hKA (hKb _ _ _ _ (by omega) hlA rfl rfl)
   have hiV : I pre V := by rw [← hV]; exact put hI _ hiA (by omega) hlA rfl
   have hCE : CellsEq (wA x W) V := by
    rw [hWA, ← hV]
    refine ⟨by simp [World.putObj], fun k cs t f hc => (World.putObj_heap_other (fun e => ?_)).trans hc⟩
    rw [e, hlA] at hc
    cases hc
   refine wpIn_mono (hbody _ pre x W V hCE hiV hlen) ?_
   have fin : ∀ (jump : Option Code) (W3 : World), KeepsFrom w.heap.size V W3 →
     (Instr.endRound (w.heap.size + 1) jump).run P W3 = .ok (.bool jump.isNone) (W3.putObj (w.heap.size + 1) (.loop (rec_ (if jump.isNone then .ready else .done) jump))) ∧
     W3.heap[w.heap.size + 1]? = some (.loop { rec_ .ready none with state := .busy }) ∧
     (W3.putObj (w.heap.size + 1) (.loop (rec_ (if jump.isNone then .ready else .done) jump))).heap[w.heap.size + 1]? = some (.loop (rec_ (if jump.isNone then .ready else .done) jump)) ∧
     (W3.putObj (w.heap.size + 1) (.loop (rec_ (if jump.isNone then .ready else .done) jump))).heap[w.heap.size]? = some (.deferred (some [])) := fun jump W3 hk3 => by
    have hl3 := hk3.same _ _ (by omega) hl2 rfl
    have hk4 := hk3.same _ _ (Nat.le_refl _) hk2 rfl
    have hend := run_endRound (P := P) jump hl3
    rw [hrec] at hend
    refine ⟨?_, hl3, World.putObj_heap_same (Array.getElem?_eq_some_iff.1 hl3).1, (World.putObj_heap_other (by omega)).trans hk4⟩
    rw [hrec]
    exact hend
   have leave : ∀ (c : Code) (W3 : World), KeepsFrom w.heap.size V W3 → Ix c (pre ++ [x]) W3 → ∃ (c' : Code), Ix c' (pre ++ [x]) (W3.putObj (w.heap.size + 1) (.loop (rec_ .done (some c)))) ∧ c' = c := fun c W3 hk3 hi3 => by
    obtain ⟨_, hl3, _, _⟩ := fin (some c) W3 hk3
    exact ⟨c, put (hIx _) _ hi3 (by omega) hl3 rfl, rfl⟩
   rintro e a3 W3 hp
   cases e with
   | normal =>
    obtain ⟨hk3, hkp3, hi3⟩ := hp
    obtain ⟨hr, hl3, hl4, hk4⟩ := fin none W3 hk3
    exact ⟨_, _, hr, .inl ⟨rfl, ⟨put hI _ hi3 (by omega) hl3 rfl, hl4, hk4⟩, hKt (hKt hw2 hkp3) (hKb _ _ _ _ (by omega) hl3 rfl rfl)⟩⟩
   | ret =>
    obtain ⟨hr, _, hl4, hk4⟩ := fin (some .ret) W3 hp.1
    obtain ⟨_, h, rfl⟩ := leave .ret W3 hp.1 hp.2
    exact ⟨_, _, hr, .inr ⟨rfl, _, h, hl4, hk4⟩⟩
   | exit id =>
    obtain ⟨hr, _, hl4, hk4⟩ := fin (some (.exit id)) W3 hp.1
    obtain ⟨_, h, rfl⟩ := leave (.exit id) W3 hp.1 hp.2
    exact ⟨_, _, hr, .inr ⟨rfl, _, h, hl4, hk4⟩⟩
   | goto t =>
    obtain ⟨hr, _, hl4, hk4⟩ := fin (some (.goto t)) W3 hp.1
    obtain ⟨_, h, rfl⟩ := leave (.goto t) W3 hp.1 hp.2
    exact ⟨_, _, hr, .inr ⟨rfl, _, h, hl4, hk4⟩⟩
   | panic ch => exact hp.elim
   | outgrown => exact hp.elim
  ·
   rintro e W2 ⟨⟨v, rfl⟩, (⟨xs, hS, hi, hl, hk⟩ | ⟨pre, hSp, c, hi, hl, hk⟩)⟩
   · exact ⟨none, _, by have := run_endLoop (P := P) hl (by rw [hrec]; simp); rw [hrec] at this; exact this, hdone _ xs _ (Nat.le_refl _) (hSk _ _ _ _ _ (by omega) hl rfl hS) (put hI _ hi (by omega) hl rfl) ((World.putObj_heap_other (by omega)).trans hk)⟩
   · exact ⟨some c, _, by have := run_endLoop (P := P) hl (by rw [hrec]; simp); rw [hrec] at this; exact this, wpIn_wide.2 (hstop _ c pre _ (Nat.le_refl _) hSp (put (hIx c) _ hi (by omega) hl rfl) ((World.putObj_heap_other (by omega)).trans hk))⟩

end Go.Proofs.YtglfdclpjmhoiaaGreat

/- A trie in memory of its own (layer 7, the document's way): walked. Printed by gen_v7.py. -/

namespace Go.Proofs.YtglfdclpjmhoiaaGreat
open Go.RowKit Go.Sort

/-- A trie of the call's own. -/
structure OTri (W : World) (base : Nat) (t : TV) (T : TrieT) : Prop where
 up : W.ownsRow base 3 1 (.slice t.ua t.un t.uc) t.un (T.up.map (Value.int .i64))
 dep : W.ownsRow base 3 1 (.slice t.da t.dn t.dc) t.dn (T.dep.map (Value.int .i64))
 wrd : W.ownsRow base 3 1 (.slice t.xa t.xn t.xc) t.xn (T.wrd.map (Value.int .i64))
 byt : W.ownsRow base 5 1 (.slice t.ba t.bn t.bc) t.bn (T.byt.map (Value.int .u8))
 bd : ∀ c ∈ T.byt, 0 ≤ c ∧ c ≤ 255
 s1 : sep (.slice t.ua t.un t.uc) (.slice t.da t.dn t.dc)
 s2 : sep (.slice t.ua t.un t.uc) (.slice t.xa t.xn t.xc)
 s3 : sep (.slice t.ua t.un t.uc) (.slice t.ba t.bn t.bc)
 s4 : sep (.slice t.da t.dn t.dc) (.slice t.xa t.xn t.xc)
 s5 : sep (.slice t.da t.dn t.dc) (.slice t.ba t.bn t.bc)
 s6 : sep (.slice t.xa t.xn t.xc) (.slice t.ba t.bn t.bc)
theorem OTri.below {W V : World} {base : Nat} {t : TV} {T : TrieT} (h : OTri W base t T) (hb : Below W.heap.size W V) : OTri V base t T :=
 ⟨own_below_ h.up hb, own_below_ h.dep hb, own_below_ h.wrd hb, own_below_ h.byt hb, h.bd, h.s1, h.s2, h.s3, h.s4, h.s5, h.s6⟩
theorem row_mono {w : World} {base base' n size : Nat} {e : TypeId} {v : Value} {xs : List Value} (h : w.ownsRow base e size v n xs) (hb : base' ≤ base) : w.ownsRow base' e size v n xs :=
 ⟨h.1, h.2.imp id fun ⟨g, cap, cur, h1, h2, r⟩ => ⟨g, cap, cur, h1, by omega, r⟩⟩
end Go.Proofs.YtglfdclpjmhoiaaGreat

/- Fewer places (layer 12): a node's kids, each with the class of its byte: the iterator, walked. -/

namespace Go.Proofs.YtglfdclpjmhoiaaGreat
open Go.RowKit Go.Sort
attribute [local go_sem] Oper.semAt_some
attribute [local simp] wide_fn wide_depth
attribute [local go_sem] wide_fn wide_depth

theorem kids12_any (T : Nat) (node : Int) (w : World) :
  Calls Tryz.prog 48 #[.pointer (some ⟨T, 0, none⟩), .int .i64 node] w fun e w' => e = .returned (.func (.func 71) #[] #[.pointer (some ⟨w.heap.size, 0, none⟩), .pointer (some ⟨w.heap.size + 1, 0, none⟩)]) ∧
   w' = (w.alloc (.cells #[.pointer (some ⟨T, 0, none⟩)] 102)).alloc (.cells #[.int .i64 node] 3) := by
 go_enter Tryz.func48, Tryz.ntmps48
 go_wp2
 go_ret
 exact ⟨rfl, rfl⟩

/-- What a body keeps: the blocks of S, and of the table's box all but the rows of owners and of kids. -/
def Kp12 (S : Nat → Prop) (T : Nat) (W W' : World) : Prop := (∀ k, S k → W'.heap[k]? = W.heap[k]?) ∧ ∀ L u l y o k s, Sk W T L u l y o k s → ∃ o' k', Sk W' T L u l y o' k' s
theorem Kp12.t {S : Nat → Prop} {T : Nat} {A B C : World} (h : Kp12 S T A B) (k : Kp12 S T B C) : Kp12 S T A C :=
 ⟨fun i hi => (k.1 i hi).trans (h.1 i hi), fun L u l y o kk s hs => by
  obtain ⟨o', k', h'⟩ := h.2 L u l y o kk s hs
  exact k.2 L u l y o' k' s h'⟩
theorem Kp12.of_below {S : Nat → Prop} {T : Nat} {W V : World} (hS : ∀ k, S k → k < W.heap.size) (hb : Below W.heap.size W V) : Kp12 S T W V := ⟨fun k hk => hb.block k (hS k hk), fun L u l y o k s hs => ⟨o, k, hs.below hb⟩⟩
theorem Kp12.b {S : Nat → Prop} {T n : Nat} (hS : ∀ k, S k → k < n) (hT : T < n) (W : World) (l : Nat) (o o' : Obj) (hl : n ≤ l) (h : W.heap[l]? = some o) (hc : o.isCells = false) (hw : o.isWalk = false) : Kp12 S T W (W.putObj l o') :=
 ⟨fun k hk => World.putObj_heap_other (by have := hS k hk; omega), fun L u ll y oo k s hs => ⟨oo, k, ⟨(World.putObj_heap_other (by omega)).trans hs.box, hs.len⟩⟩⟩
theorem kidsQ_pre (L : List Int) (Tr : TrieT) (node : Int) {i n : Nat} (h : i ≤ n) : ∃ r, kidsQ L Tr node n = kidsQ L Tr node i ++ r := by
 induction n with
 | zero =>
  obtain rfl : i = 0 := by omega
  exact ⟨[], by simp⟩
 | succ n ih =>
  by_cases e : i = n + 1
  · subst e; exact ⟨[], by simp⟩
  ·
   obtain ⟨r, hr⟩ := ih (by omega)
   refine ⟨r ++ (if 1 ≤ n ∧ Tr.up[n]? = some node then [(((L[((Tr.byt[n]?).getD 0).toNat]?).getD 0).toNat, n)] else []), ?_⟩
   rw [← List.append_assoc, ← hr]
   show (kidsA Tr node n ++ (if 1 ≤ n ∧ Tr.up[n]? = some node then [((Tr.byt[n]?).getD 0, n)] else [])).map (fun p => (((L[p.1.toNat]?).getD 0).toNat, p.2)) = _
   rw [List.map_append]
   by_cases hc : 1 ≤ n ∧ Tr.up[n]? = some node
   · rw [if_pos hc, if_pos hc]; rfl
   · rw [if_neg hc, if_neg hc]; rfl
/-- A kid with the class of its byte. -/
abbrev KdS (many : Nat) := { p : Nat × Nat // (1 ≤ p.1 ∧ p.1 < many) ∧ p.2 ≤ 1000 }
def ksEnc {many : Nat} (p : KdS many) : Array Value := #[.int .i64 (p.1.1 : Int), .int .i64 (p.1.2 : Int)]

set_option maxRecDepth 100000 in
set_option maxHeartbeats 4000000 in
theorem kids12_stops (Tr : TrieT) (T p1 p2 many : Nat) (node : Int) (ua ya : Option Addr) (un uc yn yc : Nat) (l o k s : Value) (L : List Int) (S : Nat → Prop) (m : Nat) (w : World)
  (hU : Sl1 (Value.int .i64) w ua un Tr.up) (hY0 : Bys w ya yn Tr.byt) (hn : Tr.byt.length = Tr.up.length) (hn4 : Tr.up.length ≤ 400) (hM : Sk w T L (.slice ua un uc) l (.slice ya yn yc) o k s)
  (hL : ∀ q ∈ kidsQ L Tr node Tr.up.length, (1 ≤ q.1 ∧ q.1 < many) ∧ q.2 ≤ 1000) (hL0 : ∀ (c : Nat) (v : Int), L[c]? = some v → 0 ≤ v ∧ v ≤ 1000)
  (h1 : w.heap[p1]? = some (.cells #[.pointer (some ⟨T, 0, none⟩)] 102 (0, 0))) (h2 : w.heap[p2]? = some (.cells #[.int .i64 node] 3 (0, 0)))
  (hS : S p1 ∧ S p2 ∧ (∀ a, ua = some a → S a.block) ∧ (∀ a, ya = some a → S a.block)) (hSl : ∀ j, S j → j < w.heap.size) :
  SeqStopsX Fence.wide m Tryz.prog 71 #[.pointer (some ⟨p1, 0, none⟩), .pointer (some ⟨p2, 0, none⟩)] (ksEnc (many := many)) (Kp12 S T) (fun _ _ _ => False) (fun zs _ => zs.map Subtype.val = kidsQ L Tr node Tr.up.length) (fun pre => ∃ r, kidsQ L Tr node Tr.up.length = pre.map Subtype.val ++ r) 1000001 w := by
 intro lo J Jx W hW hJ hJx hY h0
 obtain ⟨r1, r2, r3, r4⟩ := hS
 -- what the iterator knows of the world
 have base : Hid (∀ V, ((∀ j, S j → V.heap[j]? = w.heap[j]?) ∧ ∃ o' k', Sk V T L (.slice ua un uc) l (.slice ya yn yc) o' k' s) → V.cell? ⟨p1, 0, none⟩ = some (.pointer (some ⟨T, 0, none⟩)) ∧ V.cell? ⟨p2, 0, none⟩ = some (.int .i64 node) ∧ V.cell? ⟨T, 0, none⟩ = some (.slice ua un uc) ∧ V.cell? ⟨T, 2, none⟩ = some (.slice ya yn yc) ∧ ∀ (c : Nat) (v : Int), L[c]? = some v → V.cell? ⟨T, 3 + c, none⟩ = some (.int .i64 v)) := fun V hV => by
  obtain ⟨hV1, o', k', hs⟩ := hV
  have e1 := (hV1 p1 r1).trans h1
  have e2 := (hV1 p2 r2).trans h2
  obtain ⟨⟨c0, _, c2⟩, _⟩ := hs.cells
  exact ⟨by simp [World.cell?, e1], by simp [World.cell?, e2], c0, c2, fun c v h => hs.cls h⟩
 have kc : Hid (∀ (V : World) (p : Addr), (∀ j, S j → V.heap[j]? = w.heap[j]?) → S p.block → V.cell? p = w.cell? p) := fun V p hv hp => World.cell?_of_block (hv _ hp)
 have hkW : Hid ((∀ j, S j → W.heap[j]? = w.heap[j]?) ∧ ∃ o' k', Sk W T L (.slice ua un uc) l (.slice ya yn yc) o' k' s) := ⟨fun j hj => hW.block j (hSl j hj), o, k, hM.below hW⟩
 have HL := Lib.hid hL
 have HL0 := Lib.hid hL0
 have HLn := Lib.hid hM.len
 have HU := Lib.hid hU
 have HB := Lib.hid hY0
 have HSL := Lib.hid hSl
 have hun : Hid (Tr.up.length = un) := hU.1
 have hbn : yn = un := by have h1 : Tr.byt.length = yn := hY0.1.1; have := hun.out; omega
 have hu4 : un ≤ 400 := by have := hun.out; omega
 subst hbn
 clear hU hY0 hn hn4 hM h1 h2 hL hL0 hSl
 obtain ⟨c1, c2, c3, c4, _⟩ := base.out W hkW.out
 refine callsIn_of_wp Tryz.func71 rfl trivial ?_ rfl
 simp only [Tryz.ntmps71, List.size_toArray, List.length_cons, List.length_nil, Nat.reduceAdd, Nat.reduceSub, Array.replicate_succ, Array.replicate_zero, List.push_toArray, List.append_toArray, List.nil_append, List.cons_append]
 gi_wp2
 clear c1 c2 c3 c4
 gi_loopw [4] (fun i wr => ∃ (j : Nat) (pre : List (KdS many)), 1 ≤ j ∧ i = .int .i64 j ∧ Hid (pre.map Subtype.val = kidsQ L Tr node j) ∧ Hid (j ≤ max yn 1) ∧ J pre wr ∧ Hid ((∀ j, S j → wr.heap[j]? = w.heap[j]?) ∧ ∃ o' k', Sk wr T L (.slice ua yn uc) l (.slice ya yn yc) o' k' s)) (fun i _ => yn - (intOf i).toNat)
 case atStart => exact ⟨1, [], Nat.le_refl _, rfl, (by simp [Hid, kidsQ, kidsA]), Nat.le_max_right _ _, h0, hkW⟩
 case round =>
  obtain ⟨j, pre, hk, rfl, HP, HK, hj, hkr⟩ := hrel
  obtain ⟨c1, c2, c3, c4, c5⟩ := base.out wr hkr.out
  by_cases hlt : j < yn
  ·
   have hdk : decide ((j : Int) < yn) = true := by simp; omega
   obtain ⟨b0, o0, u, e0, hl0, cu0, hu⟩ := sl1_at HU.out hlt
   subst e0
   obtain ⟨b3, o3, c, e3, hl3, cb0, hc⟩ := sl1_at HB.out.1 hlt
   subst e3
   have cu : wr.cell? ⟨b0, o0 + j, none⟩ = some (.int .i64 u) := (kc.out wr ⟨b0, o0 + j, none⟩ hkr.out.1 (r3 ⟨b0, o0, none⟩ rfl)).trans cu0
   have cb : wr.cell? ⟨b3, o3 + j, none⟩ = some (.int .u8 c) := (kc.out wr ⟨b3, o3 + j, none⟩ hkr.out.1 (r4 ⟨b3, o3, none⟩ rfl)).trans cb0
   have hcr := HB.out.2 c (List.mem_of_getElem? hc)
   have hplen : pre.length ≤ j := by have h1 := congrArg List.length HP.out; have := kidsA_length Tr node j; unfold kidsQ at h1; rw [List.length_map, List.length_map] at h1; omega
   have i1 : (0 : Int) ≤ (j : Int) := by omega
   have i2 : (j : Int) < (yn : Int) := by omega
   obtain ⟨c, rfl⟩ : ∃ c' : Nat, c = (c' : Int) := ⟨c.toNat, by omega⟩
   obtain ⟨v, hv⟩ : ∃ v, L[c]? = some v := ⟨L[c]'(by rw [HLn.out]; omega), by simp⟩
   obtain ⟨hv0, hv1⟩ := HL0.out c v hv
   obtain ⟨v, rfl⟩ : ∃ v' : Nat, v = (v' : Int) := ⟨v.toNat, by omega⟩
   have cv := c5 c _ hv
   have i3 : (0 : Int) ≤ (c : Int) := by omega
   have i4 : (c : Int) < 256 := by omega
   have hTl : T < wr.heap.size := by obtain ⟨_, o', k', h⟩ := hkr.out; exact h.lt
   have HSr : Hid (∀ i, S i → i < wr.heap.size) := fun i hi => by
    have h := hkr.out.1 i hi
    have hl := HSL.out i hi
    obtain ⟨ob, ho⟩ : ∃ ob, w.heap[i]? = some ob := ⟨w.heap[i], by simp [hl]⟩
    rw [ho] at h
    exact (Array.getElem?_eq_some_iff.1 h).1
   by_cases hun2 : u = node
   ·
    subst hun2
    have hmem : (v, j) ∈ kidsQ L Tr u Tr.up.length := by
     unfold kidsQ
     rw [List.mem_map]
     exact ⟨((c : Int), j), mem_kidsA.2 ⟨hk, by rw [hun.out]; exact hlt, hu, by rw [hc]; rfl⟩, by simp [hv]⟩
    have hq := HL.out _ hmem
    have HS : Hid ((pre ++ [(⟨(v, j), hq⟩ : KdS many)]).map Subtype.val = kidsQ L Tr u (j + 1)) := by
     unfold Hid kidsQ kidsA
     rw [if_pos ⟨hk, hu⟩, List.map_append, List.map_append, HP.out, hc]
     unfold kidsQ
     simp [hv]
    have hpre : ∃ r, kidsQ L Tr u Tr.up.length = (pre ++ [(⟨(v, j), hq⟩ : KdS many)]).map Subtype.val ++ r := by
     rw [HS.out, hun.out]
     exact kidsQ_pre L Tr u (by omega)
    have HPRE := Lib.hid hpre
    clear cu0 cb0 hu hc c5 hv hmem hpre
    gi_wp2
    refine regionR_drawn_tail (wideF _ _) 24 mixed (by kernel_rfl) (by kernel_rfl) ?_
    dsimp only [List.take_succ_cons, List.take_zero, List.drop_succ_cons, List.drop_zero]
    repeat (go_big_quiet_step (fail))
    refine wpQuiet_nil ?_
    rintro _ ⟨nq, rfl⟩
    have hb0 : Below wr.heap.size wr (wr.drewN nq) := ⟨rfl, rfl, rfl, Nat.le_refl _, fun _ _ => rfl⟩
    obtain ⟨fn, tmps, assign, body, hyl, hRo⟩ := hY pre ⟨(v, j), hq⟩ (wr.drewN nq) (abides_x hJ hj hb0) (by omega)
    have hkr2 : Hid ((∀ i, S i → (wr.drewN nq).heap[i]? = w.heap[i]?) ∧ ∃ o' k', Sk (wr.drewN nq) T L (.slice (some ⟨b0, o0, none⟩) yn uc) l (.slice (some ⟨b3, o3, none⟩) yn yc) o' k' s) := by obtain ⟨h1, o', k', h2⟩ := hkr.out; exact ⟨h1, o', k', ⟨h2.box, h2.len⟩⟩
    dsimp only [ksEnc] at hyl
    gi_wp2
    refine hRo.mono ?_
    rintro e W4 (⟨rfl, hJ4, hk4⟩ | ⟨rfl, hJx4⟩)
    ·
     have hkr4 : Hid ((∀ i, S i → W4.heap[i]? = w.heap[i]?) ∧ ∃ o' k', Sk W4 T L (.slice (some ⟨b0, o0, none⟩) yn uc) l (.slice (some ⟨b3, o3, none⟩) yn yc) o' k' s) := by
      obtain ⟨h1, o', k', h2⟩ := hkr2.out
      exact ⟨fun i hi => (hk4.1 i hi).trans (h1 i hi), hk4.2 _ _ _ _ _ _ _ h2⟩
     gi_wp2
     go_roundw
     case rel => exact ⟨j + 1, _, by omega, by go_num, HS, (by unfold Hid; omega), hJ4, hkr4⟩
     case measure => simp [intOf]; omega
    ·
     gi_wp2
     refine bodyPost_ret (results_none rfl _ _ _) rfl ?_
     exact ⟨⟨_, rfl⟩, .inr ⟨_, HPRE.out, hJx4⟩⟩
   ·
    have hd : (u == node) = false := by simpa using hun2
    have HS : Hid (pre.map Subtype.val = kidsQ L Tr node (j + 1)) := by
     unfold Hid kidsQ kidsA
     rw [if_neg (fun h => hun2 (by have := h.2; rw [hu] at this; exact Option.some.inj this)), HP.out, List.append_nil]
     rfl
    clear cu0 cb0 hu hc c5 hv
    gi_wp2
    refine regionR_drawn (wideF _ _) mixed (by kernel_rfl) (by kernel_rfl) ?_
    repeat (go_big_quiet_step (fail))
    refine wpQuiet_nil ?_
    rintro _ ⟨nq, rfl⟩
    have hb0 : Below wr.heap.size wr (wr.drewN nq) := ⟨rfl, rfl, rfl, Nat.le_refl _, fun _ _ => rfl⟩
    have hkr2 : Hid ((∀ i, S i → (wr.drewN nq).heap[i]? = w.heap[i]?) ∧ ∃ o' k', Sk (wr.drewN nq) T L (.slice (some ⟨b0, o0, none⟩) yn uc) l (.slice (some ⟨b3, o3, none⟩) yn yc) o' k' s) := by obtain ⟨h1, o', k', h2⟩ := hkr.out; exact ⟨h1, o', k', ⟨h2.box, h2.len⟩⟩
    gi_wp2
    go_roundw
    case rel => exact ⟨j + 1, _, by omega, by go_num, HS, (by unfold Hid; omega), abides_x hJ hj hb0, hkr2⟩
    case measure => simp [intOf]; omega
  ·
   have hdk : decide ((j : Int) < yn) = false := by simp; omega
   clear c5
   gi_wp2
   go_end0
   refine ⟨⟨_, rfl⟩, .inl ⟨pre, ?_, hj⟩⟩
   show pre.map Subtype.val = kidsQ L Tr node Tr.up.length
   rw [HP.out, hun.out]
   have hmx := HK.out
   by_cases e : yn = 0
   ·
    obtain rfl : j = 1 := by omega
    subst e
    simp [kidsQ, kidsA]
   ·
    obtain rfl : j = yn := by omega
    rfl
end Go.Proofs.YtglfdclpjmhoiaaGreat
