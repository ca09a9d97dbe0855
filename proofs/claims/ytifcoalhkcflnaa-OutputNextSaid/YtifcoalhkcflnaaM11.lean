/- Parts of the proof, one behind the other: G3, K7, K8, K9. No condition but what each theorem states. -/
import Derived.Lib.SlBytesConst
import Derived.Test.YtifcoalhkcflnaaM10

/- The document's trie of words (layer 7): walked. -/

namespace Go.Proofs.Ytifcoalhkcflnaa
open Go.RowKit Go.Sort
set_option linter.unusedVariables false
set_option linter.unusedSimpArgs false

/-- A trie that grows in a box of the call's own: its four rows. -/
structure MT (tb : Nat) (U D X B : List Int) (u d x b : Value) (W : World) : Prop where
  box : W.heap[tb]? = some (.cells #[u, d, x, b] 49 (0, 0))
  up : OwnI W (tb + 1) u U
  dep : OwnI W (tb + 1) d D
  wrd : OwnI W (tb + 1) x X
  byt : OwnU W (tb + 1) b B
  s1 : sep u d
  s2 : sep u x
  s3 : sep u b
  s4 : sep d x
  s5 : sep d b
  s6 : sep x b

section
variable {tb : Nat} {U D X B : List Int} {u d x b : Value} {W W' : World}
theorem MT.lt (h : MT tb U D X B u d x b W) : tb < W.heap.size := (Array.getElem?_eq_some_iff.1 h.box).1
theorem MT.below (h : MT tb U D X B u d x b W) (hb : Below W.heap.size W W') : MT tb U D X B u d x b W' :=
  ⟨(hb.block _ h.lt).trans h.box, row_below h.up hb, row_below h.dep hb, row_below h.wrd hb, row_below h.byt hb, h.s1, h.s2, h.s3, h.s4, h.s5, h.s6⟩
theorem MT.cells (h : MT tb U D X B u d x b W) : (W.cell? ⟨tb, 0, none⟩ = some u ∧ W.cell? ⟨tb, 1, none⟩ = some d ∧ W.cell? ⟨tb, 2, none⟩ = some x ∧ W.cell? ⟨tb, 3, none⟩ = some b) ∧ ∀ i, W.frozen? ⟨tb, i, none⟩ = false := by
  refine ⟨⟨?_, ?_, ?_, ?_⟩, fun i => ?_⟩ <;> simp [World.cell?, World.frozen?, h.box]
theorem MT.cz (h : MT tb U D X B u d x b W) {V : World} (o : Obj) {v : Value} (hg : (W.alloc o).grownBy V v.ownBlock) (hv : v.ownBlock ≠ some tb) : (V.cell? ⟨tb, 0, none⟩ = some u ∧ V.cell? ⟨tb, 1, none⟩ = some d ∧ V.cell? ⟨tb, 2, none⟩ = some x ∧ V.cell? ⟨tb, 3, none⟩ = some b) ∧ ∀ i, V.frozen? ⟨tb, i, none⟩ = false := by
  have hlt := h.lt
  have hbx : V.heap[tb]? = some (.cells #[u, d, x, b] 49 (0, 0)) := (hg.block tb (by simp; omega) (fun e => hv e.symm)).trans ((Below.heap_alloc _ _ _ hlt).trans h.box)
  refine ⟨⟨?_, ?_, ?_, ?_⟩, fun i => ?_⟩ <;> simp [World.cell?, World.frozen?, hbx]
theorem MT.put_u (h : MT tb U D X B u d x b W) {V : World} {u' : Value} {z : Int} (o : Obj) (hown : V.ownsRow (tb + 1) 3 1 u' (U.length + 1) (U.map (Value.int .i64) ++ [.int .i64 z])) (hg : (W.alloc o).grownBy V u.ownBlock) (hat : u'.ownBlock = u.ownBlock ∨ u'.ownBlock = some (W.alloc o).heap.size) :
    MT tb (U ++ [z]) D X B u' d x b (V.setCell ⟨tb, 0, none⟩ u') ∧ Below tb W (V.setCell ⟨tb, 0, none⟩ u') := by
  have hs := hg.size
  simp at hs
  have hal : W.heap.size ≤ (W.alloc o).heap.size := by simp
  have hlt := h.lt
  have hnr : u.ownBlock ≠ some tb := fun e => by have := (row_lt h.up _ e).1; omega
  have hbx : V.heap[tb]? = some (.cells #[u, d, x, b] 49 (0, 0)) := (hg.block tb (by simp; omega) (fun e => hnr e.symm)).trans ((Below.heap_alloc _ _ _ hlt).trans h.box)
  have k_d := row_set (i := 0) ((h.dep.alloc o).kept hg h.s1.kept) (Nat.lt_succ_self tb) u'
  have k_x := row_set (i := 0) ((h.wrd.alloc o).kept hg h.s2.kept) (Nat.lt_succ_self tb) u'
  have k_b := row_set (i := 0) ((h.byt.alloc o).kept hg h.s3.kept) (Nat.lt_succ_self tb) u'
  exact ⟨⟨set_at hbx _, (by unfold OwnI; rw [List.length_append, List.map_append]; exact row_set hown (Nat.lt_succ_self tb) _), k_d, k_x, k_b, (h.s1.put hat (fun k e => Nat.lt_of_lt_of_le (row_lt h.dep k e).2 hal)), (h.s2.put hat (fun k e => Nat.lt_of_lt_of_le (row_lt h.wrd k e).2 hal)), (h.s3.put hat (fun k e => Nat.lt_of_lt_of_le (row_lt h.byt k e).2 hal)), h.s4, h.s5, h.s6⟩, (((Below.refl tb W).alloc (by omega) o).grown hg (by simp; omega) (fun k e => by have := (row_lt h.up k e).1; omega)).setCell (Nat.le_refl _) _⟩
theorem MT.put_d (h : MT tb U D X B u d x b W) {V : World} {d' : Value} {z : Int} (o : Obj) (hown : V.ownsRow (tb + 1) 3 1 d' (D.length + 1) (D.map (Value.int .i64) ++ [.int .i64 z])) (hg : (W.alloc o).grownBy V d.ownBlock) (hat : d'.ownBlock = d.ownBlock ∨ d'.ownBlock = some (W.alloc o).heap.size) :
    MT tb U (D ++ [z]) X B u d' x b (V.setCell ⟨tb, 1, none⟩ d') ∧ Below tb W (V.setCell ⟨tb, 1, none⟩ d') := by
  have hs := hg.size
  simp at hs
  have hal : W.heap.size ≤ (W.alloc o).heap.size := by simp
  have hlt := h.lt
  have hnr : d.ownBlock ≠ some tb := fun e => by have := (row_lt h.dep _ e).1; omega
  have hbx : V.heap[tb]? = some (.cells #[u, d, x, b] 49 (0, 0)) := (hg.block tb (by simp; omega) (fun e => hnr e.symm)).trans ((Below.heap_alloc _ _ _ hlt).trans h.box)
  have k_u := row_set (i := 1) ((h.up.alloc o).kept hg (h.s1.symm).kept) (Nat.lt_succ_self tb) d'
  have k_x := row_set (i := 1) ((h.wrd.alloc o).kept hg h.s4.kept) (Nat.lt_succ_self tb) d'
  have k_b := row_set (i := 1) ((h.byt.alloc o).kept hg h.s5.kept) (Nat.lt_succ_self tb) d'
  exact ⟨⟨set_at hbx _, k_u, (by unfold OwnI; rw [List.length_append, List.map_append]; exact row_set hown (Nat.lt_succ_self tb) _), k_x, k_b, ((h.s1.symm.put hat (fun k e => Nat.lt_of_lt_of_le (row_lt h.up k e).2 hal)).symm), h.s2, h.s3, (h.s4.put hat (fun k e => Nat.lt_of_lt_of_le (row_lt h.wrd k e).2 hal)), (h.s5.put hat (fun k e => Nat.lt_of_lt_of_le (row_lt h.byt k e).2 hal)), h.s6⟩, (((Below.refl tb W).alloc (by omega) o).grown hg (by simp; omega) (fun k e => by have := (row_lt h.dep k e).1; omega)).setCell (Nat.le_refl _) _⟩
theorem MT.put_x (h : MT tb U D X B u d x b W) {V : World} {x' : Value} {z : Int} (o : Obj) (hown : V.ownsRow (tb + 1) 3 1 x' (X.length + 1) (X.map (Value.int .i64) ++ [.int .i64 z])) (hg : (W.alloc o).grownBy V x.ownBlock) (hat : x'.ownBlock = x.ownBlock ∨ x'.ownBlock = some (W.alloc o).heap.size) :
    MT tb U D (X ++ [z]) B u d x' b (V.setCell ⟨tb, 2, none⟩ x') ∧ Below tb W (V.setCell ⟨tb, 2, none⟩ x') := by
  have hs := hg.size
  simp at hs
  have hal : W.heap.size ≤ (W.alloc o).heap.size := by simp
  have hlt := h.lt
  have hnr : x.ownBlock ≠ some tb := fun e => by have := (row_lt h.wrd _ e).1; omega
  have hbx : V.heap[tb]? = some (.cells #[u, d, x, b] 49 (0, 0)) := (hg.block tb (by simp; omega) (fun e => hnr e.symm)).trans ((Below.heap_alloc _ _ _ hlt).trans h.box)
  have k_u := row_set (i := 2) ((h.up.alloc o).kept hg (h.s2.symm).kept) (Nat.lt_succ_self tb) x'
  have k_d := row_set (i := 2) ((h.dep.alloc o).kept hg (h.s4.symm).kept) (Nat.lt_succ_self tb) x'
  have k_b := row_set (i := 2) ((h.byt.alloc o).kept hg h.s6.kept) (Nat.lt_succ_self tb) x'
  exact ⟨⟨set_at hbx _, k_u, k_d, (by unfold OwnI; rw [List.length_append, List.map_append]; exact row_set hown (Nat.lt_succ_self tb) _), k_b, h.s1, ((h.s2.symm.put hat (fun k e => Nat.lt_of_lt_of_le (row_lt h.up k e).2 hal)).symm), h.s3, ((h.s4.symm.put hat (fun k e => Nat.lt_of_lt_of_le (row_lt h.dep k e).2 hal)).symm), h.s5, (h.s6.put hat (fun k e => Nat.lt_of_lt_of_le (row_lt h.byt k e).2 hal))⟩, (((Below.refl tb W).alloc (by omega) o).grown hg (by simp; omega) (fun k e => by have := (row_lt h.wrd k e).1; omega)).setCell (Nat.le_refl _) _⟩
theorem MT.put_b (h : MT tb U D X B u d x b W) {V : World} {b' : Value} {z : Int} (o : Obj) (hown : V.ownsRow (tb + 1) 5 1 b' (B.length + 1) (B.map (Value.int .u8) ++ [.int .u8 z])) (hg : (W.alloc o).grownBy V b.ownBlock) (hat : b'.ownBlock = b.ownBlock ∨ b'.ownBlock = some (W.alloc o).heap.size) :
    MT tb U D X (B ++ [z]) u d x b' (V.setCell ⟨tb, 3, none⟩ b') ∧ Below tb W (V.setCell ⟨tb, 3, none⟩ b') := by
  have hs := hg.size
  simp at hs
  have hal : W.heap.size ≤ (W.alloc o).heap.size := by simp
  have hlt := h.lt
  have hnr : b.ownBlock ≠ some tb := fun e => by have := (row_lt h.byt _ e).1; omega
  have hbx : V.heap[tb]? = some (.cells #[u, d, x, b] 49 (0, 0)) := (hg.block tb (by simp; omega) (fun e => hnr e.symm)).trans ((Below.heap_alloc _ _ _ hlt).trans h.box)
  have k_u := row_set (i := 3) ((h.up.alloc o).kept hg (h.s3.symm).kept) (Nat.lt_succ_self tb) b'
  have k_d := row_set (i := 3) ((h.dep.alloc o).kept hg (h.s5.symm).kept) (Nat.lt_succ_self tb) b'
  have k_x := row_set (i := 3) ((h.wrd.alloc o).kept hg (h.s6.symm).kept) (Nat.lt_succ_self tb) b'
  exact ⟨⟨set_at hbx _, k_u, k_d, k_x, (by unfold OwnU; rw [List.length_append, List.map_append]; exact row_set hown (Nat.lt_succ_self tb) _), h.s1, h.s2, ((h.s3.symm.put hat (fun k e => Nat.lt_of_lt_of_le (row_lt h.up k e).2 hal)).symm), h.s4, ((h.s5.symm.put hat (fun k e => Nat.lt_of_lt_of_le (row_lt h.dep k e).2 hal)).symm), ((h.s6.symm.put hat (fun k e => Nat.lt_of_lt_of_le (row_lt h.wrd k e).2 hal)).symm)⟩, (((Below.refl tb W).alloc (by omega) o).grown hg (by simp; omega) (fun k e => by have := (row_lt h.byt k e).1; omega)).setCell (Nat.le_refl _) _⟩
end

theorem up_zero {ws : List (List Int)} {x : List Int} (h : x = []) : placeS (nodesL ws) x.dropLast = 0 ∧ lastB x = 0 := by
  subst h
  have := placeS_at (nodesL_srt ws).nodup (nodesL_head ws)
  exact ⟨by simpa using this, rfl⟩
theorem trie_at {ws : List (List Int)} {i : Nat} {x : List Int} (h : (nodesL ws)[i]? = some x) : (trieP ws).up.take (i + 1) = (trieP ws).up.take i ++ [placeS (nodesL ws) x.dropLast] ∧ (trieP ws).dep.take (i + 1) = (trieP ws).dep.take i ++ [(x.length : Int)] ∧
    (trieP ws).wrd.take (i + 1) = (trieP ws).wrd.take i ++ [placeS ws x] ∧ (trieP ws).byt.take (i + 1) = (trieP ws).byt.take i ++ [lastB x] := by
  refine ⟨?_, ?_, ?_, ?_⟩ <;> exact take_step (by simp [trieP, h])
theorem trie_len (ws : List (List Int)) (i : Nat) (h : i ≤ (nodesL ws).length) : ((trieP ws).up.take i).length = i ∧ ((trieP ws).dep.take i).length = i ∧ ((trieP ws).wrd.take i).length = i ∧ ((trieP ws).byt.take i).length = i := by
  refine ⟨?_, ?_, ?_, ?_⟩ <;> simp [trieP] <;> omega
theorem trie_all (ws : List (List Int)) : (trieP ws).up.take (nodesL ws).length = (trieP ws).up ∧ (trieP ws).dep.take (nodesL ws).length = (trieP ws).dep ∧ (trieP ws).wrd.take (nodesL ws).length = (trieP ws).wrd ∧ (trieP ws).byt.take (nodesL ws).length = (trieP ws).byt := by
  refine ⟨?_, ?_, ?_, ?_⟩ <;> exact List.take_of_length_le (by simp [trieP])

set_option maxHeartbeats 1000000 in
theorem rmake7_no (fold : Bool) (a : Option Addr) (la ca : Nat) (wss : List (List Int)) (w : World) (hA : Wds w a la wss) (hla : la ≤ 1000000) (hM : ∀ x ∈ wss, x.length ≤ 1000000) (hr : rightP fold wss = false) :
    Calls Try.prog 35 #[.agg (setV fold a la ca)] w fun e w' => e = .returned (.tuple #[.agg #[.slice none 0 0, .slice none 0 0, .slice none 0 0, .slice none 0 0], .int .i64 2]) ∧ Below w.heap.size w w' := by
  have hB2 : Below w.heap.size w ((w.alloc (.cells (setV fold a la ca) 24)).alloc (.cells (nil4) 49)) := ((Below.refl _ _).alloc (Nat.le_refl _) _).alloc (by simp) _
  have n1 := alloc_at (w := w.alloc (.cells (setV fold a la ca) 24)) (n := w.heap.size + 1) (by simp) (.cells (nil4) 49)
  have HC := Lib.hid (rright_any fold a la ca wss _ (hA.below hB2) hla hM)
  have HR : Hid (rightR fold wss = false) := by rw [Hid, ← right_eq]; exact hr
  clear hr
  go_enter Try.func35, Try.ntmps35
  go_wp2_with fail
  refine HC.out.mono ?_
  rintro e w1 ⟨rfl, hb⟩
  rw [HR.out]
  have hB1 : Below w.heap.size w w1 := hB2.trans (hb.mono (by simp; omega))
  have m1 : w1.heap[w.heap.size + 1]? = some (.cells nil4 49 (0, 0)) := (hb.block _ (by simp)).trans n1
  have hsz : w.heap.size + 1 < w1.heap.size := (Array.getElem?_eq_some_iff.1 m1).1
  clear hb n1
  have q0 : w1.cell? ⟨w.heap.size + 1, 0, none⟩ = some (.slice none 0 0) := by simp [World.cell?, m1]
  have q1 : w1.cell? ⟨w.heap.size + 1, 1, none⟩ = some (.slice none 0 0) := by simp [World.cell?, m1]
  have q2 : w1.cell? ⟨w.heap.size + 1, 2, none⟩ = some (.slice none 0 0) := by simp [World.cell?, m1]
  have q3 : w1.cell? ⟨w.heap.size + 1, 3, none⟩ = some (.slice none 0 0) := by simp [World.cell?, m1]
  have f0 : ∀ i, w1.frozen? ⟨w.heap.size + 1, i, none⟩ = false := fun i => by simp [World.frozen?, m1]
  go_wp2
  have hz2 := set_at (i := 3) (set_at (i := 2) (set_at (i := 1) (set_at (i := 0) m1 (.slice none 0 0)) (.slice none 0 0)) (.slice none 0 0)) (.slice none 0 0)
  refine bodyPost_ret (results_trie rfl rfl (by simpa using hz2)) rfl ?_
  exact ⟨rfl, (((hB1.setCell (by show w.heap.size ≤ w.heap.size + 1; omega) _).setCell (by show w.heap.size ≤ w.heap.size + 1; omega) _).setCell (by show w.heap.size ≤ w.heap.size + 1; omega) _).setCell (by show w.heap.size ≤ w.heap.size + 1; omega) _⟩

theorem dropLast_take {x : List Int} {q : Nat} (h : x.length = q + 1) : x.dropLast = x.take q := by rw [List.dropLast_eq_take, h, Nat.add_sub_cancel]
theorem lastB_at {x : List Int} {q : Nat} (h : x.length = q + 1) {c : Int} (hc : x[q]? = some c) : lastB x = c := by
  unfold lastB
  rw [List.getLast?_eq_getElem?, h, Nat.add_sub_cancel, hc]
  rfl

set_option maxRecDepth 100000 in
set_option maxHeartbeats 8000000 in
theorem rmake7_yes (fold : Bool) (a : Option Addr) (la ca : Nat) (wss : List (List Int)) (w : World) (hA : Wds w a la wss) (hr : rightP fold wss = true) :
    Calls Try.prog 35 #[.agg (setV fold a la ca)] w fun e w' => ∃ t : TV, e = .returned (.tuple #[.agg t.cells, .int .i64 0]) ∧ Tri w' t (trieP wss) ∧ Below w.heap.size w w' := by
  obtain ⟨iI, hi, hz0, hz1, hz2⟩ := info_parts i64_info7
  obtain ⟨iU, hj, hy0, hy1, hy2⟩ := info_parts u8_info7
  have HL := Lib.hid hA.len
  obtain ⟨r1, r2, r3, r4, r5, r6⟩ := right_spec hr
  have hla : la ≤ 1000 := by have := HL.out; omega
  have hM : ∀ x ∈ wss, x.length ≤ 1000 := fun x hx => by have := (r3 x hx).2; omega
  have hM32 : ∀ x ∈ wss, x.length ≤ 32 := fun x hx => (r3 x hx).2
  have HBY := Lib.hid hA.bytes
  have HNB := Lib.hid (nodes_bd hM)
  have HNL := Lib.hid (nodes_le wss hM32)
  have HLM : Hid (wss.length ≤ 64) := by rw [Hid]; omega
  have HR : Hid (rightR fold wss = true) := by rw [Hid, ← right_eq]; exact hr
  clear r1 r2 r3 r4 r5 r6 hr hM32
  have hB2 : Below w.heap.size w ((w.alloc (.cells (setV fold a la ca) 24)).alloc (.cells (nil4) 49)) := ((Below.refl _ _).alloc (Nat.le_refl _) _).alloc (by simp) _
  have n1 := alloc_at (w := w.alloc (.cells (setV fold a la ca) 24)) (n := w.heap.size + 1) (by simp) (.cells (nil4) 49)
  have n0 : ((w.alloc (.cells (setV fold a la ca) 24)).alloc (.cells (nil4) 49)).heap[w.heap.size]? = some (.cells (setV fold a la ca) 24 (0, 0)) := (Below.heap_alloc _ _ _ (by simp)).trans (World.alloc_heap_new _ _)
  have HC := Lib.hid (rright_any fold a la ca wss _ (hA.below hB2) (by omega) (fun x hx => by have := hM x hx; omega))
  go_enter Try.func35, Try.ntmps35
  go_wp2_with fail
  refine HC.out.mono ?_
  rintro e w1 ⟨rfl, hb⟩
  rw [HR.out]
  have hB1 : Below w.heap.size w w1 := hB2.trans (hb.mono (by simp; omega))
  have m0 : w1.heap[w.heap.size]? = some (.cells (setV fold a la ca) 24 (0, 0)) := (hb.block _ (by simp; omega)).trans n0
  have m1 : w1.heap[w.heap.size + 1]? = some (.cells nil4 49 (0, 0)) := (hb.block _ (by simp)).trans n1
  have hsz : w.heap.size + 1 < w1.heap.size := (Array.getElem?_eq_some_iff.1 m1).1
  have s1 : w1.cell? ⟨w.heap.size, 1, none⟩ = some (.slice a la ca) := by simp [World.cell?, m0]
  clear hb n1 n0 hB2 HC
  have HND := Lib.hid (rnodes7_any a la ca wss w1 (hA.below hB1) hla hM)
  go_wp2_with fail
  refine HND.out.mono ?_
  rintro e w4 ⟨aN, cN, rfl, hcN, hN, hb⟩
  have hB4 : Below w.heap.size w w4 := hB1.trans (hb.mono hB1.size)
  have k0 : w4.heap[w.heap.size]? = _ := (hb.block _ (by omega)).trans m0
  have k1 : w4.heap[w.heap.size + 1]? = _ := (hb.block _ hsz).trans m1
  have hsz4 : w.heap.size + 1 < w4.heap.size := (Array.getElem?_eq_some_iff.1 k1).1
  clear m0 m1 s1 hb HND hB1 hsz HR
  have HA4 := Lib.hid (hA.below hB4)
  have HN := Lib.hid hN
  obtain ⟨n, hn⟩ : ∃ n, (nodesL wss).length = n := ⟨_, rfl⟩
  rw [hn] at HN hcN ⊢
  have HNN := Lib.hid hn
  have hn6 : n ≤ 2049 := by have h1 := HNL.out; have h2 := HLM.out; omega
  clear hn hN HNL HLM
  go_upto_region 5 with fail
  obtain ⟨W5, hW5⟩ : ∃ W5, W5 = w4.alloc (.cells nil4 49) := ⟨_, rfl⟩
  have hT0 : MT w4.heap.size ((trieP wss).up.take 0) ((trieP wss).dep.take 0) ((trieP wss).wrd.take 0) ((trieP wss).byt.take 0) (.slice none 0 0) (.slice none 0 0) (.slice none 0 0) (.slice none 0 0) W5 := by
    rw [hW5]
    exact ⟨World.alloc_heap_new _ _, World.ownsRow_nil _ _ _ _, World.ownsRow_nil _ _ _ _, World.ownsRow_nil _ _ _ _, World.ownsRow_nil _ _ _ _, sep_nil _, sep_nil _, sep_nil _, sep_nil _, sep_nil _, sep_nil _⟩
  have hB5 : Below w4.heap.size w4 W5 := by rw [hW5]; exact below_alloc _ _
  rw [← hW5]
  clear hW5
  go_wp2
  go_loopw [6] (fun s6 wr => ∃ (i : Nat) (u d x b : Value), i ≤ n ∧ s6 = .int .i64 i ∧ MT w4.heap.size ((trieP wss).up.take i) ((trieP wss).dep.take i) ((trieP wss).wrd.take i) ((trieP wss).byt.take i) u d x b wr ∧ Below w4.heap.size w4 wr) (fun s _ => n - (intOf s).toNat)
  case atStart => exact ⟨0, _, _, _, _, Nat.zero_le _, rfl, hT0, hB5⟩
  case round =>
    clear hT0 hB5
    obtain ⟨i, u, d, x, b, hin, rfl, h, hBe⟩ := hrel
    by_cases hil : i < n
    · have hd : decide ((i : Int) < n) = true := by simp; omega
      obtain ⟨bb, off, aw, lw, cw, y, hbb, hbl, hcell, hy, hY, hlc⟩ := HN.out.at_ hil
      subst hbb
      have hc1 : wr.cell? ⟨bb, off + i, none⟩ = some (.slice aw lw cw) := (hBe.cell (p := ⟨bb, off + i, none⟩) hbl).trans hcell
      have HY := Lib.hid hy
      have HYB := Lib.hid hY
      have hlw : lw ≤ 1000 := by have := HNB.out y (List.mem_of_getElem? hy); rw [hY.len] at this; exact this
      have i1 : (0 : Int) ≤ (i : Int) := by omega
      have i2 : (i : Int) < (n : Int) := by omega
      obtain ⟨e1, e2, e3, e4⟩ := trie_at hy
      have E1 := Lib.hid e1
      have E2 := Lib.hid e2
      have E3 := Lib.hid e3
      have E4 := Lib.hid e4
      obtain ⟨l1, l2, l3, l4⟩ := trie_len wss i (by rw [HNN.out]; exact hin)
      clear e1 e2 e3 e4
      obtain ⟨U, hU⟩ : ∃ U, (trieP wss).up.take i = U := ⟨_, rfl⟩
      obtain ⟨D, hD⟩ : ∃ D, (trieP wss).dep.take i = D := ⟨_, rfl⟩
      obtain ⟨X, hX⟩ : ∃ X, (trieP wss).wrd.take i = X := ⟨_, rfl⟩
      obtain ⟨B, hB⟩ : ∃ B, (trieP wss).byt.take i = B := ⟨_, rfl⟩
      rw [hU] at h E1 l1
      rw [hD] at h E2 l2
      rw [hX] at h E3 l3
      rw [hB] at h E4 l4
      clear hU hD hX hB hy hY
      have hBA : Below w4.heap.size w4 wr := hBe
      go_upto_if 29 with fail
      go_cut [7, 8] (fun s7 s8 wx => s7 = .int .i64 (placeS (nodesL wss) y.dropLast) ∧ s8 = .int .u8 (lastB y) ∧ MT w4.heap.size U D X B u d x b wx ∧ Below w4.heap.size w4 wx)
      case first =>
        by_cases hz : lw = 0
        · subst hz
          have hy0 : y = [] := List.eq_nil_of_length_eq_zero HYB.out.len
          have HU := Lib.hid (up_zero (ws := wss) hy0)
          clear hy0
          go_wp2_with fail
          go_meet
          exact ⟨by rw [HU.out.1], by rw [HU.out.2], h, hBe⟩
        · obtain ⟨q, rfl⟩ : ∃ q, lw = q + 1 := ⟨lw - 1, by omega⟩
          have hd2 : decide ((0 : Int) < ((q + 1 : Nat) : Int)) = true := by simp
          have HDT := Lib.hid (dropLast_take HYB.out.len)
          have hNr := HN.out.below hBe
          have hTr : Bys wr aw q (y.take q) := (HYB.out.below hBe).take (by omega)
          have HP := Lib.hid (rplace7_any (some ⟨bb, off, none⟩) aw n cN q cw (nodesL wss) (y.take q) wr hNr hTr (by omega))
          obtain ⟨b2, o2, c, hb2, hl2, hcc, hc⟩ := sl1_at HYB.out.1 (show q < q + 1 by omega)
          have HLB := Lib.hid (lastB_at HYB.out.len hc)
          subst hb2
          clear hNr hTr hc
          go_wp2_with fail
          refine HP.out.mono ?_
          rintro e w6 ⟨rfl, hb6⟩
          have hBe6 : Below w4.heap.size w4 w6 := hBe.trans (hb6.mono hBe.size)
          have h6 := h.below hb6
          have hc2 : w6.cell? ⟨bb, off + i, none⟩ = some (.slice (some ⟨b2, o2, none⟩) (q + 1) cw) := (hBe6.cell (p := ⟨bb, off + i, none⟩) hbl).trans hcell
          have hc3 : w6.cell? ⟨b2, o2 + q, none⟩ = some (.int .u8 c) := (hBe6.cell (p := ⟨b2, o2 + q, none⟩) hl2).trans hcc
          have i3 : (0 : Int) ≤ (q : Int) := by omega
          have i4 : (q : Int) < ((q + 1 : Nat) : Int) := by omega
          clear hc1 hBe hb6 h
          go_wp2_with fail
          go_meet
          exact ⟨by rw [HDT.out], by rw [HLB.out], h6, hBe6⟩
      case rest =>
        obtain ⟨rfl, rfl, h, hBe⟩ := hcut
        clear hc1 hBA
        obtain ⟨P1, hP1⟩ : ∃ P, placeS (nodesL wss) y.dropLast = P := ⟨_, rfl⟩
        obtain ⟨P2, hP2⟩ : ∃ P, lastB y = P := ⟨_, rfl⟩
        rw [hP1] at E1 ⊢
        rw [hP2] at E4 ⊢
        clear hP1 hP2
        have hlU : U.length ≤ 2049 := by omega
        have hlD : D.length ≤ 2049 := by omega
        have hlX : X.length ≤ 2049 := by omega
        have hlB : B.length ≤ 2049 := by omega
        clear l1 l2 l3 l4
        obtain ⟨au, cu, rfl, _, _⟩ := own_sl1 h.up
        obtain ⟨ad, cd, rfl, _, _⟩ := own_sl1 h.dep
        obtain ⟨ax, cx, rfl, _, _⟩ := own_sl1 h.wrd
        obtain ⟨ab, cb, rfl, _, _⟩ := own_sl1 h.byt
        obtain ⟨⟨c0, c1, c2, c3⟩, cf⟩ := h.cells
        go_upto_region 14 with (at_builtin; refine wpList_append_own_at _ rfl _ _ 37 rfl (w4.heap.size + 1) 3 iI (.int .i64 0) 1 8 Try.underlying37 hi hz0 hz1 hz2 rfl (by decide) _ _ _ rfl (h.up.alloc _) ⟨wc.heap.size, 0, none⟩ 1 1 [.int .i64 P1] rfl rfl (cells_new _ _ (by simp)) (by simp [Value.oneCell']) (by unfold maxLen; omega) (by omega) (by have := h.lt; simp; omega) ?_; intro v7 v7w hown7 hg7 hnil7 hat7; obtain ⟨g7, cp7, rfl⟩ := ownsRow_succ hown7; obtain ⟨⟨e70, e71, e72, e73⟩, fz7⟩ := h.cz _ hg7 (row_nm h.up (Nat.lt_succ_self _)))
        obtain ⟨h', hl'⟩ := h.put_u _ hown7 hg7 hat7
        have hBe' := hBe.trans hl'
        clear e70 e71 e72 e73 c0 c1 c2 c3 cf hown7 hg7 hnil7 hat7 hl' fz7 h hBe
        have h := h'
        have hBe := hBe'
        clear h' hBe'
        obtain ⟨Y7, hY⟩ : ∃ Y, Y = v7w.setCell ⟨w4.heap.size, 0, none⟩ (.slice (some ⟨g7, 0, none⟩) (U.length + 1) cp7) := ⟨_, rfl⟩
        rw [← hY] at h hBe ⊢
        clear hY v7w
        obtain ⟨⟨c0, c1, c2, c3⟩, cf⟩ := h.cells
        go_upto_region 15 with (at_builtin; refine wpList_append_own_at _ rfl _ _ 47 rfl (w4.heap.size + 1) 5 iU (.int .u8 0) 1 1 Try.underlying47 hj hy0 hy1 hy2 rfl (by decide) _ _ _ rfl (h.byt.alloc _) ⟨Y7.heap.size, 0, none⟩ 1 1 [.int .u8 P2] rfl rfl (cells_new _ _ (by simp)) (by simp [Value.oneCell']) (by unfold maxLen; omega) (by omega) (by have := h.lt; simp; omega) ?_; intro v8 v8w hown8 hg8 hnil8 hat8; obtain ⟨g8, cp8, rfl⟩ := ownsRow_succ hown8; obtain ⟨⟨e80, e81, e82, e83⟩, fz8⟩ := h.cz _ hg8 (row_nm h.byt (Nat.lt_succ_self _)))
        obtain ⟨h', hl'⟩ := h.put_b _ hown8 hg8 hat8
        have hBe' := hBe.trans hl'
        clear e80 e81 e82 e83 c0 c1 c2 c3 cf hown8 hg8 hnil8 hat8 hl' fz8 h hBe
        have h := h'
        have hBe := hBe'
        clear h' hBe'
        obtain ⟨Y8, hY⟩ : ∃ Y, Y = v8w.setCell ⟨w4.heap.size, 3, none⟩ (.slice (some ⟨g8, 0, none⟩) (B.length + 1) cp8) := ⟨_, rfl⟩
        rw [← hY] at h hBe ⊢
        clear hY v8w
        obtain ⟨⟨c0, c1, c2, c3⟩, cf⟩ := h.cells
        go_upto_region 16 with (at_builtin; refine wpList_append_own_at _ rfl _ _ 37 rfl (w4.heap.size + 1) 3 iI (.int .i64 0) 1 8 Try.underlying37 hi hz0 hz1 hz2 rfl (by decide) _ _ _ rfl (h.dep.alloc _) ⟨Y8.heap.size, 0, none⟩ 1 1 [.int .i64 (lw : Int)] rfl rfl (cells_new _ _ (by simp)) (by simp [Value.oneCell']) (by unfold maxLen; omega) (by omega) (by have := h.lt; simp; omega) ?_; intro v9 v9w hown9 hg9 hnil9 hat9; obtain ⟨g9, cp9, rfl⟩ := ownsRow_succ hown9; obtain ⟨⟨e90, e91, e92, e93⟩, fz9⟩ := h.cz _ hg9 (row_nm h.dep (Nat.lt_succ_self _)))
        obtain ⟨h', hl'⟩ := h.put_d _ hown9 hg9 hat9
        have hBe' := hBe.trans hl'
        clear e90 e91 e92 e93 c0 c1 c2 c3 cf hown9 hg9 hnil9 hat9 hl' fz9 h hBe
        have h := h'
        have hBe := hBe'
        clear h' hBe'
        obtain ⟨Y9, hY⟩ : ∃ Y, Y = v9w.setCell ⟨w4.heap.size, 1, none⟩ (.slice (some ⟨g9, 0, none⟩) (D.length + 1) cp9) := ⟨_, rfl⟩
        rw [← hY] at h hBe ⊢
        clear hY v9w
        obtain ⟨⟨c0, c1, c2, c3⟩, cf⟩ := h.cells
        have hlt := h.lt
        have HS1 : Y9.cell? ⟨w.heap.size, 1, none⟩ = some (.slice a la ca) := (hBe.cell (p := ⟨w.heap.size, 1, none⟩) (by show w.heap.size < w4.heap.size; omega)).trans (by simp [World.cell?, k0])
        have hc1 : Y9.cell? ⟨bb, off + i, none⟩ = some (.slice aw lw cw) := (hBe.cell (p := ⟨bb, off + i, none⟩) hbl).trans hcell
        have hdd : Below Y9.heap.size Y9 Y9.drew := bel_drewN Y9 1
        have HP := Lib.hid (rplace7_any a aw la ca lw cw wss y Y9.drew ((HA4.out.below hBe).below hdd) ((HYB.out.below hBe).below hdd) (by omega))
        obtain ⟨Z, hZ⟩ : ∃ Z, placeS wss y = Z := ⟨_, rfl⟩
        rw [hZ] at E3 HP
        clear hZ
        go_wp2
        go_region_law (first
          | (go_simp; go_at_call 63; refine HP.out.mono ?_; rintro e w3 ⟨rfl, hb3⟩
             have hB3 : Below Y9.heap.size Y9 w3 := hdd.trans hb3
             have h3 := h.below hB3
             have hBe3 : Below w4.heap.size w4 w3 := hBe.trans (hB3.mono hBe.size)
             obtain ⟨⟨c30, c31, c32, c33⟩, cf3⟩ := h3.cells
             have hl3 : w4.heap.size < w3.heap.size := h3.lt
             have s14 : (w3.alloc (.cells #[.int .i64 Z] 3)).cell? ⟨w4.heap.size, 2, none⟩ = some (.slice ax X.length cx) := by rw [World.cell?_alloc_lt _ _ _ hl3]; exact c32
             have hl3b : w4.heap.size ≠ w3.heap.size := by omega
             have hl3c : w3.heap.size ≠ w4.heap.size := by omega
             dsimp only)
          | (refine step_append_lies _ (by rfl) _ _ 37 (by rfl) (w4.heap.size + 1) 3 iI (.int .i64 0) 1 8 Try.underlying37 hi hz0 hz1 hz2 rfl (by decide) (.slice ax X.length cx) X.length (X.map (Value.int .i64)) (by rfl) (h3.wrd.alloc _) ⟨w3.heap.size, 0, none⟩ 1 1 [.int .i64 Z] (by rfl) rfl (cell_one_new _ _ _) (by simp [Value.oneCell']) (by decide) (by unfold maxLen; omega) (by omega) (by simp; omega) _ rfl ?_
             intro g10 cp10 v10w hown10 hg10 hat10 hl10
             obtain ⟨⟨q0, q1, q2, q3⟩, qf⟩ := h3.cz _ hg10 (row_nm h3.wrd (Nat.lt_succ_self _))))
        all_goals
          go_wp2
          obtain ⟨h', hl'⟩ := h3.put_x (z := Z) (.cells #[.int .i64 Z] 3) hown10 hg10 (hat10.elim (fun e => .inl e.symm) (fun e => .inr (by rw [e]; rfl)))
          have hBe' := hBe3.trans hl'
          go_roundw
          case rel => exact ⟨i + 1, _, _, _, _, by omega, by go_num, by rw [E1.out, E2.out, E3.out, E4.out, HYB.out.len]; exact h', hBe'⟩
          case measure => simp [intOf]; omega
    · obtain rfl : i = n := by omega
      have hd : decide ((i : Int) < i) = false := by simp
      obtain ⟨e1, e2, e3, e4⟩ := trie_all wss
      rw [HNN.out] at e1 e2 e3 e4
      rw [e1, e2, e3, e4] at h
      obtain ⟨au, cu, rfl, hcu, rU⟩ := own_sl1 h.up
      obtain ⟨ad, cd, rfl, hcd, rD⟩ := own_sl1 h.dep
      obtain ⟨ax, cx, rfl, hcx, rX⟩ := own_sl1 h.wrd
      obtain ⟨ab, cb, rfl, hcb, rB⟩ := own_sl1 h.byt
      obtain ⟨⟨c0, c1, c2, c3⟩, cf⟩ := h.cells
      have j1 : wr.heap[w.heap.size + 1]? = some (.cells nil4 49 (0, 0)) := (hBe.block _ hsz4).trans k1
      have q0 : wr.cell? ⟨w.heap.size + 1, 0, none⟩ = some (.slice none 0 0) := by simp [World.cell?, j1]
      have q1 : wr.cell? ⟨w.heap.size + 1, 1, none⟩ = some (.slice none 0 0) := by simp [World.cell?, j1]
      have q2 : wr.cell? ⟨w.heap.size + 1, 2, none⟩ = some (.slice none 0 0) := by simp [World.cell?, j1]
      have q3 : wr.cell? ⟨w.heap.size + 1, 3, none⟩ = some (.slice none 0 0) := by simp [World.cell?, j1]
      have f0 : ∀ k, wr.frozen? ⟨w.heap.size + 1, k, none⟩ = false := fun k => by simp [World.frozen?, j1]
      have hz2 := set_at (i := 3) (set_at (i := 2) (set_at (i := 1) (set_at (i := 0) j1 (.slice au (trieP wss).up.length cu)) (.slice ad (trieP wss).dep.length cd)) (.slice ax (trieP wss).wrd.length cx)) (.slice ab (trieP wss).byt.length cb)
      have HZ := Lib.hid hz2
      have hBw : Below w.heap.size w wr := hB4.trans (hBe.mono hB4.size)
      have st : ∀ {V : World} (k : Nat) (u : Value), MT w4.heap.size (trieP wss).up (trieP wss).dep (trieP wss).wrd (trieP wss).byt (.slice au (trieP wss).up.length cu) (.slice ad (trieP wss).dep.length cd) (.slice ax (trieP wss).wrd.length cx) (.slice ab (trieP wss).byt.length cb) V → MT w4.heap.size (trieP wss).up (trieP wss).dep (trieP wss).wrd (trieP wss).byt (.slice au (trieP wss).up.length cu) (.slice ad (trieP wss).dep.length cd) (.slice ax (trieP wss).wrd.length cx) (.slice ab (trieP wss).byt.length cb) (V.setCell ⟨w.heap.size + 1, k, none⟩ u) := fun k u hV =>
        ⟨(Below.heap_setCell _ _ _ _ (by show w4.heap.size ≠ w.heap.size + 1; omega)).trans hV.box, row_set hV.up (by omega) _, row_set hV.dep (by omega) _, row_set hV.wrd (by omega) _, row_set hV.byt (by omega) _, hV.s1, hV.s2, hV.s3, hV.s4, hV.s5, hV.s6⟩
      have HF := Lib.hid (st 3 (.slice ab (trieP wss).byt.length cb) (st 2 (.slice ax (trieP wss).wrd.length cx) (st 1 (.slice ad (trieP wss).dep.length cd) (st 0 (.slice au (trieP wss).up.length cu) h))))
      have HBF := Lib.hid ((((hBw.setCell (p := ⟨w.heap.size + 1, 0, none⟩) (by show w.heap.size ≤ w.heap.size + 1; omega) (.slice au (trieP wss).up.length cu)).setCell (p := ⟨w.heap.size + 1, 1, none⟩) (by show w.heap.size ≤ w.heap.size + 1; omega) (.slice ad (trieP wss).dep.length cd)).setCell (p := ⟨w.heap.size + 1, 2, none⟩) (by show w.heap.size ≤ w.heap.size + 1; omega) (.slice ax (trieP wss).wrd.length cx)).setCell (p := ⟨w.heap.size + 1, 3, none⟩) (by show w.heap.size ≤ w.heap.size + 1; omega) (.slice ab (trieP wss).byt.length cb))
      have HCP := Lib.hid (And.intro hcu (And.intro hcd (And.intro hcx hcb)))
      clear h hz2 hBw st rU rD rX rB hBe e1 e2 e3 e4
      go_wp2
      refine bodyPost_ret (results_trie rfl rfl (by simpa using HZ.out)) rfl ?_
      exact ⟨⟨au, (trieP wss).up.length, cu, ad, (trieP wss).dep.length, cd, ax, (trieP wss).wrd.length, cx, ab, (trieP wss).byt.length, cb⟩, rfl, ⟨own_sl HF.out.up, own_sl HF.out.dep, own_sl HF.out.wrd, ⟨own_sl HF.out.byt, trieP_bd HBY.out⟩, HCP.out⟩, HBF.out⟩

end Go.Proofs.Ytifcoalhkcflnaa

/- The trie of he, she, her; ends; a set's small trie (layer 8's laws): walked. -/



namespace Go.Proofs.Ytifcoalhkcflnaa
open Go.RowKit Go.Sort
set_option linter.unusedVariables false
set_option linter.unusedSimpArgs false

theorem he_right : rightP false heW = true := by decide +kernel
theorem he_read : readP (trieP heW) = some (nodesL heW, heW) := readP_iff.2 ⟨he_right, rfl, rfl⟩
theorem he_trie : (trieP heW).up.length = 7 ∧ (trieP heW).dep.length = 7 ∧ (trieP heW).wrd.length = 7 ∧ (trieP heW).byt.length = 7 := by decide +kernel

/-- What a slice of numbers reads lies in no box of slices: such a box may turn. -/
theorem Sl1.turn {k : IntKind} {W V : World} {a : Option Addr} {n Q : Nat} {xs : List Int} {cs : Array Value} {t : TypeId} {fr : Nat × Nat} (h : Sl1 (Value.int k) W a n xs) (hQ : W.heap[Q]? = some (.cells cs t fr)) (hcs : ∀ (i : Nat) (x : Int), cs[i]? ≠ some (.int k x))
    (hk : ∀ j, j ≠ Q → j < W.heap.size → V.heap[j]? = W.heap[j]?) (hs : W.heap.size ≤ V.heap.size) : Sl1 (Value.int k) V a n xs := by
  refine ⟨h.1, ?_⟩
  rcases h.2 with h0 | ⟨b, off, e, hlt, hc⟩
  · exact .inl h0
  · refine .inr ⟨b, off, e, Nat.lt_of_lt_of_le hlt hs, fun i x hx => ?_⟩
    have h1 := hc i x hx
    have hb : b ≠ Q := by
      rintro rfl
      simp only [World.cell?, hQ] at h1
      exact hcs _ x h1
    rw [← h1]
    exact World.cell?_of_block (hk b hb hlt)
theorem Tri.turn {W V : World} {Q : Nat} {t : TV} {T : TrieT} {cs : Array Value} {ty : TypeId} {fr : Nat × Nat} (h : Tri W t T) (hQ : W.heap[Q]? = some (.cells cs ty fr)) (hcs : ∀ (k : IntKind) (i : Nat) (x : Int), cs[i]? ≠ some (.int k x))
    (hk : ∀ j, j ≠ Q → j < W.heap.size → V.heap[j]? = W.heap[j]?) (hs : W.heap.size ≤ V.heap.size) : Tri V t T :=
  ⟨h.up.turn hQ (hcs _) hk hs, h.dep.turn hQ (hcs _) hk hs, h.wrd.turn hQ (hcs _) hk hs, ⟨h.byt.1.turn hQ (hcs _) hk hs, h.byt.2⟩, h.cap⟩
theorem nil4_noint (k : IntKind) (i : Nat) (x : Int) : nil4[i]? ≠ some (.int k x) := by
  intro h
  rcases i with _ | _ | _ | _ | i <;> simp at h
set_option maxRecDepth 100000 in
set_option maxHeartbeats 2000000 in
theorem she8_any (w : World) : Calls Try.prog 55 #[] w fun e w' => ∃ t : TV, e = .returned (.agg t.cells) ∧ Tri w' t (trieP heW) ∧ t.un = 7 ∧ Below w.heap.size w w' := by
  have kc := conv_lit
  go_enter Try.func55, Try.ntmps55
  go_wp2_with fail
  clear kc
  obtain ⟨A1, hA1⟩ : ∃ A1, A1 = w.alloc (.cells nil4 49) := ⟨_, rfl⟩
  rw [← hA1]
  have z1 : A1.heap.size = w.heap.size + 1 := by rw [hA1]; simp
  have n1 : A1.heap[w.heap.size]? = some (.cells nil4 49 (0, 0)) := by rw [hA1]; exact World.alloc_heap_new _ _
  have B1 : Below w.heap.size w A1 := by rw [hA1]; exact below_alloc _ _
  clear hA1
  obtain ⟨A2, hA2⟩ : ∃ A2, A2 = A1.alloc (.cells #[.int .u8 104, .int .u8 101] 5 (2, 3)) := ⟨_, rfl⟩
  rw [← hA2]
  have z2 : A2.heap.size = w.heap.size + 1 + 1 := by rw [hA2]; simp [z1]
  have y1 : Bys A2 (some ⟨w.heap.size + 1, 0, none⟩) 2 [104, 101] := by rw [hA2]; exact bys_lay [104, 101] (by simp) _ _ z1
  have B2 : Below A1.heap.size A1 A2 := by rw [hA2]; exact below_alloc _ _
  clear hA2
  obtain ⟨A3, hA3⟩ : ∃ A3, A3 = A2.alloc (.cells #[.int .u8 115, .int .u8 104, .int .u8 101] 5 (3, 4)) := ⟨_, rfl⟩
  rw [← hA3]
  have z3 : A3.heap.size = w.heap.size + 1 + 1 + 1 := by rw [hA3]; simp [z2]
  have y2 : Bys A3 (some ⟨w.heap.size + 1 + 1, 0, none⟩) 3 [115, 104, 101] := by rw [hA3]; exact bys_lay [115, 104, 101] (by simp) _ _ z2
  have B3 : Below A2.heap.size A2 A3 := by rw [hA3]; exact below_alloc _ _
  clear hA3
  obtain ⟨A4, hA4⟩ : ∃ A4, A4 = A3.alloc (.cells #[.int .u8 104, .int .u8 101, .int .u8 114] 5 (3, 4)) := ⟨_, rfl⟩
  rw [← hA4]
  have z4 : A4.heap.size = w.heap.size + 1 + 1 + 1 + 1 := by rw [hA4]; simp [z3]
  have y3 : Bys A4 (some ⟨w.heap.size + 1 + 1 + 1, 0, none⟩) 3 [104, 101, 114] := by rw [hA4]; exact bys_lay [104, 101, 114] (by simp) _ _ z3
  have B4 : Below A3.heap.size A3 A4 := by rw [hA4]; exact below_alloc _ _
  clear hA4
  obtain ⟨A5, hA5⟩ : ∃ A5, A5 = A4.alloc (.cells #[.slice (some ⟨w.heap.size + 1, 0, none⟩) 2 2, .slice (some ⟨w.heap.size + 1 + 1, 0, none⟩) 3 3, .slice (some ⟨w.heap.size + 1 + 1 + 1, 0, none⟩) 3 3] 47) := ⟨_, rfl⟩
  rw [← hA5]
  have y4 : Sl1 (fun v : Option Addr × Nat × Nat => Value.slice v.1 v.2.1 v.2.2) A5 (some ⟨w.heap.size + 1 + 1 + 1 + 1, 0, none⟩) 3 [(some ⟨w.heap.size + 1, 0, none⟩, 2, 2), (some ⟨w.heap.size + 1 + 1, 0, none⟩, 3, 3), (some ⟨w.heap.size + 1 + 1 + 1, 0, none⟩, 3, 3)] := by
    rw [hA5]
    exact Sl1.lay (α := Option Addr × Nat × Nat) _ A4 [(some ⟨w.heap.size + 1, 0, none⟩, 2, 2), (some ⟨w.heap.size + 1 + 1, 0, none⟩, 3, 3), (some ⟨w.heap.size + 1 + 1 + 1, 0, none⟩, 3, 3)] _ _ z4
  have B5 : Below A4.heap.size A4 A5 := by rw [hA5]; exact below_alloc _ _
  clear hA5
  have hW : Wds A5 (some ⟨w.heap.size + 1 + 1 + 1 + 1, 0, none⟩) 3 heW := wds3 y4 (((y1.below B3).below B4).below B5) ((y2.below B4).below B5) (y3.below B5) (Nat.le_refl _) (Nat.le_refl _) (Nat.le_refl _)
  have n5 : A5.heap[w.heap.size]? = _ := (B5.block _ (by omega)).trans ((B4.block _ (by omega)).trans ((B3.block _ (by omega)).trans ((B2.block _ (by omega)).trans n1)))
  have hB5 : Below w.heap.size w A5 := B1.trans ((B2.trans ((B3.trans ((B4.trans (B5.mono (by omega))).mono (by omega))).mono (by omega))).mono (by omega))
  have HC := Lib.hid (rmake7_yes false (some ⟨w.heap.size + 1 + 1 + 1 + 1, 0, none⟩) 3 3 heW A5 hW he_right)
  clear y1 y2 y3 y4 B2 B3 B4 B5 n1 z1 z2 z3 z4 hW
  refine HC.out.mono ?_
  rintro e w6 ⟨t, rfl, hT, hb6⟩
  have n6 : w6.heap[w.heap.size]? = some (.cells nil4 49 (0, 0)) := (hb6.block _ (Array.getElem?_eq_some_iff.1 n5).1).trans n5
  have hB6 := hB5.trans (hb6.mono hB5.size)
  have hun : t.un = 7 := by have := hT.up.1; rw [he_trie.1] at this; exact this.symm
  obtain ⟨ua, un, uc, da, dn, dc, xa, xn, xc, ba, bn, bc⟩ := t
  dsimp only at hun
  subst hun
  have HT := Lib.hid hT
  clear hT n5 hB5 hb6 HC
  have hlt : w.heap.size < w6.heap.size := (Array.getElem?_eq_some_iff.1 n6).1
  have q0 : w6.cell? ⟨w.heap.size, 0, none⟩ = some (.slice none 0 0) := by simp [World.cell?, n6]
  have q1 : w6.cell? ⟨w.heap.size, 1, none⟩ = some (.slice none 0 0) := by simp [World.cell?, n6]
  have q2 : w6.cell? ⟨w.heap.size, 2, none⟩ = some (.slice none 0 0) := by simp [World.cell?, n6]
  have q3 : w6.cell? ⟨w.heap.size, 3, none⟩ = some (.slice none 0 0) := by simp [World.cell?, n6]
  have f0 : ∀ i, w6.frozen? ⟨w.heap.size, i, none⟩ = false := fun i => by simp [World.frozen?, n6]
  go_wp2
  obtain ⟨V, hV⟩ : ∃ V, V = (((w6.setCell ⟨w.heap.size, 0, none⟩ (.slice ua 7 uc)).setCell ⟨w.heap.size, 1, none⟩ (.slice da dn dc)).setCell ⟨w.heap.size, 2, none⟩ (.slice xa xn xc)).setCell ⟨w.heap.size, 3, none⟩ (.slice ba bn bc) := ⟨_, rfl⟩
  rw [← hV]
  have hz2 : V.heap[w.heap.size]? = some (.cells #[.slice ua 7 uc, .slice da dn dc, .slice xa xn xc, .slice ba bn bc] 49 (0, 0)) := by
    rw [hV]
    simpa using set_at (i := 3) (set_at (i := 2) (set_at (i := 1) (set_at (i := 0) n6 (.slice ua 7 uc)) (.slice da dn dc)) (.slice xa xn xc)) (.slice ba bn bc)
  have far : ∀ j, j ≠ w.heap.size → j < w6.heap.size → V.heap[j]? = w6.heap[j]? := fun j hj _ => by
    rw [hV]
    exact (Below.heap_setCell _ _ _ _ (by show j ≠ w.heap.size; exact hj)).trans ((Below.heap_setCell _ _ _ _ (by show j ≠ w.heap.size; exact hj)).trans ((Below.heap_setCell _ _ _ _ (by show j ≠ w.heap.size; exact hj)).trans (Below.heap_setCell _ _ _ _ (by show j ≠ w.heap.size; exact hj))))
  have hT5 := HT.out.turn n6 nil4_noint far (by rw [hV]; simp)
  have hB7 : Below w.heap.size w V := by
    rw [hV]
    exact (((hB6.setCell (p := ⟨w.heap.size, 0, none⟩) (Nat.le_refl _) (.slice ua 7 uc)).setCell (p := ⟨w.heap.size, 1, none⟩) (Nat.le_refl _) (.slice da dn dc)).setCell (p := ⟨w.heap.size, 2, none⟩) (Nat.le_refl _) (.slice xa xn xc)).setCell (p := ⟨w.heap.size, 3, none⟩) (Nat.le_refl _) (.slice ba bn bc)
  clear hV
  refine bodyPost_ret (results_cell_row rfl _ _ w.heap.size _ _ _ _ rfl ((Below.heap_alloc _ _ _ (Array.getElem?_eq_some_iff.1 hz2).1).trans hz2) Try.underlying49 rfl (by kernel_rfl)) rfl ?_
  exact ⟨⟨ua, 7, uc, da, dn, dc, xa, xn, xc, ba, bn, bc⟩, rfl, hT5.below (below_alloc _ _), rfl, hB7.alloc hB7.size _⟩

set_option maxRecDepth 100000 in
set_option maxHeartbeats 2000000 in
theorem ends8_any (a b : Option Addr) (la ca lb cb : Nat) (x y : List Int) (w : World) (hA : Bys w a la x) (hB : Bys w b lb y) (hla : la ≤ 4611686018427387904) (hca : la ≤ ca) :
    Calls Try.prog 27 #[.slice a la ca, .slice b lb cb] w fun e w' => e = .returned (.bool (endsB x y)) ∧ Below w.heap.size w w' := by
  have HA := Lib.hid hA.len
  have HB := Lib.hid hB.len
  by_cases hl : lb ≤ la
  · obtain ⟨d, hd⟩ : ∃ d, la - lb = d := ⟨_, rfl⟩
    have hdd : decide ((lb : Int) ≤ la) = true := by simp; omega
    have hsub : (la : Int) - (lb : Int) = (d : Int) := by omega
    have hR := hA.rest (n := d) (by omega) hca
    have hlen : la - d = lb := by omega
    obtain ⟨v, hv⟩ : ∃ v, (if ca = d then a else Option.map (fun x => x.add d) a) = v := ⟨_, rfl⟩
    rw [hv] at hR
    have f4 := fun d' os => conv_bys (hR.below (below_regrown w d' os)) (ca - d)
    have f5 := fun d' os => conv_bys (hB.below (below_regrown w d' os)) cb
    have HE := Lib.hid (str_beq hR.2 hB.2)
    have HF : Hid (endsB x y = decide (x.drop d = y)) := by
      unfold Hid endsB
      rw [HA.out, HB.out, hd, decide_eq_true hl, Bool.true_and]
    obtain ⟨B, hBd⟩ : ∃ B, decide (x.drop d = y) = B := ⟨_, rfl⟩
    have hq : ((strOfNums (x.drop d)).toList == (strOfNums y).toList) = B := by rw [HE.out, ← hBd]
    have HBD := Lib.hid hBd
    have i1 : (0 : Int) ≤ (d : Int) := by omega
    have i2 : (d : Int) ≤ (la : Int) := by omega
    clear hA hB hR hBd hd hlen
    go_enter Try.func27, Try.ntmps27
    go_wp2
    refine wp_region_quiet_below mixed (by kernel_rfl) ?_
    repeat (go_big_quiet_step (fail))
    refine wpQuiet_nil ?_
    rintro _ ⟨⟨dq, osq⟩, rfl⟩
    go_wp2
    go_ret
    rw [HF.out, HBD.out]
    exact ⟨rfl, below_regrown w dq osq⟩
  · have hdd : decide ((lb : Int) ≤ la) = false := by simp; omega
    have HF : Hid (endsB x y = false) := by
      unfold Hid endsB
      rw [HA.out, HB.out, decide_eq_false hl, Bool.false_and]
    clear hA hB
    go_enter Try.func27, Try.ntmps27
    go_wp2
    refine wp_region_quiet_below mixed (by kernel_rfl) ?_
    repeat (go_big_quiet_step (fail))
    refine wpQuiet_nil ?_
    rintro _ ⟨⟨dq, osq⟩, rfl⟩
    go_wp2
    go_ret
    rw [HF.out]
    exact ⟨rfl, below_regrown w dq osq⟩

end Go.Proofs.Ytifcoalhkcflnaa

/- A set's small trie (layer 8's laws): walked. -/

namespace Go.Proofs.Ytifcoalhkcflnaa
open Go.RowKit Go.Sort
set_option linter.unusedVariables false
set_option linter.unusedSimpArgs false

def smallB (fold : Bool) (wss : List (List Int)) : Bool := !greatP wss && rightP fold wss && decide ((nodesL wss).length ≤ 120)
theorem gr8_bd {wss : List (List Int)} (h : greatP wss = false) (fold : Bool) : wss.length ≤ 80 ∧ (∀ x ∈ wss, x.length ≤ 3000) ∧ (begL fold wss).length ≤ 3000 := by
  unfold greatP at h
  have h := of_decide_eq_false h
  have h1 : wss.length ≤ 80 := by omega
  have h2 : gsum wss ≤ 3000 := by omega
  have key : ∀ (l : List (List Int)), gsum l ≤ 3000 → (∀ x ∈ l, x.length ≤ 3000) ∧ ((begL fold l).length : Int) = gsum l := by
    intro l
    induction l with
    | nil => intro _; exact ⟨by simp, by simp [begL, gsum]⟩
    | cons x l ih =>
      intro hg
      have e : gsum (x :: l) = min (x.length : Int) 4000 + gsum l := by simp [gsum]
      have hn := gsum_nonneg l
      rw [e] at hg ⊢
      obtain ⟨i1, i2⟩ := ih (by omega)
      refine ⟨fun y hy => ?_, ?_⟩
      · rcases List.mem_cons.1 hy with rfl | hy
        · omega
        · exact i1 y hy
      · have e2 : begL fold (x :: l) = begW (foldL fold x) ++ begL fold l := by simp [begL]
        rw [e2, List.length_append, begW_length, foldL_length]
        omega
  obtain ⟨k1, k2⟩ := key wss h2
  exact ⟨h1, k1, by omega⟩

theorem results_trie3 {fn : Func} {p u v : Tmp} {tmps : Array Value} {W : World} {B : Nat} (h : fn.results = #[.cell p 49, .tmp u, .tmp v]) (hp : tmps.getD p undef = .pointer (some ⟨B, 0, none⟩)) {x y z s : Value} (hB : W.heap[B]? = some (.cells #[x, y, z, s] 49 (0, 0))) :
    (results fn tmps).run Try.prog W = .ok (.tuple #[.agg #[x, y, z, s], tmps.getD u undef, tmps.getD v undef]) W := by
  have hl : (loadVar 49 ⟨B, 0, none⟩).run Try.prog W = .ok (.agg #[x, y, z, s]) W := run_loadVar_row W B 49 49 #[x, y, z, s] (0, 0) _ hB Try.underlying49 rfl (by kernel_rfl)
  have hp' : tmps[p]?.getD undef = .pointer (some ⟨B, 0, none⟩) := by simpa using hp
  simp [results, h, hp', asAddr]
  rw [hl]
  simp [Result.andThen]

theorem Wds.turn {W V : World} {Q n : Nat} {a : Option Addr} {l : List (List Int)} {t : TypeId} {fr : Nat × Nat} (h : Wds W a n l) (hQ : W.heap[Q]? = some (.cells nil4 t fr)) (hx : ∃ x ∈ l, x ≠ [])
    (hk : ∀ j, j ≠ Q → j < W.heap.size → V.heap[j]? = W.heap[j]?) (hs : W.heap.size ≤ V.heap.size) : Wds V a n l := by
  obtain ⟨vs, ⟨h1, h2⟩, h3, h4⟩ := h
  have row : ∀ (i : Nat) (v : Option Addr × Nat × Nat) (x : List Int), vs[i]? = some v → l[i]? = some x → Bys V v.1 v.2.1 x ∧ v.2.1 ≤ v.2.2 := fun i v x hv hx => by
    obtain ⟨h5, h6⟩ := h4 i v x hv hx
    exact ⟨⟨h5.1.turn hQ (nil4_noint _) hk hs, h5.2⟩, h6⟩
  obtain ⟨x, hxm, hx0⟩ := hx
  obtain ⟨i, hi⟩ := List.getElem?_of_mem hxm
  have hil := (List.getElem?_eq_some_iff.1 hi).1
  obtain ⟨v, hv⟩ : ∃ v, vs[i]? = some v := ⟨vs[i]'(by omega), by simp⟩
  refine ⟨vs, ⟨h1, ?_⟩, h3, row⟩
  rcases h2 with h2 | ⟨b, off, e, hlt, hc⟩
  · exact .inl h2
  · have hb : b ≠ Q := by
      rintro rfl
      have h5 := hc i v hv
      simp only [World.cell?, hQ] at h5
      have h6 : v.2.1 = 0 := by
        rcases hoi : off + i with _ | _ | _ | _ | k <;> rw [hoi] at h5 <;> simp at h5 <;> omega
      have h7 := (h4 i v x hv hi).1.len
      rw [h6] at h7
      exact hx0 (List.eq_nil_of_length_eq_zero h7)
    exact .inr ⟨b, off, e, Nat.lt_of_lt_of_le hlt hs, fun k u hu => (World.cell?_of_block (hk b hb hlt)).trans (hc k u hu)⟩
theorem right_node {wss : List (List Int)} {fold : Bool} (h : rightP fold wss = true) : ∃ x ∈ nodesL wss, x ≠ [] := by
  obtain ⟨r1, r2, r3, r4, r5, r6⟩ := right_spec h
  obtain ⟨x, hx⟩ : ∃ x, x ∈ wss := by
    cases wss with
    | nil => simp at r2
    | cons x l => exact ⟨x, by simp⟩
  have := (r3 x hx).1
  refine ⟨x, (mem_nodesL wss).2 (.inr ⟨x, hx, x.length, by omega, Nat.le_refl _, by simp⟩), fun e => by rw [e] at this; simp at this⟩

set_option maxRecDepth 100000 in
set_option maxHeartbeats 4000000 in
theorem small8_no (fold : Bool) (a : Option Addr) (la ca : Nat) (wss : List (List Int)) (w : World) (hA : Wds w a la wss) (hs : smallB fold wss = false) :
    Calls Try.prog 24 #[.agg (setV fold a la ca)] w fun e w' => e = .returned (.tuple #[.agg nil4, .slice none 0 0, .bool false]) ∧ Below w.heap.size w w' := by
  have HL := Lib.hid hA.len
  obtain ⟨W, hW⟩ : ∃ W, W = (w.alloc (.cells (setV fold a la ca) 24)).alloc (.cells nil4 49) := ⟨_, rfl⟩
  have hB : Below w.heap.size w W := by rw [hW]; exact (below_alloc _ _).alloc (by simp) _
  have hO : Bx w.heap.size [.cells (setV fold a la ca) 24, .cells nil4 49] W := by rw [hW]; exact ((Bx.nil _ w).snoc _ rfl).snoc _ (by simp)
  have s0 : W.cell? ⟨w.heap.size, 0, none⟩ = some (.bool fold) := hO.cell (i := 0) rfl rfl
  have s1 : W.cell? ⟨w.heap.size, 1, none⟩ = some (.slice a la ca) := hO.cell (i := 0) rfl rfl
  have HG := Lib.hid (great5_any fold a la ca wss W (hA.below hB))
  obtain ⟨G, hG⟩ : ∃ G, greatP wss = G := ⟨_, rfl⟩
  rw [hG] at HG
  have fin : ∀ V : World, Below w.heap.size w V → Bx w.heap.size [.cells (setV fold a la ca) 24, .cells nil4 49] V →
      (V.cell? ⟨w.heap.size + 1, 0, none⟩ = some (.slice none 0 0) ∧ V.cell? ⟨w.heap.size + 1, 1, none⟩ = some (.slice none 0 0) ∧ V.cell? ⟨w.heap.size + 1, 2, none⟩ = some (.slice none 0 0) ∧ V.cell? ⟨w.heap.size + 1, 3, none⟩ = some (.slice none 0 0) ∧ ∀ i, V.frozen? ⟨w.heap.size + 1, i, none⟩ = false) ∧
      (((((V.setCell ⟨w.heap.size + 1, 0, none⟩ (.slice none 0 0)).setCell ⟨w.heap.size + 1, 1, none⟩ (.slice none 0 0)).setCell ⟨w.heap.size + 1, 2, none⟩ (.slice none 0 0)).setCell ⟨w.heap.size + 1, 3, none⟩ (.slice none 0 0)).heap[w.heap.size + 1]? = some (.cells nil4 49 (0, 0)) ∧
      Below w.heap.size w ((((V.setCell ⟨w.heap.size + 1, 0, none⟩ (.slice none 0 0)).setCell ⟨w.heap.size + 1, 1, none⟩ (.slice none 0 0)).setCell ⟨w.heap.size + 1, 2, none⟩ (.slice none 0 0)).setCell ⟨w.heap.size + 1, 3, none⟩ (.slice none 0 0))) := fun V hV hx => by
    have h1 : V.heap[w.heap.size + 1]? = some (.cells nil4 49 (0, 0)) := hx 1 _ rfl
    refine ⟨⟨by simp [World.cell?, h1], by simp [World.cell?, h1], by simp [World.cell?, h1], by simp [World.cell?, h1], fun i => by simp [World.frozen?, h1]⟩, ?_, ?_⟩
    · simpa using set_at (i := 3) (set_at (i := 2) (set_at (i := 1) (set_at (i := 0) h1 (.slice none 0 0)) (.slice none 0 0)) (.slice none 0 0)) (.slice none 0 0)
    · exact (((hV.setCell (by show w.heap.size ≤ w.heap.size + 1; omega) _).setCell (by show w.heap.size ≤ w.heap.size + 1; omega) _).setCell (by show w.heap.size ≤ w.heap.size + 1; omega) _).setCell (by show w.heap.size ≤ w.heap.size + 1; omega) _
  have FIN := Lib.hid fin
  clear fin
  go_enter Try.func24, Try.ntmps24
  go_upto_region 1 with fail
  rw [← hW]
  clear hW
  go_wp2_with fail
  refine HG.out.mono ?_
  rintro e w1 ⟨rfl, hb1⟩
  have hB1 := hB.trans (hb1.mono hB.size)
  have hO1 := hO.below hb1
  clear s0 s1 hO hB hb1 HG
  cases G with
  | true =>
    obtain ⟨⟨q0, q1, q2, q3, qf⟩, hz, hBz⟩ := FIN.out w1 hB1 hO1
    go_wp2
    refine bodyPost_ret (results_trie3 rfl rfl hz) rfl ⟨rfl, hBz⟩
  | false =>
    obtain ⟨g1, g2, g3⟩ := gr8_bd hG fold
    rw [HL.out] at g1
    have s0 : w1.cell? ⟨w.heap.size, 0, none⟩ = some (.bool fold) := hO1.cell (i := 0) rfl rfl
    have s1 : w1.cell? ⟨w.heap.size, 1, none⟩ = some (.slice a la ca) := hO1.cell (i := 0) rfl rfl
    cases hr : rightP fold wss with
    | false =>
      have HC := Lib.hid (rmake7_no fold a la ca wss w1 (hA.below hB1) (by omega) (fun x hx => by have := g2 x hx; omega) hr)
      clear hr g1 g2 g3 hs
      go_wp2_with fail
      refine HC.out.mono ?_
      rintro e w2 ⟨rfl, hb2⟩
      have hB2 := (hB1.trans (hb2.mono hB1.size)).alloc (hB1.trans (hb2.mono hB1.size)).size (.cells nil4 49)
      have hO2 := (hO1.below hb2).below (below_alloc w2 (.cells nil4 49))
      obtain ⟨⟨q0, q1, q2, q3, qf⟩, hz, hBz⟩ := FIN.out _ hB2 hO2
      clear s0 s1
      go_wp2
      refine bodyPost_ret (results_trie3 rfl rfl hz) rfl ⟨rfl, hBz⟩
    | true =>
      have hn : ¬ (nodesL wss).length ≤ 120 := fun h => by
        unfold smallB at hs
        rw [hG, hr, decide_eq_true h] at hs
        cases hs
      have HC := Lib.hid (rmake7_yes fold a la ca wss w1 (hA.below hB1) hr)
      clear hr g1 g2 g3 hs
      go_wp2_with fail
      refine HC.out.mono ?_
      rintro e w2 ⟨t, rfl, hT, hb2⟩
      obtain ⟨ua, un, uc, da, dn, dc, xa, xn, xc, ba, bn, bc⟩ := t
      have hun : un = (nodesL wss).length := by have := hT.up.1; simp [trieP] at this; exact this.symm
      have hun2 : decide ((120 : Int) < (un : Int)) = true := by simp; omega
      have hB2 := (hB1.trans (hb2.mono hB1.size)).alloc (hB1.trans (hb2.mono hB1.size)).size (.cells #[.slice ua un uc, .slice da dn dc, .slice xa xn xc, .slice ba bn bc] 49)
      have hO2 := (hO1.below hb2).below (below_alloc w2 (.cells #[.slice ua un uc, .slice da dn dc, .slice xa xn xc, .slice ba bn bc] 49))
      obtain ⟨⟨q0, q1, q2, q3, qf⟩, hz, hBz⟩ := FIN.out _ hB2 hO2
      clear s0 s1 hT hun hn
      go_wp2
      refine bodyPost_ret (results_trie3 rfl rfl hz) rfl ⟨rfl, hBz⟩

set_option maxRecDepth 100000 in
set_option maxHeartbeats 4000000 in
theorem small8_yes (fold : Bool) (a : Option Addr) (la ca : Nat) (wss : List (List Int)) (w : World) (hA : Wds w a la wss) (hs : smallB fold wss = true) :
    Calls Try.prog 24 #[.agg (setV fold a la ca)] w fun e w' => ∃ (t : TV) (b : Option Addr) (c : Nat), e = .returned (.tuple #[.agg t.cells, .slice b (nodesL wss).length c, .bool true]) ∧ (nodesL wss).length ≤ c ∧ Wds w' b (nodesL wss).length (nodesL wss) ∧ Tri w' t (trieP wss) ∧ Below w.heap.size w w' := by
  have HL := Lib.hid hA.len
  unfold smallB at hs
  rw [Bool.and_eq_true, Bool.and_eq_true, decide_eq_true_iff, Bool.not_eq_true'] at hs
  obtain ⟨⟨hG, hr⟩, hn⟩ := hs
  obtain ⟨r1, r2, r3, r4, r5, r6⟩ := right_spec hr
  have hla : la ≤ 1000 := by have := HL.out; omega
  have hM : ∀ x ∈ wss, x.length ≤ 1000 := fun x hx => by have := (r3 x hx).2; omega
  obtain ⟨W, hW⟩ : ∃ W, W = (w.alloc (.cells (setV fold a la ca) 24)).alloc (.cells nil4 49) := ⟨_, rfl⟩
  have hB : Below w.heap.size w W := by rw [hW]; exact (below_alloc _ _).alloc (by simp) _
  have hO : Bx w.heap.size [.cells (setV fold a la ca) 24, .cells nil4 49] W := by rw [hW]; exact ((Bx.nil _ w).snoc _ rfl).snoc _ (by simp)
  have s0 : W.cell? ⟨w.heap.size, 0, none⟩ = some (.bool fold) := hO.cell (i := 0) rfl rfl
  have s1 : W.cell? ⟨w.heap.size, 1, none⟩ = some (.slice a la ca) := hO.cell (i := 0) rfl rfl
  have hg := great5_any fold a la ca wss W (hA.below hB)
  rw [hG] at hg
  have HG := Lib.hid hg
  have HX := Lib.hid (right_node hr)
  clear hg r1 r2 r3 r4 r5 r6
  go_enter Try.func24, Try.ntmps24
  go_upto_region 1 with fail
  rw [← hW]
  clear hW
  go_wp2_with fail
  refine HG.out.mono ?_
  rintro e w1 ⟨rfl, hb1⟩
  have hB1 := hB.trans (hb1.mono hB.size)
  have hO1 := hO.below hb1
  clear s0 s1 hO hB hb1 HG
  have s0 : w1.cell? ⟨w.heap.size, 0, none⟩ = some (.bool fold) := hO1.cell (i := 0) rfl rfl
  have s1 : w1.cell? ⟨w.heap.size, 1, none⟩ = some (.slice a la ca) := hO1.cell (i := 0) rfl rfl
  have HC := Lib.hid (rmake7_yes fold a la ca wss w1 (hA.below hB1) hr)
  clear hr hG
  go_wp2_with fail
  refine HC.out.mono ?_
  rintro e w2 ⟨t, rfl, hT, hb2⟩
  obtain ⟨ua, un, uc, da, dn, dc, xa, xn, xc, ba, bn, bc⟩ := t
  have hun : un = (nodesL wss).length := by have := hT.up.1; simp [trieP] at this; exact this.symm
  have hun2 : decide ((120 : Int) < (un : Int)) = false := by simp; omega
  have hB2' := hB1.trans (hb2.mono hB1.size)
  have hB2 := hB2'.alloc hB2'.size (.cells #[.slice ua un uc, .slice da dn dc, .slice xa xn xc, .slice ba bn bc] 49)
  have hO2 := (hO1.below hb2).below (below_alloc w2 (.cells #[.slice ua un uc, .slice da dn dc, .slice xa xn xc, .slice ba bn bc] 49))
  have hT2 := hT.below (below_alloc w2 (.cells #[.slice ua un uc, .slice da dn dc, .slice xa xn xc, .slice ba bn bc] 49))
  have hQ := World.alloc_heap_new w2 (.cells #[.slice ua un uc, .slice da dn dc, .slice xa xn xc, .slice ba bn bc] 49)
  have hsz : w.heap.size + 1 < w2.heap.size := (Array.getElem?_eq_some_iff.1 ((hO1.below hb2) 1 _ rfl)).1
  clear hO1 s0 s1 hT hun hn hB2' hb2 hB1
  go_upto_if 22 with fail
  obtain ⟨W3, hW3⟩ : ∃ W, W = w2.alloc (.cells #[.slice ua un uc, .slice da dn dc, .slice xa xn xc, .slice ba bn bc] 49) := ⟨_, rfl⟩
  rw [← hW3] at hB2 hO2 hT2 hQ ⊢
  clear hW3
  obtain ⟨Q, hQe⟩ : ∃ Q, w2.heap.size = Q := ⟨_, rfl⟩
  rw [hQe] at hQ hsz ⊢
  clear hQe
  go_upto_region 6 with fail
  have hD : Below W3.heap.size W3 W3.drew := bel_drewN W3 1
  have hBd : Below w.heap.size w W3.drew := hB2.trans (hD.mono hB2.size)
  have HN := Lib.hid (rnodes7_any a la ca wss W3.drew (hA.below hBd) hla hM)
  have s1 : W3.cell? ⟨w.heap.size, 1, none⟩ = some (.slice a la ca) := hO2.cell (i := 0) rfl rfl
  have t0 : W3.cell? ⟨Q, 0, none⟩ = some (.slice ua un uc) := by simp [World.cell?, hQ]
  have t1 : W3.cell? ⟨Q, 1, none⟩ = some (.slice da dn dc) := by simp [World.cell?, hQ]
  have t2 : W3.cell? ⟨Q, 2, none⟩ = some (.slice xa xn xc) := by simp [World.cell?, hQ]
  have t3 : W3.cell? ⟨Q, 3, none⟩ = some (.slice ba bn bc) := by simp [World.cell?, hQ]
  go_cut [3, 4] (fun s3 s4 wx => ∃ (b : Option Addr) (c : Nat), s3 = .slice b (nodesL wss).length c ∧ s4 = .bool true ∧ (nodesL wss).length ≤ c ∧ Wds wx b (nodesL wss).length (nodesL wss) ∧ Tri wx ⟨ua, un, uc, da, dn, dc, xa, xn, xc, ba, bn, bc⟩ (trieP wss) ∧ wx.heap[w.heap.size + 1]? = some (.cells #[.slice ua un uc, .slice da dn dc, .slice xa xn xc, .slice ba bn bc] 49 (0, 0)) ∧ RowKit.Below w.heap.size w wx)
  case first =>
    go_region_with (go_at_call 54; refine HN.out.mono ?_; rintro e w6 ⟨aN, cN, rfl, hcN, hX, hb⟩
                    have hO6 := (hO2.below hD).below hb
                    have hQ6 : w6.heap[Q]? = _ := (hb.block Q (Array.getElem?_eq_some_iff.1 hQ).1).trans hQ
                    have h61 : w6.heap[w.heap.size + 1]? = some (.cells nil4 49 (0, 0)) := hO6 1 _ rfl
                    have u0 : w6.cell? ⟨Q, 0, none⟩ = some (.slice ua un uc) := (by simp [World.cell?, hQ6])
                    have u1 : w6.cell? ⟨Q, 1, none⟩ = some (.slice da dn dc) := (by simp [World.cell?, hQ6])
                    have u2 : w6.cell? ⟨Q, 2, none⟩ = some (.slice xa xn xc) := (by simp [World.cell?, hQ6])
                    have u3 : w6.cell? ⟨Q, 3, none⟩ = some (.slice ba bn bc) := (by simp [World.cell?, hQ6])
                    have v0 : w6.cell? ⟨w.heap.size + 1, 0, none⟩ = some (.slice none 0 0) := (by simp [World.cell?, h61])
                    have v1 : w6.cell? ⟨w.heap.size + 1, 1, none⟩ = some (.slice none 0 0) := (by simp [World.cell?, h61])
                    have v2 : w6.cell? ⟨w.heap.size + 1, 2, none⟩ = some (.slice none 0 0) := (by simp [World.cell?, h61])
                    have v3 : w6.cell? ⟨w.heap.size + 1, 3, none⟩ = some (.slice none 0 0) := (by simp [World.cell?, h61])
                    have vf : ∀ i, w6.frozen? ⟨w.heap.size + 1, i, none⟩ = false := (fun i => by simp [World.frozen?, h61]))
    all_goals
      have hT6 := (hT2.below hD).below hb
      have hB6 : RowKit.Below w.heap.size w w6 := hBd.trans (hb.mono hBd.size)
      have hz2 : ((((w6.setCell ⟨w.heap.size + 1, 0, none⟩ (.slice ua un uc)).setCell ⟨w.heap.size + 1, 1, none⟩ (.slice da dn dc)).setCell ⟨w.heap.size + 1, 2, none⟩ (.slice xa xn xc)).setCell ⟨w.heap.size + 1, 3, none⟩ (.slice ba bn bc)).heap[w.heap.size + 1]? = some (.cells #[.slice ua un uc, .slice da dn dc, .slice xa xn xc, .slice ba bn bc] 49 (0, 0)) := by
        simpa using set_at (i := 3) (set_at (i := 2) (set_at (i := 1) (set_at (i := 0) h61 (.slice ua un uc)) (.slice da dn dc)) (.slice xa xn xc)) (.slice ba bn bc)
      have far : ∀ j, j ≠ w.heap.size + 1 → j < w6.heap.size → ((((w6.setCell ⟨w.heap.size + 1, 0, none⟩ (.slice ua un uc)).setCell ⟨w.heap.size + 1, 1, none⟩ (.slice da dn dc)).setCell ⟨w.heap.size + 1, 2, none⟩ (.slice xa xn xc)).setCell ⟨w.heap.size + 1, 3, none⟩ (.slice ba bn bc)).heap[j]? = w6.heap[j]? := fun j hj _ =>
        (Below.heap_setCell _ _ _ _ (by show j ≠ w.heap.size + 1; exact hj)).trans ((Below.heap_setCell _ _ _ _ (by show j ≠ w.heap.size + 1; exact hj)).trans ((Below.heap_setCell _ _ _ _ (by show j ≠ w.heap.size + 1; exact hj)).trans (Below.heap_setCell _ _ _ _ (by show j ≠ w.heap.size + 1; exact hj))))
      have hT7 := Lib.hid (hT6.turn h61 nil4_noint far (by simp))
      have hX7 := Lib.hid (hX.turn h61 HX.out far (by simp))
      have hB7 := Lib.hid ((((hB6.setCell (p := ⟨w.heap.size + 1, 0, none⟩) (by show w.heap.size ≤ w.heap.size + 1; omega) (.slice ua un uc)).setCell (p := ⟨w.heap.size + 1, 1, none⟩) (by show w.heap.size ≤ w.heap.size + 1; omega) (.slice da dn dc)).setCell (p := ⟨w.heap.size + 1, 2, none⟩) (by show w.heap.size ≤ w.heap.size + 1; omega) (.slice xa xn xc)).setCell (p := ⟨w.heap.size + 1, 3, none⟩) (by show w.heap.size ≤ w.heap.size + 1; omega) (.slice ba bn bc))
      have hz7 := Lib.hid hz2
      clear hT6 hB6 far hz2 hX hb hO6 hQ6 h61
      go_wp2_with fail
      go_meet
      exact ⟨aN, cN, rfl, rfl, hcN, hX7.out, hT7.out, hz7.out, hB7.out⟩
  case rest =>
    obtain ⟨b, c, rfl, rfl, hcN, hX, hT, hz, hBf⟩ := hcut
    clear hD hBd s1 t0 t1 t2 t3 hQ hO2 hT2 hB2
    go_wp2
    exact bodyPost_ret (results_trie3 rfl rfl hz) rfl ⟨⟨ua, un, uc, da, dn, dc, xa, xn, xc, ba, bn, bc⟩, b, c, rfl, hcN, hX, hT, hBf⟩

end Go.Proofs.Ytifcoalhkcflnaa

/- What the document says of he, she, her (layer 8): walked. -/


namespace Go.Proofs.Ytifcoalhkcflnaa
open Go.RowKit Go.Sort
set_option linter.unusedVariables false
set_option linter.unusedSimpArgs false

def t00 : TV := ⟨none, 0, 0, none, 0, 0, none, 0, 0, none, 0, 0⟩
def T00 : TrieT := ⟨[], [], [], []⟩
theorem tri00 (w : World) : Tri w t00 T00 := ⟨⟨rfl, .inl rfl⟩, ⟨rfl, .inl rfl⟩, ⟨rfl, .inl rfl⟩, Bys.nil _ _, ⟨Nat.le_refl _, Nat.le_refl _, Nat.le_refl _, Nat.le_refl _⟩⟩
theorem read00 : readP T00 = none := by decide +kernel
theorem he_links : linksP heW = [0, 0, 0, 0, 1, 0, 3] := by decide +kernel
theorem he_nodes : (nodesL heW).length = 7 := by decide +kernel
theorem he_deep1 : deepT (trieP heW) [117, 115, 104, 101] = (6, true) := by unfold deepT; rw [he_read]; decide +kernel
theorem he_deep2 : deepT (trieP heW) [104, 101, 115] = (2, true) := by unfold deepT; rw [he_read]; decide +kernel
theorem he_deep3 : deepT T00 [] = (0, false) := by unfold deepT; rw [read00]
theorem he_step1 : stepT (trieP heW) 4 101 = (6, true) := by unfold stepT; rw [he_read]; decide +kernel
theorem he_step2 : stepT (trieP heW) 7 101 = (0, false) := by unfold stepT; rw [he_read]; decide +kernel
theorem he_chain : chainT8 (trieP heW) 6 = [6, 3, 0] := by unfold chainT8; rw [he_read]; decide +kernel
theorem he_lr1 : rightL8 (trieP heW) [0, 0, 0, 0, 1, 0, 3] = true := by unfold rightL8; rw [he_read]; decide +kernel
theorem he_lr2 : rightL8 (trieP heW) [0] = false := by unfold rightL8; rw [he_read]; decide +kernel

/-- What lies there all the way. -/
structure C8 (w : World) (t : TV) (Q : Nat) (W : World) : Prop where
  tri : Tri W t (trieP heW)
  box : W.heap[Q]? = some (.cells t.cells 49 (0, 0))
  bel : Below w.heap.size w W
theorem C8.below {w W V : World} {t : TV} {Q : Nat} (h : C8 w t Q W) (hb : Below W.heap.size W V) : C8 w t Q V :=
  ⟨h.tri.below hb, (hb.block Q (Array.getElem?_eq_some_iff.1 h.box).1).trans h.box, h.bel.trans (hb.mono h.bel.size)⟩
theorem C8.cells {w W : World} {ua da xa ba : Option Addr} {un uc dn dc xn xc bn bc Q : Nat} (h : C8 w ⟨ua, un, uc, da, dn, dc, xa, xn, xc, ba, bn, bc⟩ Q W) :
    W.cell? ⟨Q, 0, none⟩ = some (.slice ua un uc) ∧ W.cell? ⟨Q, 1, none⟩ = some (.slice da dn dc) ∧ W.cell? ⟨Q, 2, none⟩ = some (.slice xa xn xc) ∧ W.cell? ⟨Q, 3, none⟩ = some (.slice ba bn bc) := by
  have := h.box
  refine ⟨?_, ?_, ?_, ?_⟩ <;> simp [World.cell?, this]

set_option maxRecDepth 100000 in
set_option maxHeartbeats 4000000 in
theorem wakes8 (w : World) : Calls Try.prog 25 #[] w fun e w' => e = .returned (.bool true) ∧ Below w.heap.size w w' := by
  go_enter Try.func25, Try.ntmps25
  go_wp2_with fail
  refine (she8_any w).mono ?_
  rintro e w1 ⟨t, rfl, hT, hun, hb1⟩
  obtain ⟨ua, un, uc, da, dn, dc, xa, xn, xc, ba, bn, bc⟩ := t
  dsimp only at hun
  subst hun
  obtain ⟨W1, hW⟩ : ∃ W, W = w1.alloc (.cells #[.slice ua 7 uc, .slice da dn dc, .slice xa xn xc, .slice ba bn bc] 49) := ⟨_, rfl⟩
  have hC : C8 w ⟨ua, 7, uc, da, dn, dc, xa, xn, xc, ba, bn, bc⟩ w1.heap.size W1 := by
    rw [hW]
    exact ⟨hT.below (below_alloc _ _), World.alloc_heap_new _ _, hb1.alloc hb1.size _⟩
  obtain ⟨Q, hQ⟩ : ∃ Q, w1.heap.size = Q := ⟨_, rfl⟩
  rw [hQ] at hC
  clear hT hb1
  go_upto_region 2 with fail
  rw [← hW]
  clear hW hQ
  obtain ⟨c0, c1, c2, c3⟩ := hC.cells
  have H1 := Lib.hid (links8_yes _ (trieP heW) _ heW W1 hC.tri (by show 7 ≤ 140737488351232; decide) he_read)
  rw [he_nodes, he_links] at H1
  go_wp2_with fail
  refine H1.out.mono ?_
  rintro e w2 ⟨q, rfl, hq, hql, hb2⟩
  have hC2 := hC.below hb2
  clear hC c0 c1 c2 c3 hb2 H1
  have H2 := Lib.hid (links8_no t00 T00 w2 (tri00 w2) (by decide) read00)
  go_wp2_with fail
  refine H2.out.mono ?_
  rintro e w3 ⟨rfl, hb3⟩
  have hC3 := hC2.below hb3
  have hq3 : IntRow q [0, 0, 0, 0, 1, 0, 3] w3 := (hb3.block q (Array.getElem?_eq_some_iff.1 (show w2.heap[q]? = _ from hq)).1).trans hq
  clear hC2 hq hb3 H2
  obtain ⟨c0, c1, c2, c3⟩ := hC3.cells
  have kc := conv_lit
  obtain ⟨W4, hW4⟩ : ∃ W, W = w3.alloc (.cells #[.int .u8 117, .int .u8 115, .int .u8 104, .int .u8 101] 5 (4, 5)) := ⟨_, rfl⟩
  have hb4 : Below w3.heap.size w3 W4 := by rw [hW4]; exact below_alloc _ _
  have y4 : Bys W4 (some ⟨w3.heap.size, 0, none⟩) 4 [117, 115, 104, 101] := by rw [hW4]; exact bys_lay [117, 115, 104, 101] (by simp) _ _ rfl
  have hC4 := hC3.below hb4
  have hq4 : IntRow q [0, 0, 0, 0, 1, 0, 3] W4 := (hb4.block q (Array.getElem?_eq_some_iff.1 (show w3.heap[q]? = _ from hq3)).1).trans hq3
  have H4 := Lib.hid (deep8_any _ (trieP heW) (some ⟨w3.heap.size, 0, none⟩) 4 4 _ W4 hC4.tri (by show 7 ≤ 140737488351232; decide) y4 (by decide))
  rw [he_deep1] at H4
  go_wp2_with fail
  rw [← hW4]
  clear hW4 hb4 y4 hC3 hq3 c0 c1 c2 c3
  refine H4.out.mono ?_
  rintro e w5 ⟨rfl, hb5⟩
  have hC5 := hC4.below hb5
  have hq5 : IntRow q [0, 0, 0, 0, 1, 0, 3] w5 := (hb5.block q (Array.getElem?_eq_some_iff.1 (show W4.heap[q]? = _ from hq4)).1).trans hq4
  clear hC4 hq4 hb5 H4
  obtain ⟨c0, c1, c2, c3⟩ := hC5.cells
  obtain ⟨W6, hW6⟩ : ∃ W, W = w5.alloc (.cells #[.int .u8 104, .int .u8 101, .int .u8 115] 5 (3, 4)) := ⟨_, rfl⟩
  have hb6 : Below w5.heap.size w5 W6 := by rw [hW6]; exact below_alloc _ _
  have y6 : Bys W6 (some ⟨w5.heap.size, 0, none⟩) 3 [104, 101, 115] := by rw [hW6]; exact bys_lay [104, 101, 115] (by simp) _ _ rfl
  have hC6 := hC5.below hb6
  have hq6 : IntRow q [0, 0, 0, 0, 1, 0, 3] W6 := (hb6.block q (Array.getElem?_eq_some_iff.1 (show w5.heap[q]? = _ from hq5)).1).trans hq5
  have H6 := Lib.hid (deep8_any _ (trieP heW) (some ⟨w5.heap.size, 0, none⟩) 3 3 _ W6 hC6.tri (by show 7 ≤ 140737488351232; decide) y6 (by decide))
  rw [he_deep2] at H6
  go_wp2_with fail
  rw [← hW6]
  clear hW6 hb6 y6 hC5 hq5 c0 c1 c2 c3
  refine H6.out.mono ?_
  rintro e w7 ⟨rfl, hb7⟩
  have hC7 := hC6.below hb7
  have hq7 : IntRow q [0, 0, 0, 0, 1, 0, 3] w7 := (hb7.block q (Array.getElem?_eq_some_iff.1 (show W6.heap[q]? = _ from hq6)).1).trans hq6
  clear hC6 hq6 hb7 H6 kc
  have H7 := Lib.hid (deep8_any t00 T00 none 0 0 [] w7 (tri00 _) (by decide) (Bys.nil _ _) (by decide))
  rw [he_deep3] at H7
  go_wp2_with fail
  refine H7.out.mono ?_
  rintro e w8 ⟨rfl, hb8⟩
  have hC8 := hC7.below hb8
  have hq8 : IntRow q [0, 0, 0, 0, 1, 0, 3] w8 := (hb8.block q (Array.getElem?_eq_some_iff.1 (show w7.heap[q]? = _ from hq7)).1).trans hq7
  clear hC7 hq7 hb8 H7
  obtain ⟨c0, c1, c2, c3⟩ := hC8.cells
  have H8 := Lib.hid (fstep8_any _ (trieP heW) 4 101 w8 hC8.tri (by show 7 ≤ 140737488351232; decide) (by decide))
  rw [he_step1] at H8
  go_wp2_with fail
  refine H8.out.mono ?_
  rintro e w9 ⟨rfl, hb9⟩
  have hC9 := hC8.below hb9
  have hq9 : IntRow q [0, 0, 0, 0, 1, 0, 3] w9 := (hb9.block q (Array.getElem?_eq_some_iff.1 (show w8.heap[q]? = _ from hq8)).1).trans hq8
  clear hC8 hq8 hb9 H8 c0 c1 c2 c3
  obtain ⟨c0, c1, c2, c3⟩ := hC9.cells
  have H9 := Lib.hid (fstep8_any _ (trieP heW) 7 101 w9 hC9.tri (by show 7 ≤ 140737488351232; decide) (by decide))
  rw [he_step2] at H9
  go_wp2_with fail
  refine H9.out.mono ?_
  rintro e w10 ⟨rfl, hb10⟩
  have hC10 := hC9.below hb10
  have hq10 : IntRow q [0, 0, 0, 0, 1, 0, 3] w10 := (hb10.block q (Array.getElem?_eq_some_iff.1 (show w9.heap[q]? = _ from hq9)).1).trans hq9
  clear hC9 hq9 hb10 H9 c0 c1 c2 c3
  obtain ⟨W11, hW11⟩ : ∃ W, W = w10.alloc (.cells #[.int .i64 0, .int .i64 0, .int .i64 0, .int .i64 0, .int .i64 1, .int .i64 0, .int .i64 3] 3) := ⟨_, rfl⟩
  have hb11 : Below w10.heap.size w10 W11 := by rw [hW11]; exact below_alloc _ _
  have y11 : Sl1 (Value.int .i64) W11 (some ⟨w10.heap.size, 0, none⟩) 7 [0, 0, 0, 0, 1, 0, 3] := by rw [hW11]; exact Sl1.lay (Value.int .i64) w10 [0, 0, 0, 0, 1, 0, 3] _ _ rfl
  have hC11 := hC10.below hb11
  have hq11 : IntRow q [0, 0, 0, 0, 1, 0, 3] W11 := (hb11.block q (Array.getElem?_eq_some_iff.1 (show w10.heap[q]? = _ from hq10)).1).trans hq10
  have H11 := Lib.hid (rints_any (some ⟨q, 0, none⟩) (some ⟨w10.heap.size, 0, none⟩) 7 7 7 7 _ _ W11 hq11.sl1 y11 (by decide))
  rw [show decide (([0, 0, 0, 0, 1, 0, 3] : List Int) = [0, 0, 0, 0, 1, 0, 3]) = true from decide_eq_true rfl] at H11
  go_wp2_with fail
  rw [← hW11]
  clear hW11 y11 hC10 hq10 hb11
  refine H11.out.mono ?_
  rintro e w12 ⟨rfl, hb12⟩
  have hC12 := hC11.below hb12
  have hq12 : IntRow q [0, 0, 0, 0, 1, 0, 3] w12 := (hb12.block q (Array.getElem?_eq_some_iff.1 (show W11.heap[q]? = _ from hq11)).1).trans hq11
  clear hC11 hq11 hb12 H11
  obtain ⟨c0, c1, c2, c3⟩ := hC12.cells
  have H12 := Lib.hid (fchain8_any _ (trieP heW) 6 w12 hC12.tri (by show 7 ≤ 140737488351232; decide))
  rw [he_chain] at H12
  go_wp2_with fail
  refine H12.out.mono ?_
  rintro e w13 ⟨v, rfl, hv, hb13⟩
  obtain ⟨av, cv, rfl, _, hvs⟩ := own_sl1 (enc := Value.int .i64) hv
  have hC13 := hC12.below hb13
  have hq13 : IntRow q [0, 0, 0, 0, 1, 0, 3] w13 := (hb13.block q (Array.getElem?_eq_some_iff.1 (show w12.heap[q]? = _ from hq12)).1).trans hq12
  clear hC12 hq12 hb13 H12 c0 c1 c2 c3 hv
  obtain ⟨W14, hW14⟩ : ∃ W, W = w13.alloc (.cells #[.int .i64 6, .int .i64 3, .int .i64 0] 3) := ⟨_, rfl⟩
  have hb14 : Below w13.heap.size w13 W14 := by rw [hW14]; exact below_alloc _ _
  have y14 : Sl1 (Value.int .i64) W14 (some ⟨w13.heap.size, 0, none⟩) 3 [6, 3, 0] := by rw [hW14]; exact Sl1.lay (Value.int .i64) w13 [6, 3, 0] _ _ rfl
  have hC14 := hC13.below hb14
  have hq14 : IntRow q [0, 0, 0, 0, 1, 0, 3] W14 := (hb14.block q (Array.getElem?_eq_some_iff.1 (show w13.heap[q]? = _ from hq13)).1).trans hq13
  have H14 := Lib.hid (rints_any av (some ⟨w13.heap.size, 0, none⟩) 3 cv 3 3 _ _ W14 (hvs.below hb14) y14 (by decide))
  rw [show decide (([6, 3, 0] : List Int) = [6, 3, 0]) = true from decide_eq_true rfl] at H14
  go_wp2_with fail
  rw [← hW14]
  clear hW14 y14 hC13 hq13 hb14 hvs
  refine H14.out.mono ?_
  rintro e w15 ⟨rfl, hb15⟩
  have hC15 := hC14.below hb15
  have hq15 : IntRow q [0, 0, 0, 0, 1, 0, 3] w15 := (hb15.block q (Array.getElem?_eq_some_iff.1 (show W14.heap[q]? = _ from hq14)).1).trans hq14
  clear hC14 hq14 hb15 H14
  obtain ⟨c0, c1, c2, c3⟩ := hC15.cells
  have H15 := Lib.hid (fright8_any _ (trieP heW) (some ⟨q, 0, none⟩) 7 7 _ w15 hC15.tri (by show 7 ≤ 140737488351232; decide) hq15.sl1)
  rw [he_lr1] at H15
  go_wp2_with fail
  refine H15.out.mono ?_
  rintro e w16 ⟨rfl, hb16⟩
  have hC16 := hC15.below hb16
  clear hC15 hq15 hb16 H15 c0 c1 c2 c3
  obtain ⟨c0, c1, c2, c3⟩ := hC16.cells
  obtain ⟨W17, hW17⟩ : ∃ W, W = w16.alloc (.cells #[.int .i64 0] 3) := ⟨_, rfl⟩
  have hb17 : Below w16.heap.size w16 W17 := by rw [hW17]; exact below_alloc _ _
  have y17 : Sl1 (Value.int .i64) W17 (some ⟨w16.heap.size, 0, none⟩) 1 [0] := by rw [hW17]; exact Sl1.lay (Value.int .i64) w16 [0] _ _ rfl
  have hC17 := hC16.below hb17
  have H17 := Lib.hid (fright8_any _ (trieP heW) (some ⟨w16.heap.size, 0, none⟩) 1 1 _ W17 hC17.tri (by show 7 ≤ 140737488351232; decide) y17)
  rw [he_lr2] at H17
  go_wp2_with fail
  rw [← hW17]
  clear hW17 y17 hC16 hb17
  refine H17.out.mono ?_
  rintro e w18 ⟨rfl, hb18⟩
  have hBf := (hC17.below hb18).bel
  go_wp2
  go_ret
  exact ⟨rfl, hBf⟩

end Go.Proofs.Ytifcoalhkcflnaa
