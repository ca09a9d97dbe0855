/- Parts of the proof, one behind the other: Y9, YG, Pp, P1, P2, P3, P5, Pq, M1, M5, M6. No condition but what each theorem states. -/
import Derived.Deep.WholeRow
import Derived.Deep.MidRow
import Derived.Test.YtbldfgaogmfoaaaGreatZP2
import Derived.Test.YtbldfgaogmfoaaaGreatZP6
import Derived.Test.YtbldfgaogmfoaaaGreatZP7
import Derived.Test.YtbldfgaogmfoaaaGreatZP9
set_option linter.unusedVariables false
set_option linter.unusedSimpArgs false

/- Tables (layer 11): a set's table is made; walked. -/

namespace Go.Proofs.YtbldfgaogmfoaaaGreat
open Go.RowKit Go.Sort

set_option maxRecDepth 100000 in
theorem built59 (t : TV) (la : Option Addr) (ln lc : Nat) : (Tryz.prog.built 172 [(1, Value.agg #[.slice t.ua t.un t.uc, .slice t.da t.dn t.dc, .slice t.xa t.xn t.xc, .slice t.ba t.bn t.bc]), (2, .slice la ln lc)]) = some (makC (List.replicate 256 0) 0 (.slice none 0 0) t (.slice la ln lc)).toArray := by kernel_rfl

theorem wpList_build_to {P : Program} {ops : Array Oper} {rest : List Oper} {o : Oper} {a : Act} {w : World} {Q : Exit → Act → World → Prop} (hg : o.guard = none) (t : TypeId) (parts : Array (Nat × Operand)) (ho : o.op = .build t parts) (V : Array Value)
  (hv : P.built t (parts.map fun (i, x) => (i, a.eval x)).toList = some V) (h : wpList P ops Q rest (a.put o.dst (.agg V)) w) : wpList P ops Q (o :: rest) a w :=
 wpList_build hg t parts ho (by rw [hv]; rfl) (by rw [hv]; exact h)

/-- A row of cells stored into the head of a block. -/
theorem setRow_self (w : World) (g : Nat) (cs : Array Value) (t : TypeId) (fr : Nat × Nat) (hg : w.heap[g]? = some (.cells cs t fr)) : w.setRow g cs = w := by
 have e : (w.setRow g cs).heap = w.heap := by
  apply Array.ext_getElem?
  intro i
  by_cases hi : i = g
  · rw [hi, setRow_heap w g _ cs t fr hg, hg]
  · exact setRow_other w g i cs hi
 have e2 : w.setRow g cs = { w with heap := (w.setRow g cs).heap } := rfl
 rw [e2, e]
theorem setCells_row (b : Nat) (t : TypeId) (fr : Nat × Nat) (B : List Value) : ∀ (vs A P : List Value) (w : World), vs.length = A.length → w.heap[b]? = some (.cells (P ++ A ++ B).toArray t fr) → w.setCells b P.length vs = w.setRow b (P ++ vs ++ B).toArray
 | [], [], P, w, _, hg => by simpa [World.setCells] using (setRow_self w b _ t fr hg).symm
 | v :: vs, a :: A, P, w, hl, hg => by
  have e := setCell_eq_setRow w b P.length _ t fr v hg
  have e2 : (P ++ (a :: A) ++ B).toArray.setIfInBounds P.length v = ((P ++ [v]) ++ A ++ B).toArray := by simp
  rw [e2] at e
  have hg2 := setRow_heap w b _ ((P ++ [v]) ++ A ++ B).toArray t fr hg
  have ih := setCells_row b t fr B vs A (P ++ [v]) (w.setRow b ((P ++ [v]) ++ A ++ B).toArray) (by simpa using hl) hg2
  rw [World.setCells, e]
  rw [show P.length + 1 = (P ++ [v]).length by simp, ih, setRow_setRow]
  simp
theorem wpList_store_head {P : Program} {ops : Array Oper} {rest : List Oper} {op : Oper} {a : Act} {w : World} {Q : Exit → Act → World → Prop} (hgd : op.guard = none) (ty : TypeId) (x y : Operand) (ho : op.op = .store ty x y)
  (b : Nat) (vs A B : List Value) (hx : a.eval x = .pointer (some ⟨b, 0, none⟩)) (hy : a.eval y = .agg vs.toArray) (t : TypeId) (hb : w.heap[b]? = some (.cells (A ++ B).toArray t (0, 0))) (hl : vs.length = A.length)
  (hi : (P.info? ty).map (·.size) = some vs.toArray.size) (h1 : vs.toArray.all (·.oneCell') = true)
  (h : wpList P ops Q rest (a.put op.dst undef) (w.setRow b (vs ++ B).toArray)) : wpList P ops Q (op :: rest) a w := by
 refine wpList_store_mid hgd ty x y ho b 0 vs.toArray hx hy (fun j hj => ?_) hi h1 ?_
 ·
  have hj : j < A.length := by rw [← hl]; simpa using hj
  refine ⟨?_, ?_⟩
  · simp [World.cell?, hb, List.getElem?_append_left hj, hj]
  · simp [World.frozen?, hb]
 ·
  have e := setCells_row b t (0, 0) B vs A [] w hl hb
  simp only [List.nil_append, List.length_nil] at e
  rw [show vs.toArray.toList = vs by simp, e]
  exact h
theorem makC_eq (L : List Int) (m : Int) (row : Value) (t : TV) (lk : Value) : makC L m row t lk = L.map (Value.int .i64) ++ [.int .i64 m, row, .slice t.ua t.un t.uc, .slice t.da t.dn t.dc, .slice t.xa t.xn t.xc, .slice t.ba t.bn t.bc, lk] := by simp [makC]
theorem makC_dv (L : List Int) (m : Int) (row : Value) (t : TV) (lk : Value) : makC L m row t lk = dvC L m row ++ [.slice t.ua t.un t.uc, .slice t.da t.dn t.dc, .slice t.xa t.xn t.xc, .slice t.ba t.bn t.bc, lk] := by simp [makC, dvC]
theorem makC_one (L : List Int) (m : Int) (row : Value) (t : TV) (lk : Value) (hr : row.oneCell' = true) (hk : lk.oneCell' = true) : (makC L m row t lk).toArray.all (·.oneCell') = true := by
 rw [makC_dv]
 have := dvC_one L m row hr
 rw [Array.all_eq_true_iff_forall_mem] at this ⊢
 intro v hv
 rw [List.mem_toArray, List.mem_append] at hv
 rcases hv with h | h
 · exact this v (by rw [List.mem_toArray]; exact h)
 · simp at h; rcases h with rfl | rfl | rfl | rfl | rfl <;> first | rfl | exact hk
theorem makC_size {L : List Int} (hL : L.length = 256) (m : Int) (row : Value) (t : TV) (lk : Value) : (makC L m row t lk).toArray.size = 263 := by simp [makC, hL]
theorem Mk.frozen {W : World} {M : Nat} {L : List Int} {m : Int} {row lk : Value} {t : TV} (h : Mk W M L m row t lk) (i : Nat) : W.frozen? ⟨M, i, none⟩ = false := by simp [World.frozen?, h.box]
theorem Mk.setMany {W : World} {M : Nat} {L : List Int} {m : Int} {row lk : Value} {t : TV} (h : Mk W M L m row t lk) (v : Int) : Mk (W.setCell ⟨M, 256, none⟩ (.int .i64 v)) M L v row t lk := by
 refine ⟨?_, h.len⟩
 rw [setCell_eq_setRow W M 256 _ _ _ _ h.box, setRow_heap W M _ _ _ _ h.box]
 have e : (makC L m row t lk).toArray.setIfInBounds 256 (.int .i64 v) = (makC L v row t lk).toArray := by
  rw [makC_eq, makC_eq, List.setIfInBounds_toArray, List.set_append_right _ _ (by simp [h.len])]
  simp [h.len]
 rw [e]
theorem Mk.setRows {W : World} {M : Nat} {L : List Int} {m : Int} {row lk : Value} {t : TV} (h : Mk W M L m row t lk) (v : Value) : Mk (W.setCell ⟨M, 257, none⟩ v) M L m v t lk := by
 refine ⟨?_, h.len⟩
 rw [setCell_eq_setRow W M 257 _ _ _ _ h.box, setRow_heap W M _ _ _ _ h.box]
 have e : (makC L m row t lk).toArray.setIfInBounds 257 v = (makC L m v t lk).toArray := by
  rw [makC_eq, makC_eq, List.setIfInBounds_toArray, List.set_append_right _ _ (by simp [h.len])]
  simp [h.len]
 rw [e]
theorem sl1_low {W : World} {α : Type} {enc : α → Value} {a : Option Addr} {n : Nat} {xs : List α} (h : Sl1 enc W a n xs) (hn : 0 < xs.length) (x : Addr) (hx : a = some x) : x.block < W.heap.size := by
 rcases h.2 with h0 | ⟨b, off, e, hlt, _⟩
 · have := h.1; omega
 · rw [hx] at e; cases e; exact hlt
theorem lowT_of {W : World} {t : TV} {T : TrieT} (h : Tri W t T) (h1 : 0 < T.up.length) (h2 : 0 < T.dep.length) (h3 : 0 < T.wrd.length) (h4 : 0 < T.byt.length) : lowT t W.heap.size := by
 rintro a (e | e | e | e)
 · exact sl1_low h.up h1 a e
 · exact sl1_low h.dep h2 a e
 · exact sl1_low h.wrd h3 a e
 · exact sl1_low h.byt.1 h4 a e
theorem cls_low {fold : Bool} {ws : List (List Int)} (hg : noGreat fold ws) (c : Nat) (v : Int) (h : (clsP fold ws)[c]? = some v) : 0 ≤ v ∧ v < (manyP fold ws : Int) := by
 have hc : c < 256 := by have := (List.getElem?_eq_some_iff.1 h).1; rw [clsP_len] at this; exact this
 have hm : 1 ≤ manyP fold ws := (clsN_many _ _ _).1
 cases hp : inB fold ws (c : Int) with
 | false =>
  have := cls_no (fold := fold) hp hc
  rw [show (clsN (inB fold ws) fold 256).1 = clsP fold ws from rfl, h] at this
  cases this; omega
 | true =>
  have e := cls_rep (inB_shut hg) hp hc
  rw [show (clsN (inB fold ws) fold 256).1 = clsP fold ws from rfl, h] at e
  have hl : clsO (inB fold ws) fold c < manyP fold ws := clsO_lt (inB_shut hg) hp hc
  cases e; omega
theorem info59 : (Tryz.prog.info? 172).map (·.size) = some 263 := by kernel_rfl
theorem zero59 : Tryz.zeroCells172.size = 263 := by kernel_rfl

set_option maxRecDepth 100000 in
set_option maxHeartbeats 8000000 in
theorem make11_yes (fold : Bool) (a : Option Addr) (la ca : Nat) (wss : List (List Int)) (w : World) (hA : Wds w a la wss) (hla : la ≤ 1000000) (hM : ∀ x ∈ wss, x.length ≤ 1000000) (hT : (begL fold wss).length ≤ 1000000) (hr : rightP fold wss = true) :
  Calls Tryz.prog 62 #[.agg (setV fold a la ca)] w fun e w' => ∃ R, e = .returned (.tuple #[.agg (dvC (clsP fold wss) (manyP fold wss) (.slice (some ⟨R, 0, none⟩) (manyP fold wss * (nodesL wss).length) (manyP fold wss * (nodesL wss).length))).toArray, .int .i64 0]) ∧
   IntRow R (tabP fold wss) w' ∧ w.heap.size ≤ R ∧ Below w.heap.size w w' := by
 obtain ⟨W, hW⟩ : ∃ W, W = (w.alloc (.cells (setV fold a la ca) 24)).alloc (.cells Tryz.zeroCells109 109) := ⟨_, rfl⟩
 have hB : Below w.heap.size w W := by rw [hW]; exact ((Below.refl _ _).alloc (Nat.le_refl _) _).alloc (by simp) _
 have hO : Bx w.heap.size [.cells (setV fold a la ca) 24, .cells Tryz.zeroCells109 109] W := by rw [hW]; exact ((Bx.nil _ w).snoc _ rfl).snoc _ (by simp)
 have s0 : W.cell? ⟨w.heap.size, 0, none⟩ = some (.bool fold) := hO.cell (i := 0) rfl rfl
 have s1 : W.cell? ⟨w.heap.size, 1, none⟩ = some (.slice a la ca) := hO.cell (i := 0) rfl rfl
 have hA2 := hA.below hB
 have hrd : readP (trieP wss) = some (nodesL wss, wss) := readP_iff.2 ⟨right_false hr, rfl, rfl⟩
 have HC := Lib.hid (make7_yes fold a la ca wss W hA2 hla hM hT hr)
 have HO := Lib.hid hO
 have HA2 := Lib.hid hA2
 have HRD := Lib.hid hrd
 have HRT := Lib.hid hr
 have HM := Lib.hid hM
 have HT := Lib.hid hT
 have hn4 : (nodesL wss).length ≤ 400 := read_n hrd
 have hpos : 0 < (nodesL wss).length := List.length_pos_iff.2 (nodesL_ne wss)
 have hg : noGreat fold wss := noGreat_of (right_nodup hr).2
 have hb5 : ∀ x, wordB wss x → 0 ≤ x ∧ x ≤ 255 := by rintro x ⟨xs, h1, h2⟩; exact hA.bytes xs h1 x h2
 have HG := Lib.hid hg
 have HB5 := Lib.hid hb5
 obtain ⟨n, hn⟩ : ∃ n, (nodesL wss).length = n := ⟨_, rfl⟩
 obtain ⟨m, hm⟩ : ∃ m, manyP fold wss = m := ⟨_, rfl⟩
 have hm257 : 1 ≤ m ∧ m ≤ 257 := by rw [← hm]; exact clsN_many _ _ _
 have HN := Lib.hid hn
 have HMM := Lib.hid hm
 obtain ⟨Q, hQ⟩ : ∃ Q, m * n = Q := ⟨_, rfl⟩
 have hQ2 : Q ≤ 257 * 400 := by rw [← hQ]; exact Nat.mul_le_mul hm257.2 (by omega)
 have e1 : wrap64 ((m : Int) * (n : Int)) = (Q : Int) := by rw [← Int.natCast_mul, hQ]; unfold wrap64; omega
 have HQ := Lib.hid hQ
 rw [hn, hm, hQ]
 rw [hn] at hn4 hpos
 clear hr hO hA hA2 hrd hM hT hg hb5 hn hm hQ
 go_enter Tryz.func62, Tryz.ntmps62
 go_upto_region 1 with fail
 rw [← hW]
 clear hW
 go_upto_region 4 with (go_at_call 47; refine HC.out.mono ?_; rintro e w1 ⟨t, rfl, hT1, hb1⟩)
 obtain ⟨W2, hW2⟩ : ∃ W2, W2 = w1.alloc (.cells #[.slice t.ua t.un t.uc, .slice t.da t.dn t.dc, .slice t.xa t.xn t.xc, .slice t.ba t.bn t.bc] 34) := ⟨_, rfl⟩
 have hB2 : Below W.heap.size W W2 := by rw [hW2]; exact hb1.alloc hb1.size _
 have hB12 : Below w1.heap.size w1 W2 := by rw [hW2]; exact below_alloc _ _
 have hO2 : Bx w1.heap.size [.cells #[.slice t.ua t.un t.uc, .slice t.da t.dn t.dc, .slice t.xa t.xn t.xc, .slice t.ba t.bn t.bc] 34] W2 := by rw [hW2]; exact (Bx.nil _ w1).snoc _ rfl
 have hT2 := hT1.below hB12
 rw [← hW2]
 have v0 : W2.cell? ⟨w1.heap.size, 0, none⟩ = some (.slice t.ua t.un t.uc) := hO2.cell (i := 0) rfl rfl
 have v1 : W2.cell? ⟨w1.heap.size, 1, none⟩ = some (.slice t.da t.dn t.dc) := hO2.cell (i := 0) rfl rfl
 have v2 : W2.cell? ⟨w1.heap.size, 2, none⟩ = some (.slice t.xa t.xn t.xc) := hO2.cell (i := 0) rfl rfl
 have v3 : W2.cell? ⟨w1.heap.size, 3, none⟩ = some (.slice t.ba t.bn t.bc) := hO2.cell (i := 0) rfl rfl
 have hun : t.un = n := by rw [← HN.out, ← up_len]; exact hT2.up.1.symm
 have HL := Lib.hid (links8_yes t (trieP wss) (nodesL wss) wss W2 hT2 (by omega) HRD.out)
 rw [HN.out] at HL
 have HO2 := Lib.hid hO2
 have HT2 := Lib.hid hT2
 have HB2 := Lib.hid hB2
 clear hW2 hB12 hO2 hT2 hT1 hb1 hun s0 s1
 go_upto_region 7 with (go_at_call 48; refine HL.out.mono ?_; rintro e w3 ⟨q, rfl, hq, hql, hb3⟩)
 have hB3 : Below W.heap.size W w3 := HB2.out.trans (hb3.mono HB2.out.size)
 have hOr := HO.out.below hB3
 have s0 : w3.cell? ⟨w.heap.size, 0, none⟩ = some (.bool fold) := hOr.cell (i := 0) rfl rfl
 have s1 : w3.cell? ⟨w.heap.size, 1, none⟩ = some (.slice a la ca) := hOr.cell (i := 0) rfl rfl
 have HF := Lib.hid (of10_yes fold a la ca wss w3 (HA2.out.below hB3) hla HM.out HT.out HRT.out)
 rw [HMM.out] at HF
 have HT3 := Lib.hid (HT2.out.below hb3)
 have HO3 := Lib.hid (HO2.out.below hb3)
 have HQ3 := Lib.hid hq
 have HB3 := Lib.hid hB3
 have hw1 : w1.heap.size < w3.heap.size := (Array.getElem?_eq_some_iff.1 (HO3.out 0 _ rfl)).1
 have hwW : w.heap.size + 1 < W.heap.size := (Array.getElem?_eq_some_iff.1 (HO.out 1 _ rfl)).1
 clear hOr v0 v1 v2 v3 hq hb3 hB3
 have hs25 : (Tryz.zeroCells51).size = (((clsP fold wss).map (Value.int .i64)).toArray).size := by rw [zero25, rowI_size, rowI_size, clsP_len]; simp
 have hi25 : (Tryz.prog.info? 51).map (·.size) = some (((clsP fold wss).map (Value.int .i64)).toArray).size := by rw [rowI_size, clsP_len]; exact info25
 have HS25 := Lib.hid hs25
 have HI25 := Lib.hid hi25
 clear hs25 hi25
 go_upto_region 10 with (first
  | (refine wpList_store_row rfl 51 _ _ rfl _ _ rfl rfl 51 _ (heap_alloc_new _ _) HI25.out HS25.out (rowI_one _) ?_)
  | (go_at_call 49; refine HF.out.mono ?_; rintro e w4 ⟨rfl, hb4⟩))
 rw [World.setRow_alloc_new]
 obtain ⟨w5, hw5⟩ : ∃ w5, w5 = w4.alloc (.cells ((clsP fold wss).map (Value.int .i64)).toArray 51) := ⟨_, rfl⟩
 have hB45 : Below w4.heap.size w4 w5 := by rw [hw5]; exact below_alloc _ _
 have hB5 : Below w3.heap.size w3 w5 := hb4.trans (hB45.mono hb4.size)
 have HK5 : Hid (w5.heap[w4.heap.size]? = some (.cells ((clsP fold wss).map (Value.int .i64)).toArray 51 (0, 0))) := by rw [Hid, hw5]; exact heap_alloc_new _ _
 have hl45 : w4.heap.size < w5.heap.size := (Array.getElem?_eq_some_iff.1 HK5.out).1
 rw [← hw5]
 clear hw5
 have hO5 := HO3.out.below hB5
 have v0 : w5.cell? ⟨w1.heap.size, 0, none⟩ = some (.slice t.ua t.un t.uc) := hO5.cell (i := 0) rfl rfl
 have v1 : w5.cell? ⟨w1.heap.size, 1, none⟩ = some (.slice t.da t.dn t.dc) := hO5.cell (i := 0) rfl rfl
 have v2 : w5.cell? ⟨w1.heap.size, 2, none⟩ = some (.slice t.xa t.xn t.xc) := hO5.cell (i := 0) rfl rfl
 have v3 : w5.cell? ⟨w1.heap.size, 3, none⟩ = some (.slice t.ba t.bn t.bc) := hO5.cell (i := 0) rfl rfl
 have HT5 := Lib.hid (HT3.out.below hB5)
 have HLO : Hid (lowT t w5.heap.size) := by
  have hp : 0 < (nodesL wss).length := by rw [HN.out]; exact hpos
  exact lowT_of HT5.out (by simpa [trieP] using hp) (by simpa [trieP] using hp) (by simpa [trieP] using hp) (by simpa [trieP] using hp)
 have HQ5 : Hid (IntRow q (linksP wss) w5) := (hB5.block q HQ3.out.lt).trans HQ3.out
 have hB35 := HB3.out.trans (hB5.mono HB3.out.size)
 have HRo : Hid (w5.heap[w.heap.size + 1]? = some (.cells Tryz.zeroCells109 109 (0, 0))) := (HO.out.below hB35) 1 _ rfl
 have HB05 := Lib.hid (hB.trans (hB35.mono hB.size))
 have hw5s : w.heap.size + 1 < w5.heap.size := (Array.getElem?_eq_some_iff.1 HRo.out).1
 clear hO5 hB5 hB45 hb4 s0 s1 hB35 hB
 obtain ⟨Z, hZ⟩ : ∃ Z, (makC (List.replicate 256 0) 0 (.slice none 0 0) t (.slice (some ⟨q, 0, none⟩) n n)).toArray = Z := ⟨_, rfl⟩
 have HBU : Hid (Tryz.prog.built 172 [(1, Value.agg #[.slice t.ua t.un t.uc, .slice t.da t.dn t.dc, .slice t.xa t.xn t.xc, .slice t.ba t.bn t.bc]), (2, .slice (some ⟨q, 0, none⟩) n n)] = some Z) := by rw [Hid, built59, hZ]
 have HZs : Hid (Z.size = 263) := by rw [Hid, ← hZ]; exact makC_size (by simp) _ _ _ _
 have HZ1 : Hid (Z.all (·.oneCell') = true) := by rw [Hid, ← hZ]; exact makC_one _ _ _ _ _ rfl rfl
 have HZi : Hid ((Tryz.prog.info? 172).map (·.size) = some Z.size) := by rw [Hid, HZs.out]; exact info59
 have HZo : Hid (Tryz.zeroCells172.size = Z.size) := by rw [Hid, HZs.out]; exact zero59
 have HZe := Lib.hid hZ
 clear hZ
 iterate 7 (first | go_values | go_skip | go_guarded | go_step)
 refine wpList_build_to rfl 172 _ rfl Z (by go_simp; exact HBU.out) ?_
 iterate 3 (first | go_values | go_skip | go_guarded | go_step)
 refine wpList_store_row rfl 172 _ _ rfl w5.heap.size Z rfl rfl 172 _ (heap_alloc_new _ _) HZi.out HZo.out HZ1.out ?_
 rw [World.setRow_alloc_new]
 obtain ⟨w6, hw6⟩ : ∃ w6, w6 = w5.alloc (.cells Z 172) := ⟨_, rfl⟩
 have hB56 : Below w5.heap.size w5 w6 := by rw [hw6]; exact below_alloc _ _
 have hM6 : Mk w6 w5.heap.size (List.replicate 256 0) 0 (.slice none 0 0) t (.slice (some ⟨q, 0, none⟩) n n) := ⟨by rw [hw6, HZe.out]; exact heap_alloc_new _ _, by simp⟩
 have hw56 : w5.heap.size < w6.heap.size := hM6.lt
 have HK6 : Hid (w6.heap[w4.heap.size]? = some (.cells ((clsP fold wss).map (Value.int .i64)).toArray 51 (0, 0))) := (hB56.block _ hl45).trans HK5.out
 have HT6 := Lib.hid (HT5.out.below hB56)
 have HQ6 : Hid (IntRow q (linksP wss) w6) := (hB56.block q HQ5.out.lt).trans HQ5.out
 have hq5 := HQ5.out.lt
 have HRo6 : Hid (w6.heap[w.heap.size + 1]? = some (.cells Tryz.zeroCells109 109 (0, 0))) := (hB56.block _ hw5s).trans HRo.out
 have HB6 : Hid (Below w.heap.size w w6) := HB05.out.trans (hB56.mono (by omega))
 rw [← hw6]
 obtain ⟨M, hMe⟩ : ∃ M, w5.heap.size = M := ⟨_, rfl⟩
 rw [hMe] at hM6 HLO hw56 hw5s hq5 ⊢
 have hb6 := hM6.box
 rw [makC_eq] at hb6
 have HLL : Hid (((clsP fold wss).map (Value.int .i64)).length = ((List.replicate 256 (0 : Int)).map (Value.int .i64)).length) := by rw [Hid, List.length_map, List.length_map, clsP_len, List.length_replicate]
 have HBB6 := Lib.hid hb6
 have HM6 := Lib.hid hM6
 clear hw6 hB56 HK5 HT5 HQ5 HRo HB05 HZi HZo HZ1 HZs HBU HZe v0 v1 v2 v3 hb6 hM6 hl45 hMe
 go_upto_region 11 with fail
 iterate 1 (first | go_values | go_skip | go_guarded | go_step)
 refine wpList_load_row rfl 51 _ rfl w4.heap.size rfl 51 _ (0, 0) _ HK6.out Tryz.underlying51 rfl HI25.out ?_
 iterate 9 (first | go_values | go_skip | go_guarded | go_step)
 refine wpList_store_head rfl 51 _ _ rfl M ((clsP fold wss).map (Value.int .i64)) _ _ rfl rfl 172 HBB6.out HLL.out HI25.out (rowI_one _) ?_
 rw [← makC_eq]
 obtain ⟨w7, hw7⟩ : ∃ w7, w7 = w6.setRow M (makC (clsP fold wss) 0 (.slice none 0 0) t (.slice (some ⟨q, 0, none⟩) n n)).toArray := ⟨_, rfl⟩
 have hM7 : Mk w7 M (clsP fold wss) 0 (.slice none 0 0) t (.slice (some ⟨q, 0, none⟩) n n) := ⟨by rw [hw7]; exact setRow_heap w6 M _ _ _ _ HM6.out.box, clsP_len _ _⟩
 have hB7 : RowKit.Below M w6 w7 := by rw [hw7]; exact below_setRow (Below.refl _ _) (Nat.le_refl _) _
 have HS7 : Hid (w7.heap.size = w6.heap.size) := by rw [Hid, hw7, setRow_size]
 rw [← hw7]
 have c256 := hM7.cells.1
 have f256 := hM7.frozen 256
 have HM7 := Lib.hid hM7
 have HB7 := Lib.hid hB7
 clear hw7 hM7 hB7 HK6 HBB6 HLL
 go_upto_region 12 with fail
 obtain ⟨w8, hw8⟩ : ∃ w8, w8 = w7.setCell ⟨M, 256, none⟩ (.int .i64 (m : Int)) := ⟨_, rfl⟩
 have hM8 : Mk w8 M (clsP fold wss) (m : Int) (.slice none 0 0) t (.slice (some ⟨q, 0, none⟩) n n) := by rw [hw8]; exact HM7.out.setMany _
 have hB8 : RowKit.Below M w6 w8 := by rw [hw8]; exact HB7.out.setCell (Nat.le_refl _) _
 have hs8 : w8.heap.size = w6.heap.size := by rw [hw8]; simpa using HS7.out
 rw [← hw8]
 have HS8 := Lib.hid hs8
 clear hs8
 have c257 := hM8.cells.2.1
 have f257 := hM8.frozen 257
 have hM8s : M < w8.heap.size := by rw [HS8.out]; exact hw56
 have HM8 := Lib.hid hM8
 have HB8 := Lib.hid hB8
 have hmk : ∀ V : World, (Instr.makeSlice 32 (.int .i64 Q) (.int .i64 Q)).run Tryz.prog V = .ok (.slice (some ⟨V.heap.size, 0, none⟩) Q Q) (V.alloc (.cells (intsNil Q) 3)) := fun V => by
  obtain ⟨i0, hi, hz0, hz1, hz2⟩ := info_parts i64_info7
  have h := run_makeSlice (P := Tryz.prog) (w := V) 32 3 i0 (.int .i64 0) Tryz.underlying32 hi hz0 .i64 .i64 (Q : Int) (Q : Int) (by omega) (by omega) (by rw [hz1]; omega) (by rw [hz2]; omega) (by omega)
  rw [hz1] at h
  have e1 : (Q : Int).toNat * 1 = Q := by omega
  rw [e1, made_ints, Int.toNat_natCast] at h
  exact h
 clear hw8 hM8 hB8 c256 f256
 go_upto_region 13 with fail
 obtain ⟨R, hR⟩ : ∃ R, w8.heap.size = R := ⟨_, rfl⟩
 rw [hR]
 have hw6R : w6.heap.size = R := HS8.out.symm.trans hR
 obtain ⟨w9, hw9⟩ : ∃ w9, w9 = (w8.setCell ⟨M, 257, none⟩ (.slice (some ⟨R, 0, none⟩) Q Q)).alloc (.cells (intsNil Q) 3) := ⟨_, rfl⟩
 have hsc : (w8.setCell ⟨M, 257, none⟩ (.slice (some ⟨R, 0, none⟩) Q Q)).heap.size = R := by simp [hR]
 have HSC := Lib.hid hsc
 clear hsc
 have hB89 : RowKit.Below M w8 w9 := by rw [hw9]; exact ((Below.refl M w8).setCell (p := ⟨M, 257, none⟩) (Nat.le_refl _) _).alloc (by rw [HSC.out, ← hR]; exact Nat.le_of_lt hM8s) _
 have hM9 : Mk w9 M (clsP fold wss) (m : Int) (.slice (some ⟨R, 0, none⟩) (m * n) (m * n)) t (.slice (some ⟨q, 0, none⟩) n n) := by rw [hw9, HQ.out]; exact (HM8.out.setRows _).below (below_alloc _ _)
 have hR9 : IntRow R (List.replicate Q 0) w9 := by
  have h := IntRow.new (w8.setCell ⟨M, 257, none⟩ (.slice (some ⟨R, 0, none⟩) Q Q)) Q
  rw [HSC.out] at h
  rw [hw9]
  exact h
 have hs9 : w9.heap.size = R + 1 := by rw [hw9, World.size_alloc, HSC.out]
 rw [← hw9]
 have hB69 : RowKit.Below M w6 w9 := HB8.out.trans hB89
 have HT9 := Lib.hid (HT6.out.keep hB69 (by omega) HLO.out)
 have HQ9 : Hid (IntRow q (linksP wss) w9) := (hB69.block q hq5).trans HQ6.out
 have HRo9 : Hid (w9.heap[w.heap.size + 1]? = some (.cells Tryz.zeroCells109 109 (0, 0))) := (hB69.block _ hw5s).trans HRo6.out
 have HB9 : Hid (Below w.heap.size w w9) := HB6.out.trans (hB69.mono (by omega))
 have HLO9 : Hid (lowT t R) := fun a h => Nat.lt_of_lt_of_le (HLO.out a h) (by omega)
 have hMR : M < R := by omega
 have hqR : q < R := by omega
 have HM9 := Lib.hid hM9
 have HR9 := Lib.hid hR9
 clear hmk c257 f257 hw9 hB89 hM9 hR9 hB69 HT6 HQ6 HRo6 HB6 hR e1
 have HFI : Hid (∀ (V : World) (i : Nat), i < n → IntRow R (tabF fold wss i) V → RowKit.Below R w9 V → Calls Tryz.prog 96 #[.pointer (some ⟨M, 0, none⟩), .int .i64 (i : Int)] V fun e w' => e = .returned (.tuple #[]) ∧ IntRow R (tabF fold wss (i + 1)) w' ∧ RowKit.Below R V w') := fun V i hi hr hb => by
  have hX := List.getElem?_eq_getElem (show i < (nodesL wss).length by rw [HN.out]; exact hi)
  have h := fill11_any t (trieP wss) M R q n m i (clsP fold wss) (tabF fold wss i) (linksP wss) V (HT9.out.keep hb (by omega) HLO9.out) (by simp [trieP]) (by rw [up_len, HN.out]; omega) (HM9.out.keep hb hMR) (fun c v hv => by have := cls_low HG.out c v hv; rw [HMM.out] at this; exact this) ⟨hMR, hqR⟩ HLO9.out ((hb.block q hqR).trans HQ9.out) (by rw [linksP_len, HN.out]) hr (by rw [(tab_ok HG.out HB5.out (i := i) (by rw [HN.out]; omega)).1, HMM.out, HN.out]) hi (by omega) hm257.1 (by omega) (fun h0 => by obtain ⟨k, h1, h2, _⟩ := link_low hX h0; exact ⟨k, h1, by omega⟩)
  rw [← HMM.out] at h
  exact h
 go_wp2_with fail
 go_loopw [10, 54] (fun s10 s54 wr => ∃ i : Nat, i ≤ n ∧ s54 = .int .i64 i ∧ Hid (IntRow R (tabF fold wss i) wr) ∧ Hid (RowKit.Below R w9 wr)) (fun _ s _ => n - (intOf s).toNat)
 case atStart => exact ⟨0, Nat.zero_le _, rfl, by show IntRow R (List.replicate (manyP fold wss * (nodesL wss).length) 0) _; rw [HMM.out, HN.out, HQ.out]; exact HR9.out, Below.refl _ _⟩
 case round =>
  obtain ⟨i, hi, rfl, hr, hb⟩ := hrel
  by_cases hil : i < n
  ·
   have hd : decide ((i : Int) < (n : Int)) = true := by simp; omega
   go_wp2_with (go_at_call 96; refine (HFI.out wr i hil hr.out hb.out).mono ?_; rintro e wf ⟨rfl, hrf, hbf⟩)
   go_roundw
   case rel => exact ⟨i + 1, by omega, by go_num, hrf, hb.out.trans hbf⟩
   case measure => simp [intOf]; omega
  ·
   obtain rfl : i = n := by omega
   have hd : decide ((i : Int) < (i : Int)) = false := by simp
   have hMr := (HM9.out.keep hb.out hMR).box
   rw [makC_dv, HQ.out] at hMr
   have hrg := rangeAt_head hMr
   have hzl : (dvC (clsP fold wss) (m : Int) (.slice (some ⟨R, 0, none⟩) Q Q)).toArray.size = 258 := dvC_size (clsP_len _ _) _ _
   have hz1 := dvC_one (clsP fold wss) (m : Int) (.slice (some ⟨R, 0, none⟩) Q Q) rfl
   obtain ⟨Z, hZ⟩ : ∃ Z, dvC (clsP fold wss) (m : Int) (.slice (some ⟨R, 0, none⟩) Q Q) = Z := ⟨_, rfl⟩
   rw [hZ] at hrg hzl hz1
   have HRG := Lib.hid hrg
   have HZ1 := Lib.hid hz1
   have HZi : Hid ((Tryz.prog.info? 109).map (·.size) = some Z.toArray.size) := by rw [Hid, hzl]; exact info28
   have HZl : Hid ((Tryz.prog.info? 109).map (·.size) = some Z.length) := by rw [Hid, show Z.length = 258 by simpa using hzl]; exact info28
   have HZo : Hid (Tryz.zeroCells109.size = Z.toArray.size) := by rw [Hid, hzl, zero28]; exact dvC_size (by simp) _ _
   have HZe := Lib.hid hZ
   have HRr : Hid (wr.heap[w.heap.size + 1]? = some (.cells Tryz.zeroCells109 109 (0, 0))) := (hb.out.block _ (by omega)).trans HRo9.out
   have H2 := Lib.hid (setRow_heap wr (w.heap.size + 1) _ Z.toArray _ _ HRr.out)
   clear hMr hrg hzl hz1 hZ
   go_upto_region 18 with fail
   iterate 4 (first | go_values | go_skip | go_guarded | go_step)
   refine wpList_load_mid rfl 109 _ rfl M 0 rfl Z _ HRG.out Tryz.underlying109 rfl HZl.out ?_
   refine wpList_store_row rfl 109 _ _ rfl (w.heap.size + 1) Z.toArray rfl rfl 109 _ HRr.out HZi.out HZo.out HZ1.out ?_
   go_wp2_with fail
   refine bodyPost_ret (results_dense2 rfl rfl H2.out HZi.out) rfl ?_
   refine ⟨R, by rw [HZe.out]; rfl, ?_, by omega, below_setRow (HB9.out.trans (hb.out.mono (by omega))) (by omega) _⟩
   have hf : IntRow R (tabP fold wss) wr := by show IntRow R (tabF fold wss (nodesL wss).length) wr; rw [HN.out]; exact hr.out
   exact (setRow_other _ _ _ _ (by omega)).trans hf
end Go.Proofs.YtbldfgaogmfoaaaGreat

/- Where a set's table leads (layer 11): plain. -/

namespace Go.Proofs.YtbldfgaogmfoaaaGreat

/-- A byte as a set has it: small, if the set folds. -/
def fcB (fold : Bool) (c : Int) : Int := if fold = true then foldI c else c
theorem foldL_fcB (fold : Bool) (b : List Int) : foldL fold b = b.map (fcB fold) := by
 unfold foldL fcB
 cases fold <;> simp
theorem fcB_byte {fold : Bool} {c : Nat} (hc : c < 256) : ∃ d : Nat, fcB fold (c : Int) = (d : Int) ∧ d < 256 := by
 unfold fcB foldI
 cases fold
 · exact ⟨c, by simp, hc⟩
 ·
  by_cases h : (65 : Int) ≤ (c : Int) ∧ (c : Int) ≤ 90
  ·
   refine ⟨c + 32, ?_, by omega⟩
   rw [if_pos rfl, if_pos h]; omega
  · exact ⟨c, by rw [if_pos rfl, if_neg h], hc⟩
/-- A byte is one of a set's just if, folded, it stands in a word. -/
theorem inB_fc {fold : Bool} {ws : List (List Int)} (hg : noGreat fold ws) {c : Int} : inB fold ws c = true ↔ wordB ws (fcB fold c) := by
 rw [inB_iff]
 unfold fcB foldI smallI
 cases fold with
 | false => simp
 | true =>
  have g := hg rfl
  simp only [if_true, decide_eq_true_iff, true_and]
  constructor
  ·
   rintro ⟨x, h1, h2⟩
   have g1 := g x h1
   rcases h2 with rfl | ⟨h3, h4⟩
   · rw [if_neg g1]; exact h1
   · rw [if_pos (by omega), show c + 32 = x by omega]; exact h1
  ·
   intro h
   split at h
   · exact ⟨c + 32, h, .inr ⟨by omega, by omega⟩⟩
   · exact ⟨c, h, .inl rfl⟩
theorem clsO_fc {fold : Bool} {ws : List (List Int)} {c d : Nat} (h : fcB fold (c : Int) = (d : Int)) : clsO (inB fold ws) fold c = clsO (inB fold ws) fold d := by
 unfold clsO
 have e : repB fold c = repB fold d := by
  unfold repB smallI
  unfold fcB foldI at h
  cases fold with
  | false => simp at h; simp; omega
  | true =>
   simp only [if_true] at h
   simp only [Bool.true_and, decide_eq_true_iff]
   split at h
   · rw [if_neg (by omega), if_pos (by omega)]; omega
   ·
    have : c = d := by omega
    rw [this]
 rw [e]
theorem cls_in {fold : Bool} {ws : List (List Int)} (hg : noGreat fold ws) {c : Nat} (hc : c < 256) : (clsP fold ws)[c]? = some (if inB fold ws c = true then (clsO (inB fold ws) fold c : Int) else 0) := by
 cases hp : inB fold ws (c : Int) with
 | false => rw [if_neg (by simp)]; exact cls_no hp hc
 | true => rw [if_pos rfl]; exact cls_rep (inB_shut hg) hp hc
theorem goes_no {ws : List (List Int)} {x : List Int} {c : Int} (h : ¬ wordB ws c) : lsf (nodesL ws) (x ++ [c]) = [] := by
 have h0 : ([] : List Int) ∈ nodesL ws := (mem_nodesL ws).2 (.inl rfl)
 refine lsf_unique h0 (List.nil_suffix) h0 (fun z hz hm => ?_)
 rcases List.eq_nil_or_concat z with rfl | ⟨y, d, rfl⟩
 · simp
 ·
  exfalso
  rw [List.concat_eq_append] at hz hm
  obtain ⟨t, ht⟩ := hz
  rw [← List.append_assoc] at ht
  have := (List.append_inj' ht rfl).2
  have e : d = c := by simpa using this
  subst e
  exact h (node_word hm)
/-- A table's states: a node, by its number. -/
def nodeI (ws : List (List Int)) (x : List Int) : Int := placeS (nodesL ws) x
theorem nodeI_at {ws : List (List Int)} {j : Nat} {x : List Int} (h : (nodesL ws)[j]? = some x) : nodeI ws x = (j : Int) := placeS_at (nodesL_srt ws).nodup h
theorem node_ex {ws : List (List Int)} {x : List Int} (h : x ∈ nodesL ws) : ∃ j : Nat, (nodesL ws)[j]? = some x ∧ nodeI ws x = (j : Int) ∧ j < (nodesL ws).length := by
 obtain ⟨j, hj⟩ := List.getElem?_of_mem h
 exact ⟨j, hj, nodeI_at hj, (List.getElem?_eq_some_iff.1 hj).1⟩

/-- A set that may be: what its table wants. -/
structure OkT (fold : Bool) (ws : List (List Int)) : Prop where
 great : noGreat fold ws
 byt : ∀ x, wordB ws x → 0 ≤ x ∧ x ≤ 255
 pos : 0 < (nodesL ws).length
theorem tabP_len {fold : Bool} {ws : List (List Int)} (h : OkT fold ws) : (tabP fold ws).length = manyP fold ws * (nodesL ws).length := (tab_ok h.great h.byt (Nat.le_refl _)).1
theorem many_pos (fold : Bool) (ws : List (List Int)) : 1 ≤ manyP fold ws := (clsN_many _ _ _).1
theorem states_tab {fold : Bool} {ws : List (List Int)} (h : OkT fold ws) : statesZ (manyP fold ws) (tabP fold ws).length = ((nodesL ws).length : Int) := by
 have := many_pos fold ws
 unfold statesZ
 rw [tabP_len h, if_neg (by omega), ← Int.natCast_ediv, Nat.mul_div_cancel_left _ (by omega)]
/-- Where the table leads from a node by a byte: to the longest end that is a node. -/
theorem goD_tab {fold : Bool} {ws : List (List Int)} (h : OkT fold ws) {j : Nat} {x : List Int} (hx : (nodesL ws)[j]? = some x) {c : Nat} (hc : c < 256) :
  goD (clsP fold ws) (manyP fold ws) (tabP fold ws) j c = some (nodeI ws (lsf (nodesL ws) (x ++ [fcB fold c]))) := by
 have hj := (List.getElem?_eq_some_iff.1 hx).1
 have hm := many_pos fold ws
 obtain ⟨h1, h2⟩ := tab_at h.great h.byt hx
 obtain ⟨v, hv⟩ : ∃ v : Nat, (clsP fold ws)[c]? = some (v : Int) ∧ v < manyP fold ws ∧ (tabP fold ws)[j * manyP fold ws + v]? = some (nodeI ws (lsf (nodesL ws) (x ++ [fcB fold c]))) := by
  rw [cls_in h.great hc]
  by_cases hp : inB fold ws (c : Int) = true
  ·
   rw [if_pos hp]
   refine ⟨_, rfl, clsO_lt (inB_shut h.great) hp hc, ?_⟩
   obtain ⟨d, hd, hd2⟩ := fcB_byte (fold := fold) hc
   have hw := (inB_fc h.great).1 hp
   rw [hd] at hw ⊢
   rw [clsO_fc hd]
   exact h2 d hw
  ·
   rw [if_neg hp]
   refine ⟨0, rfl, by omega, ?_⟩
   rw [goes_no (fun hw => hp ((inB_fc h.great).2 hw)), nodeI_at (nodesL_head ws), Nat.add_zero]
   exact h1
 obtain ⟨hv1, hv2, hv3⟩ := hv
 unfold goD
 rw [states_tab h, hv1, Option.getD_some, if_neg (by rintro ((h | h) | (h | h)) <;> omega)]
 rw [show ((j : Int) * (manyP fold ws : Int) + (v : Int)).toNat = j * manyP fold ws + v by rw [← Int.natCast_mul]; omega]
 exact hv3
theorem goD_out {fold : Bool} {ws : List (List Int)} (h : OkT fold ws) {j : Int} (hj : j < 0 ∨ ((nodesL ws).length : Int) ≤ j) (c : Nat) : goD (clsP fold ws) (manyP fold ws) (tabP fold ws) j c = none := by
 unfold goD
 rw [states_tab h, if_pos (.inr hj)]
theorem okT {fold : Bool} {ws : List (List Int)} (hr : rightP fold ws = true) (hb : ∀ x ∈ ws, ∀ c ∈ x, 0 ≤ c ∧ c ≤ 255) : OkT fold ws :=
 ⟨noGreat_of (right_nodup hr).2, fun x ⟨w, h1, h2⟩ => hb w h1 x h2, List.length_pos_iff.2 (nodesL_ne ws)⟩
end Go.Proofs.YtbldfgaogmfoaaaGreat

/- Next nodes, nodes' words by numbers (layer 9): plain. -/

namespace Go.Proofs.YtbldfgaogmfoaaaGreat
open Go Go.RowKit Go.Sort

/-- The next node that is a word, over rows of links and of words; 0: none. -/
def nxN (L wd : List Int) : Nat → Nat → Nat
 | 0, _ => 0
 | f + 1, z => if z = 0 then 0 else if 0 ≤ (wd[((L[z]?).getD 0).toNat]?).getD (-1) then ((L[z]?).getD 0).toNat else nxN L wd f ((L[z]?).getD 0).toNat
theorem nxN_zero (L wd : List Int) (f : Nat) : nxN L wd f 0 = 0 := by cases f <;> simp [nxN]
theorem nxN_fuel {L wd : List Int} {B : Nat} (hL : ∀ z, 0 < z → z ≤ B → ((L[z]?).getD 0).toNat < z) : ∀ {f g z : Nat}, z ≤ B → z ≤ f → z ≤ g → nxN L wd f z = nxN L wd g z
 | 0, g, z, hb, hf, hg => by
  obtain rfl : z = 0 := by omega
  rw [nxN_zero, nxN_zero]
 | f + 1, 0, z, hb, hf, hg => by
  obtain rfl : z = 0 := by omega
  rw [nxN_zero, nxN_zero]
 | f + 1, g + 1, z, hb, hf, hg => by
  unfold nxN
  by_cases h0 : z = 0
  · rw [if_pos h0, if_pos h0]
  ·
   rw [if_neg h0, if_neg h0]
   have := hL z (by omega) hb
   split
   · rfl
   · exact nxN_fuel hL (by omega) (by omega) (by omega)
def nx (ws : List (List Int)) (z : Nat) : Nat := nxN (linksP ws) (trieP ws).wrd z z
def nextsP (ws : List (List Int)) : List Int := (List.range (nodesL ws).length).map fun z => (nx ws z : Int)
section
variable {ws : List (List Int)}
theorem links_num {z : Nat} {x : List Int} (hx : (nodesL ws)[z]? = some x) : ∃ k : Nat, (linksP ws)[z]? = some (k : Int) ∧ (z = 0 → k = 0) ∧ (0 < z → k < z) ∧ (nodesL ws)[k]? = some (linkL (nodesL ws) x) := by
 by_cases h0 : z = 0
 ·
  subst h0
  have hx0 := (node_zero hx).1 rfl
  subst hx0
  have hz : linkI ws [] = 0 := placeS_at (nodesL_srt ws).nodup (nodesL_head ws)
  exact ⟨0, by rw [linksP_at hx, hz]; rfl, fun _ => rfl, fun h => absurd h (Nat.lt_irrefl 0), nodesL_head ws⟩
 ·
  obtain ⟨k, h1, h2, h3⟩ := (linksOK ws (z + 1)).at_ (Nat.lt_succ_self z) hx h0
  exact ⟨k, h1, fun h => absurd h h0, fun _ => h2, h3⟩
theorem links_lt {z : Nat} (h0 : 0 < z) (hz : z < (nodesL ws).length) : (((linksP ws)[z]?).getD 0).toNat < z := by
 obtain ⟨k, h1, _, h3, _⟩ := links_num (ws := ws) (z := z) (x := (nodesL ws)[z]) (by simp)
 rw [h1]
 simpa using h3 h0
theorem nx_zero (ws : List (List Int)) : nx ws 0 = 0 := nxN_zero _ _ _
theorem nx_rec {z k : Nat} (h0 : 0 < z) (hz : z < (nodesL ws).length) (hk : (linksP ws)[z]? = some (k : Int)) {v : Int} (hv : (trieP ws).wrd[k]? = some v) : nx ws z = if 0 ≤ v then k else nx ws k := by
 obtain ⟨f, rfl⟩ : ∃ f, z = f + 1 := ⟨z - 1, by omega⟩
 have hlt := links_lt h0 hz
 unfold nx
 conv => lhs; unfold nxN
 rw [hk, Option.getD_some, Int.toNat_natCast] at hlt ⊢
 rw [if_neg (by omega), hv, Option.getD_some]
 split
 · rfl
 · exact nxN_fuel (B := f) (fun z h1 h2 => links_lt h1 (by omega)) (by omega) (by omega) (Nat.le_refl _)
theorem wrd_len (ws : List (List Int)) : (trieP ws).wrd.length = (nodesL ws).length ∧ (trieP ws).dep.length = (nodesL ws).length ∧ (trieP ws).up.length = (nodesL ws).length ∧ (trieP ws).byt.length = (nodesL ws).length := by simp [trieP]
/-- What is next: it is ahead, has fewer bytes, and is a word or the root. -/
theorem nx_law : ∀ {z : Nat} {x : List Int}, (nodesL ws)[z]? = some x → ∃ y, (nodesL ws)[nx ws z]? = some y ∧ (0 < z → nx ws z < z ∧ y.length < x.length) ∧ (0 < nx ws z → ∃ v : Int, (trieP ws).wrd[nx ws z]? = some v ∧ 0 ≤ v) := by
 intro z
 induction z using Nat.strongRecOn with
 | _ z ih =>
  intro x hx
  have hz := (List.getElem?_eq_some_iff.1 hx).1
  by_cases h0 : z = 0
  ·
   subst h0
   exact ⟨[], by rw [nx_zero]; exact nodesL_head ws, fun h => absurd h (Nat.lt_irrefl 0), fun h => by rw [nx_zero] at h; exact absurd h (Nat.lt_irrefl 0)⟩
  ·
   obtain ⟨k, h1, _, h3, h4⟩ := links_num hx
   have hx0 : x ≠ [] := fun e => h0 ((node_zero hx).2 e)
   have hl := linkL_len (N := nodesL ws) hx0
   have hkz := h3 (by omega)
   obtain ⟨v, hv⟩ : ∃ v, (trieP ws).wrd[k]? = some v := ⟨(trieP ws).wrd[k]'(by rw [(wrd_len ws).1]; omega), by simp⟩
   have hr := nx_rec (by omega) hz h1 hv
   by_cases hv0 : 0 ≤ v
   ·
    rw [if_pos hv0] at hr
    rw [hr]
    exact ⟨_, h4, fun _ => ⟨hkz, hl⟩, fun _ => ⟨v, hv, hv0⟩⟩
   ·
    rw [if_neg hv0] at hr
    obtain ⟨y, e1, e2, e3⟩ := ih k hkz h4
    rw [hr]
    refine ⟨y, e1, fun _ => ?_, e3⟩
    by_cases hk0 : k = 0
    ·
     subst hk0
     rw [nx_zero] at e1 ⊢
     rw [nodesL_head] at e1
     have hy := Option.some.inj e1
     rw [← hy]
     refine ⟨by omega, ?_⟩
     have : x.length ≠ 0 := fun e => hx0 (List.eq_nil_of_length_eq_zero e)
     simp
     omega
    ·
     obtain ⟨e4, e5⟩ := e2 (by omega)
     exact ⟨by omega, by omega⟩
theorem nextsP_at {z : Nat} (hz : z < (nodesL ws).length) : (nextsP ws)[z]? = some (nx ws z : Int) := by simp [nextsP, hz]
theorem nextsP_len (ws : List (List Int)) : (nextsP ws).length = (nodesL ws).length := by simp [nextsP]
end

/-- The nodes of a node's words, by numbers. -/
def endsN (nxt wd : List Int) : Nat → Nat → List Nat
 | 0, _ => []
 | f + 1, z => if z = 0 then [] else (if 0 ≤ (wd[z]?).getD (-1) then [z] else []) ++ endsN nxt wd f ((nxt[z]?).getD 0).toNat
theorem endsN_zero (nxt wd : List Int) (f : Nat) : endsN nxt wd f 0 = [] := by cases f <;> simp [endsN]
theorem endsN_succ (nxt wd : List Int) (f z : Nat) : endsN nxt wd (f + 1) z = if z = 0 then [] else (if 0 ≤ (wd[z]?).getD (-1) then [z] else []) ++ endsN nxt wd f ((nxt[z]?).getD 0).toNat := rfl
theorem endsN_fuel {nxt wd : List Int} {B : Nat} (hL : ∀ z, 0 < z → z ≤ B → ((nxt[z]?).getD 0).toNat < z) : ∀ {f g z : Nat}, z ≤ B → z ≤ f → z ≤ g → endsN nxt wd f z = endsN nxt wd g z
 | 0, g, z, hb, hf, hg => by
  obtain rfl : z = 0 := by omega
  rw [endsN_zero, endsN_zero]
 | f + 1, 0, z, hb, hf, hg => by
  obtain rfl : z = 0 := by omega
  rw [endsN_zero, endsN_zero]
 | f + 1, g + 1, z, hb, hf, hg => by
  unfold endsN
  by_cases h0 : z = 0
  · rw [if_pos h0, if_pos h0]
  ·
   rw [if_neg h0, if_neg h0]
   have := hL z (by omega) hb
   rw [endsN_fuel hL (show ((nxt[z]?).getD 0).toNat ≤ B by omega) (show _ ≤ f by omega) (show _ ≤ g by omega)]
theorem endsN_len (nxt wd : List Int) : ∀ (f z : Nat), (endsN nxt wd f z).length ≤ f
 | 0, z => by simp [endsN]
 | f + 1, z => by
  unfold endsN
  split
  · simp
  ·
   have := endsN_len nxt wd f ((nxt[z]?).getD 0).toNat
   rw [List.length_append]
   split <;> simp <;> omega
/-- A node's words' nodes. -/
def ends9 (ws : List (List Int)) (z : Nat) : List Nat := endsN (nextsP ws) (trieP ws).wrd z z
theorem nexts_lt {ws : List (List Int)} {z : Nat} (h0 : 0 < z) (hz : z < (nodesL ws).length) : (((nextsP ws)[z]?).getD 0).toNat < z := by
 rw [nextsP_at hz, Option.getD_some, Int.toNat_natCast]
 obtain ⟨y, _, h, _⟩ := nx_law (ws := ws) (z := z) (x := (nodesL ws)[z]) (by simp)
 exact (h h0).1
theorem ends9_rec {ws : List (List Int)} {z : Nat} (h0 : 0 < z) (hz : z < (nodesL ws).length) : ends9 ws z = (if 0 ≤ ((trieP ws).wrd[z]?).getD (-1) then [z] else []) ++ ends9 ws (nx ws z) := by
 obtain ⟨f, rfl⟩ : ∃ f, z = f + 1 := ⟨z - 1, by omega⟩
 have hlt := nexts_lt h0 hz
 unfold ends9
 rw [endsN_succ, if_neg (by omega)]
 rw [nextsP_at hz, Option.getD_some, Int.toNat_natCast] at hlt ⊢
 congr 1
 exact endsN_fuel (B := f) (fun z h1 h2 => nexts_lt h1 (by omega)) (by omega) (by omega) (Nat.le_refl _)

end Go.Proofs.YtbldfgaogmfoaaaGreat

/- Next nodes (layer 9): walked. -/

namespace Go.Proofs.YtbldfgaogmfoaaaGreat
open Go.RowKit Go.Sort

/-- A row that is filled in one by one. -/
def nTo (P : List Int) (n j : Nat) : List Int := P.take j ++ List.replicate (n - j) 0
theorem nTo_len {P : List Int} {n j : Nat} (hn : P.length = n) (hj : j ≤ n) : (nTo P n j).length = n := by
 unfold nTo
 rw [List.length_append, List.length_take, List.length_replicate]
 omega
theorem nTo_at {P : List Int} {n j i : Nat} (hi : i < j) (hj : j ≤ n) (hn : P.length = n) : (nTo P n j)[i]? = P[i]? := by
 unfold nTo
 rw [List.getElem?_append_left (by rw [List.length_take]; omega), List.getElem?_take, if_pos hi]
theorem nTo_one {P : List Int} {n : Nat} (h1 : 1 ≤ n) (h0 : P[0]? = some 0) : nTo P n 1 = List.replicate n 0 := by
 obtain ⟨m, rfl⟩ : ∃ m, n = m + 1 := ⟨n - 1, by omega⟩
 have hs := take_step h0
 unfold nTo
 rw [hs, List.replicate_succ]
 simp
theorem nTo_set {P : List Int} {n j : Nat} {v : Int} (hn : P.length = n) (hj : j < n) (hv : P[j]? = some v) : (nTo P n j).set j v = nTo P n (j + 1) := by
 unfold nTo
 obtain ⟨m, hm⟩ : ∃ m, n - j = m + 1 := ⟨n - j - 1, by omega⟩
 have hl : (P.take j).length = j := by rw [List.length_take]; omega
 rw [List.set_append_right _ _ (by omega), hl, Nat.sub_self, hm, List.replicate_succ, List.set_cons_zero, take_step hv, show n - (j + 1) = m by omega, List.append_assoc]
 rfl
theorem nTo_all {P : List Int} {n : Nat} (hn : P.length = n) : nTo P n n = P := by
 unfold nTo
 rw [Nat.sub_self, List.replicate_zero, List.append_nil, List.take_of_length_le (by omega)]

/-- A trie with its next nodes, in memory of a call's own. -/
structure AlAt (W : World) (base g : Nat) (t : TV) (ws : List (List Int)) : Prop where
 ex : ∃ q : Nat, W.heap[g]? = some (.cells #[.slice t.ua t.un t.uc, .slice t.da t.dn t.dc, .slice t.xa t.xn t.xc, .slice t.ba t.bn t.bc, .slice (some ⟨q, 0, none⟩) (nodesL ws).length (nodesL ws).length] 177 (0, 0)) ∧ IntRow q (nextsP ws) W ∧ base ≤ g ∧ base ≤ q
theorem AlAt.below {W V : World} {base g : Nat} {t : TV} {ws : List (List Int)} (h : AlAt W base g t ws) (hb : Below W.heap.size W V) : AlAt V base g t ws := by
 obtain ⟨q, h1, h2, h3⟩ := h.ex
 exact ⟨q, (hb.block g (Array.getElem?_eq_some_iff.1 h1).1).trans h1, (hb.block q (Array.getElem?_eq_some_iff.1 (show W.heap[q]? = _ from h2)).1).trans h2, h3⟩

set_option maxRecDepth 100000 in
set_option maxHeartbeats 8000000 in
theorem read9_yes (t : TV) (T : TrieT) (sp ws : List (List Int)) (w : World) (hT : Tri w t T) (hb : t.un ≤ 140737488351232) (hr : readP T = some (sp, ws)) :
  Calls Tryz.prog 97 #[.agg t.cells] w fun e w' => ∃ g, e = .returned (.tuple #[.pointer (some ⟨g, 0, none⟩), .bool true]) ∧ AlAt w' w.heap.size g t ws ∧ Below w.heap.size w w' := by
 have hn400 := read_n hr
 obtain ⟨_, hTe, _⟩ := readP_iff.1 hr
 obtain ⟨ua, un, uc, da, dn, dc, xa, xn, xc, ba, bn, bc⟩ := t
 have hxn : xn = (nodesL ws).length := by have := hT.wrd.1; rw [hTe] at this; simp [trieP] at this; exact this.symm
 have HXN := Lib.hid hxn
 clear hxn
 have hn0 : 1 ≤ (nodesL ws).length := by
  have := nodesL_ne ws
  have : (nodesL ws).length ≠ 0 := fun e => this (List.eq_nil_of_length_eq_zero e)
  omega
 obtain ⟨W, hW⟩ : ∃ W, W = w.alloc (.cells #[.slice ua un uc, .slice da dn dc, .slice xa xn xc, .slice ba bn bc] 34) := ⟨_, rfl⟩
 have hB : Below w.heap.size w W := by rw [hW]; exact below_alloc _ _
 have hQ : W.heap[w.heap.size]? = some (.cells #[.slice ua un uc, .slice da dn dc, .slice xa xn xc, .slice ba bn bc] 34 (0, 0)) := by rw [hW]; exact World.alloc_heap_new _ _
 have c0 : W.cell? ⟨w.heap.size, 0, none⟩ = some (.slice ua un uc) := by simp [World.cell?, hQ]
 have c1 : W.cell? ⟨w.heap.size, 1, none⟩ = some (.slice da dn dc) := by simp [World.cell?, hQ]
 have c2 : W.cell? ⟨w.heap.size, 2, none⟩ = some (.slice xa xn xc) := by simp [World.cell?, hQ]
 have c3 : W.cell? ⟨w.heap.size, 3, none⟩ = some (.slice ba bn bc) := by simp [World.cell?, hQ]
 have HC := Lib.hid (links8_yes _ T sp ws W (hT.below hB) hb hr)
 have HWD : Hid (Sl1 (Value.int .i64) w xa xn (trieP ws).wrd) := by rw [Hid, ← hTe]; exact hT.wrd
 clear hT hr hTe
 go_enter Tryz.func97, Tryz.ntmps97
 go_upto_region 1 with fail
 rw [← hW]
 clear hW
 go_wp2_with fail
 refine HC.out.mono ?_
 rintro e A ⟨q0, rfl, hq0, hql0, hbA⟩
 have hBA := hB.trans (hbA.mono hB.size)
 have hQA : A.heap[w.heap.size]? = _ := (hbA.block _ (Array.getElem?_eq_some_iff.1 hQ).1).trans hQ
 clear c0 c1 c2 c3 hQ HC hB hbA
 have HWA := Lib.hid (HWD.out.below hBA)
 have HQA := Lib.hid hQA
 obtain ⟨n, hnn⟩ : ∃ n, (nodesL ws).length = n := ⟨_, rfl⟩
 have HNN := Lib.hid hnn
 have hxn := HXN.out
 rw [hnn] at hn400 hn0 hxn ⊢
 clear HXN
 replace hxn := hxn.symm
 subst hxn
 have hmk : ∀ V : World, (Instr.makeSlice 32 (.int .i64 n) (.int .i64 n)).run Tryz.prog V = .ok (.slice (some ⟨V.heap.size, 0, none⟩) n n) (V.alloc (.cells (intsNil n) 3)) := fun V => by
  obtain ⟨i0, hi, hz0, hz1, hz2⟩ := info_parts i64_info7
  have h := run_makeSlice (P := Tryz.prog) (w := V) 32 3 i0 (.int .i64 0) Tryz.underlying32 hi hz0 .i64 .i64 (n : Int) (n : Int) (by omega) (by omega) (by rw [hz1]; omega) (by rw [hz2]; omega) (by omega)
  rw [hz1] at h
  have e1 : (n : Int).toNat * 1 = n := by omega
  rw [e1, made_ints, Int.toNat_natCast] at h
  exact h
 clear hnn
 have hlt0 : w.heap.size < A.heap.size := (Array.getElem?_eq_some_iff.1 hQA).1
 have hne0 : w.heap.size ≠ A.heap.size := by omega
 have hlt1 : w.heap.size < A.heap.size + 1 := by omega
 have c0 : A.cell? ⟨w.heap.size, 0, none⟩ = some (.slice ua un uc) := by simp [World.cell?, hQA]
 have c1 : A.cell? ⟨w.heap.size, 1, none⟩ = some (.slice da dn dc) := by simp [World.cell?, hQA]
 have c2 : A.cell? ⟨w.heap.size, 2, none⟩ = some (.slice xa n xc) := by simp [World.cell?, hQA]
 have c3 : A.cell? ⟨w.heap.size, 3, none⟩ = some (.slice ba bn bc) := by simp [World.cell?, hQA]
 go_upto_region 4 with fail
 go_cut [6] (fun s6 wx => ∃ g q : Nat, s6 = .pointer (some ⟨g, 0, none⟩) ∧ wx.heap[g]? = some (.cells #[.slice ua un uc, .slice da dn dc, .slice xa n xc, .slice ba bn bc, .slice (some ⟨q, 0, none⟩) n n] 177 (0, 0)) ∧ IntRow q (List.replicate n 0) wx ∧ g ≠ q ∧ A.heap.size ≤ g ∧ A.heap.size ≤ q ∧ Below A.heap.size A wx)
 case first =>
  go_region
  all_goals
   go_wp2_with fail
   go_meet
   refine ⟨A.heap.size + 1, A.heap.size, rfl, alloc_at (by simp) _, ?_, by omega, by omega, by omega, ?_⟩
   · exact (Below.heap_alloc _ _ _ (by simp)).trans (IntRow.new A n)
   · exact ((below_alloc A _).alloc (by simp) _).trans ⟨rfl, rfl, rfl, Nat.le_refl _, fun _ _ => rfl⟩
 case rest =>
  obtain ⟨g, q, rfl, hg, hq, hgq, hgA, hqA, hBe⟩ := hcut
  clear c0 c1 c2 c3 hmk hne0 hlt1 hQA
  have hBq : ∀ V : World, Below A.heap.size A V → IntRow q0 (linksP ws) V := fun V hV => (hV.block q0 (Array.getElem?_eq_some_iff.1 (show A.heap[q0]? = _ from hq0)).1).trans hq0
  have HBQ := Lib.hid hBq
  have HP0 : Hid ((nextsP ws)[0]? = some 0) := by rw [Hid, nextsP_at (by rw [HNN.out]; omega), nx_zero]; rfl
  have HPL : Hid ((nextsP ws).length = n) := by rw [Hid, nextsP_len, HNN.out]
  have hq1 : IntRow q (nTo (nextsP ws) n 1) wc := by rw [nTo_one hn0 HP0.out]; exact hq
  clear hBq hq hq0
  go_wp2
  go_loopw [7] (fun s7 wr => ∃ j : Nat, 1 ≤ j ∧ j ≤ n ∧ s7 = .int .i64 j ∧ wr.heap[g]? = some (.cells #[.slice ua un uc, .slice da dn dc, .slice xa n xc, .slice ba bn bc, .slice (some ⟨q, 0, none⟩) n n] 177 (0, 0)) ∧ IntRow q (nTo (nextsP ws) n j) wr ∧ Below A.heap.size A wr) (fun s _ => n - (intOf s).toNat)
  case atStart => exact ⟨1, Nat.le_refl _, hn0, rfl, hg, hq1, hBe⟩
  case round =>
   clear hg hq1 hBe
   obtain ⟨j, hj1, hjn, rfl, hg, hq, hBe⟩ := hrel
   by_cases hjl : j < n
   ·
    have hd : decide ((j : Int) < n) = true := by simp; omega
    obtain ⟨x, hx⟩ : ∃ x, (nodesL ws)[j]? = some x := ⟨(nodesL ws)[j]'(by have := HNN.out; omega), by simp⟩
    obtain ⟨k, hk1, _, hk3, hk4⟩ := links_num hx
    have hkj := hk3 (by omega)
    obtain ⟨b0, o0, v, e0, hl0, cv, hv⟩ := sl1_at HWA.out (show k < n by omega)
    have hrec := nx_rec (by omega) (by rw [HNN.out]; exact hjl) hk1 hv
    have hPj := nextsP_at (ws := ws) (z := j) (by rw [HNN.out]; exact hjl)
    rw [hrec] at hPj
    have hlk : wr.cell? ⟨q0, j, none⟩ = some (.int .i64 (k : Int)) := by
     rw [cell_of_row wr q0 j _ _ _ (HBQ.out wr hBe)]
     simp [hk1]
    have hQr : wr.heap[w.heap.size]? = _ := (hBe.block _ hlt0).trans HQA.out
    have x2 : wr.cell? ⟨w.heap.size, 2, none⟩ = some (.slice xa n xc) := by simp [World.cell?, hQr]
    subst e0
    have cvr : wr.cell? ⟨b0, o0 + k, none⟩ = some (.int .i64 v) := (hBe.cell (p := ⟨b0, o0 + k, none⟩) hl0).trans cv
    have g4 : wr.cell? ⟨g, 4, none⟩ = some (.slice (some ⟨q, 0, none⟩) n n) := by simp [World.cell?, hg]
    have hrl := nTo_len (P := nextsP ws) HPL.out hjn
    have rowc : ∀ (i : Nat) (y : Int), (nTo (nextsP ws) n j)[i]? = some y → wr.cell? ⟨q, i, none⟩ = some (.int .i64 y) := fun i y hy => by
     rw [cell_of_row wr q i _ _ _ hq]
     simp [hy]
    have hfz : wr.frozen? ⟨q, j, none⟩ = false := by simp [World.frozen?, show wr.heap[q]? = _ from hq]
    obtain ⟨y0, hy0⟩ : ∃ y, (nTo (nextsP ws) n j)[j]? = some y := ⟨(nTo (nextsP ws) n j)[j]'(by omega), by simp⟩
    have cj := rowc j y0 hy0
    have ck := rowc k (nx ws k) (by rw [nTo_at hkj hjn HPL.out]; exact nextsP_at (by rw [HNN.out]; omega))
    have hgl : g < wr.heap.size := (Array.getElem?_eq_some_iff.1 hg).1
    have hql : q < wr.heap.size := (Array.getElem?_eq_some_iff.1 (show wr.heap[q]? = _ from hq)).1
    have fin : ∀ z : Int, (nextsP ws)[j]? = some z → IntRow q (nTo (nextsP ws) n (j + 1)) (wr.setCell ⟨q, j, none⟩ (.int .i64 z)) ∧ (wr.setCell ⟨q, j, none⟩ (.int .i64 z)).heap[g]? = some (.cells #[.slice ua un uc, .slice da dn dc, .slice (some ⟨b0, o0, none⟩) n xc, .slice ba bn bc, .slice (some ⟨q, 0, none⟩) n n] 177 (0, 0)) ∧ Below A.heap.size A (wr.setCell ⟨q, j, none⟩ (.int .i64 z)) := fun z hz =>
     ⟨by have := hq.set (j := j) z; rwa [nTo_set HPL.out hjl hz] at this, (Below.heap_setCell _ _ _ _ (by show g ≠ q; exact hgq)).trans hg, hBe.setCell hqA _⟩
    have FIN := Lib.hid fin
    have j1 : (0 : Int) ≤ (j : Int) := by omega
    have j2 : (j : Int) < (n : Int) := by omega
    have k1 : (0 : Int) ≤ (k : Int) := by omega
    have k2 : (k : Int) < (n : Int) := by omega
    clear fin hx hk1 hk3 hk4 hv hrec hQr rowc hy0 hrl
    by_cases hv0 : 0 ≤ v
    ·
     have dv : decide ((0 : Int) ≤ v) = true := by simpa using hv0
     rw [if_pos hv0] at hPj
     obtain ⟨f1, f2, f3⟩ := FIN.out _ hPj
     clear hPj hv0
     go_wp2
     go_roundw
     case rel => exact ⟨j + 1, by omega, by omega, by go_num, f2, f1, f3⟩
     case measure => simp [intOf]; omega
    ·
     have dv : decide ((0 : Int) ≤ v) = false := by simpa using hv0
     rw [if_neg hv0] at hPj
     clear hv0
     go_upto_region 11 with fail
     refine region_drawn_tail 13 mixed (by kernel_rfl) ?_
     dsimp only [List.take_succ_cons, List.take_zero, List.drop_succ_cons, List.drop_zero]
     repeat (go_big_quiet_step (fail))
     refine wpQuiet_nil ?_
     rintro _ ⟨nq, rfl⟩
     obtain ⟨f1, f2, f3⟩ := FIN.out _ hPj
     have hdn : ((wr.drewN nq).setCell ⟨q, j, none⟩ (.int .i64 (nx ws k : Int))).heap = (wr.setCell ⟨q, j, none⟩ (.int .i64 (nx ws k : Int))).heap := rfl
     have f1' : IntRow q (nTo (nextsP ws) n (j + 1)) ((wr.drewN nq).setCell ⟨q, j, none⟩ (.int .i64 (nx ws k : Int))) := f1
     have f2' : ((wr.drewN nq).setCell ⟨q, j, none⟩ (.int .i64 (nx ws k : Int))).heap[g]? = some (.cells #[.slice ua un uc, .slice da dn dc, .slice (some ⟨b0, o0, none⟩) n xc, .slice ba bn bc, .slice (some ⟨q, 0, none⟩) n n] 177 (0, 0)) := f2
     have f3' : Below A.heap.size A ((wr.drewN nq).setCell ⟨q, j, none⟩ (.int .i64 (nx ws k : Int))) := (hBe.trans ((bel_drewN wr nq).mono hBe.size)).setCell hqA _
     have cj' : (wr.drewN nq).cell? ⟨q, j, none⟩ = some (.int .i64 y0) := cj
     have fz' : (wr.drewN nq).frozen? ⟨q, j, none⟩ = false := hfz
     have ql' : q < (wr.drewN nq).heap.size := hql
     clear f1 f2 f3 hdn hPj
     go_wp2
     go_roundw
     case rel => exact ⟨j + 1, by omega, by omega, by go_num, f2', f1', f3'⟩
     case measure => simp [intOf]; omega
   ·
    obtain rfl : j = n := by omega
    have hd : decide ((j : Int) < j) = false := by simp
    rw [nTo_all HPL.out] at hq
    have hBf := hBA.trans (hBe.mono hBA.size)
    have hs := hBA.size
    go_wp2
    go_ret2
    exact ⟨g, rfl, ⟨⟨q, by rw [HNN.out]; exact hg, hq, by omega, by omega⟩⟩, hBf⟩

end Go.Proofs.YtbldfgaogmfoaaaGreat

/- A node's words' nodes (layer 9): the iterator, walked. -/

namespace Go.Proofs.YtbldfgaogmfoaaaGreat
open Go.RowKit Go.Sort
attribute [local go_sem] Oper.semAt_some
attribute [local simp] wide_fn wide_depth
attribute [local go_sem] wide_fn wide_depth

abbrev NdP (n : Nat) := { z : Nat // z < n }
def ndEnc {n : Nat} (z : NdP n) : Array Value := #[.int .i64 (z.1 : Int)]

theorem endsc_any (g : Nat) (node : Int) (w : World) :
  Calls Tryz.prog 100 #[.pointer (some ⟨g, 0, none⟩), .int .i64 node] w fun e w' => e = .returned (.func (.func 134) #[] #[.pointer (some ⟨w.heap.size + 1, 0, none⟩), .pointer (some ⟨w.heap.size, 0, none⟩)]) ∧
   w' = (w.alloc (.cells #[.pointer (some ⟨g, 0, none⟩)] 173)).alloc (.cells #[.int .i64 node] 3) := by
 go_enter Tryz.func100, Tryz.ntmps100
 go_wp2
 go_ret
 exact ⟨rfl, rfl⟩

set_option maxRecDepth 100000 in
set_option maxHeartbeats 4000000 in
theorem ends_stops (ws : List (List Int)) (g p1 p2 q n b0 o0 xc : Nat) (z0 : Nat) (s0 s1 s3 : Value) (S : Nat → Prop) (m : Nat) (w : World)
  (hg : w.heap[g]? = some (.cells #[s0, s1, .slice (some ⟨b0, o0, none⟩) n xc, s3, .slice (some ⟨q, 0, none⟩) n n] 177 (0, 0))) (hq : IntRow q (nextsP ws) w) (hN : (nodesL ws).length = n) (hn : n ≤ 1000000)
  (hW : ∀ (i : Nat) (v : Int), (trieP ws).wrd[i]? = some v → w.cell? ⟨b0, o0 + i, none⟩ = some (.int .i64 v))
  (h1 : Boxed w p1 173 (.pointer (some ⟨g, 0, none⟩))) (h2 : Boxed w p2 3 (.int .i64 (z0 : Int)))
  (hS : S g ∧ S q ∧ S p1 ∧ S p2 ∧ S b0) (hSw : ∀ k, S k → k < w.heap.size) (hz0 : z0 < n) :
  SeqStopsK Fence.wide m Tryz.prog 134 #[.pointer (some ⟨p2, 0, none⟩), .pointer (some ⟨p1, 0, none⟩)] ndEnc (keepOn S) (fun zs : List (NdP n) => zs.map Subtype.val = ends9 ws z0) (fun pre => ∃ r, ends9 ws z0 = pre.map Subtype.val ++ r) (z0 + 1) w := by
 intro l J Jx W hWb hJ hJx hY h0
 obtain ⟨s11, s12, s13, s14, s15⟩ := hS
 have cells : ∀ v : World, keepOn S w v → v.cell? ⟨p1, 0, none⟩ = some (.pointer (some ⟨g, 0, none⟩)) ∧ v.cell? ⟨p2, 0, none⟩ = some (.int .i64 (z0 : Int)) ∧ v.cell? ⟨g, 2, none⟩ = some (.slice (some ⟨b0, o0, none⟩) n xc) ∧ v.cell? ⟨g, 4, none⟩ = some (.slice (some ⟨q, 0, none⟩) n n) ∧
   (∀ (j : Nat) (x : Int), (nextsP ws)[j]? = some x → v.cell? ⟨q, j, none⟩ = some (.int .i64 x)) ∧ (∀ (j : Nat) (x : Int), (trieP ws).wrd[j]? = some x → v.cell? ⟨b0, o0 + j, none⟩ = some (.int .i64 x)) := by
  intro v hv
  have e1 : v.heap[p1]? = some (.cells #[.pointer (some ⟨g, 0, none⟩)] 173 (0, 0)) := (hv p1 s13).trans h1
  have e2 : v.heap[g]? = _ := (hv g s11).trans hg
  have e3 : v.heap[q]? = some (.cells ((nextsP ws).map (Value.int .i64)).toArray 3 (0, 0)) := (hv q s12).trans hq
  have e4 : v.heap[p2]? = some (.cells #[.int .i64 (z0 : Int)] 3 (0, 0)) := (hv p2 s14).trans h2
  refine ⟨by simp [World.cell?, e1], by simp [World.cell?, e4], by simp [World.cell?, e2], by simp [World.cell?, e2], fun j x hx => ?_, fun j x hx => ?_⟩
  ·
   rw [cell_of_row v q j _ _ _ e3]
   simp [hx]
  ·
   rw [← hW j x hx]
   exact World.cell?_of_block (hv b0 s15)
 have HC := Lib.hid cells
 have hkW : keepOn S w W := keepOn_of_below hWb hSw
 have HNN := Lib.hid hN
 have HSW := Lib.hid hSw
 clear hg hq h1 h2 cells hW hN hSw
 obtain ⟨c1, c2, _, _, _, _⟩ := HC.out W hkW
 refine callsIn_of_wp Tryz.func134 rfl trivial ?_ rfl
 simp only [Tryz.ntmps134, List.size_toArray, List.length_cons, List.length_nil, Nat.reduceAdd, Nat.reduceSub, Array.replicate_succ, Array.replicate_zero, List.push_toArray, List.append_toArray, List.nil_append, List.cons_append]
 gi_wp2
 clear c1 c2
 gi_loopw [4] (fun s4 wr => ∃ (z f : Nat) (pre : List (NdP n)), z ≤ f ∧ z ≤ z0 ∧ s4 = .int .i64 (z : Int) ∧ Hid (ends9 ws z0 = pre.map Subtype.val ++ endsN (nextsP ws) (trieP ws).wrd f z) ∧ J pre wr ∧ keepOn S w wr) (fun s _ => (intOf s).toNat)
 case atStart => exact ⟨z0, z0, [], Nat.le_refl _, Nat.le_refl _, rfl, rfl, h0, hkW⟩
 case round =>
  clear hkW
  obtain ⟨z, f, pre, hzf, hzn, rfl, HP, hj, hk⟩ := hrel
  obtain ⟨c1, c2, c3, c4, c5, c6⟩ := HC.out wr hk
  by_cases hz : z = 0
  ·
   subst hz
   have HF : Hid (pre.map Subtype.val = ends9 ws z0) := by rw [Hid, HP.out, endsN_zero, List.append_nil]
   gi_wp2
   go_end0
   exact ⟨⟨_, rfl⟩, .inl ⟨pre, HF.out, hj⟩⟩
  ·
   obtain ⟨f, rfl⟩ : ∃ f', f = f' + 1 := ⟨f - 1, by omega⟩
   obtain ⟨v, hv⟩ : ∃ v, (trieP ws).wrd[z]? = some v := ⟨(trieP ws).wrd[z]'(by rw [(wrd_len ws).1, HNN.out]; omega), by simp⟩
   have hnx := nextsP_at (ws := ws) (z := z) (by rw [HNN.out]; omega)
   have hlt := nexts_lt (ws := ws) (z := z) (by omega) (by rw [HNN.out]; omega)
   have hst := HP.out
   rw [endsN_succ, if_neg hz, hv, Option.getD_some] at hst
   rw [hnx, Option.getD_some, Int.toNat_natCast] at hst hlt
   have cw := c6 z v hv
   have cn := c5 z _ hnx
   have hne : ((z : Int) != 0) = true := by simp; omega
   have i1 : (0 : Int) ≤ (z : Int) := by omega
   have i2 : (z : Int) < (n : Int) := by omega
   have hzm : z < n := by omega
   by_cases hv0 : 0 ≤ v
   ·
    have dv : decide ((0 : Int) ≤ v) = true := by simpa using hv0
    rw [if_pos hv0] at hst
    have HF : Hid (ends9 ws z0 = (pre ++ [(⟨z, hzm⟩ : NdP n)]).map Subtype.val ++ endsN (nextsP ws) (trieP ws).wrd f (nx ws z)) := by rw [Hid, hst]; simp
    have hlen : pre.length < z0 + 1 := by
     have h1 := congrArg List.length hst
     have h2 := endsN_len (nextsP ws) (trieP ws).wrd z0 z0
     unfold ends9 at h1
     rw [List.length_append, List.length_append, List.length_map, List.length_singleton] at h1
     omega
    obtain ⟨fn, tmps, assign, body, hyl, hRo⟩ := hY pre ⟨z, hzm⟩ wr hj hlen
    dsimp only [ndEnc] at hyl
    clear hst hv hnx
    gi_wp2
    refine hRo.mono ?_
    rintro e W4 (⟨rfl, hJ4, hk4⟩ | ⟨rfl, hJx4⟩)
    ·
     have hk5 := keepOn_t hk hk4
     obtain ⟨d1, d2, d3, d4, d5, d6⟩ := HC.out W4 hk5
     have dn := (hk4 q s12)
     have cn4 : W4.cell? ⟨q, z, none⟩ = some (.int .i64 (nx ws z : Int)) := d5 z _ (nextsP_at (by rw [HNN.out]; omega))
     clear c1 c2 c3 c4 c5 c6 cw cn d5 d6 hRo hyl dn
     gi_wp2
     go_roundw
     case rel => exact ⟨nx ws z, f, _, by omega, by omega, rfl, HF, hJ4, hk5⟩
     case measure => simp [intOf]; omega
    ·
     have HG : Hid (∃ r, ends9 ws z0 = (pre ++ [(⟨z, hzm⟩ : NdP n)]).map Subtype.val ++ r) := ⟨_, HF.out⟩
     gi_wp2
     refine bodyPost_ret (results_none rfl _ _ _) rfl ?_
     exact ⟨⟨_, rfl⟩, .inr ⟨_, HG.out, hJx4⟩⟩
   ·
    have dv : decide ((0 : Int) ≤ v) = false := by simpa using hv0
    rw [if_neg hv0, List.nil_append] at hst
    have HF := Lib.hid hst
    clear hst hv hnx c5 c6
    gi_wp2
    go_roundw
    case rel => exact ⟨nx ws z, f, pre, by omega, by omega, rfl, HF, hj, hk⟩
    case measure => simp [intOf]; omega

end Go.Proofs.YtbldfgaogmfoaaaGreat

/- Nodes' words (layer 9): is, Next, Chain, walked. -/

namespace Go.Proofs.YtbldfgaogmfoaaaGreat
open Go.RowKit Go.Sort
attribute [local go_sem] Oper.semAt_some
attribute [local simp] wide_fn wide_depth
attribute [local go_sem] wide_fn wide_depth

/-- A box that holds a row of numbers of the call's own, which lies in none of some blocks. -/
def HoldsX (b base : Nat) (ps : Nat → Prop) (l : List Int) (W : World) : Prop := ∃ v, Boxed W b 32 v ∧ OwnI W base v l ∧ ∀ k, ps k → v.ownBlock ≠ some k
theorem slk_new (W : World) (z : Int) : SlK 1 (W.alloc (.cells #[.int .i64 z] 3)) (some ⟨W.heap.size, 0, none⟩) 1 [.int .i64 z] :=
 ⟨rfl, .inr ⟨_, _, rfl, by simp, fun i u hu => by
  have := cells_new (w := W) #[.int .i64 z] 3 rfl i u (by simpa using hu)
  rwa [add_plain] at this⟩⟩
theorem HoldsX.app {W w6 : World} {b base : Nat} {ps : Nat → Prop} {l : List Int} {z : Int} {v v' : Value} {tmp : Obj} (hv : Boxed W b 32 v) (hown : OwnI W base v l) (hps : ∀ k, ps k → v.ownBlock ≠ some k) (hpl : ∀ k, ps k → k < W.heap.size) (hb : b < base) (hbW : base ≤ W.heap.size)
  (hown' : w6.ownsRow base 3 1 v' (l.length + 1) (l.map (Value.int .i64) ++ [.int .i64 z])) (hgrow : (W.alloc tmp).grownBy w6 v.ownBlock) (hat : v'.ownBlock = v.ownBlock ∨ v'.ownBlock = some (W.alloc tmp).heap.size) :
  Boxed w6 b 32 v ∧ HoldsX b base ps (l ++ [z]) (w6.setCell ⟨b, 0, none⟩ v') ∧ KeepsOthers W (w6.setCell ⟨b, 0, none⟩ v') ∧ (∀ k, k < W.heap.size → k ≠ b → v.ownBlock ≠ some k → (w6.setCell ⟨b, 0, none⟩ v').heap[k]? = W.heap[k]?) ∧ Below b W (w6.setCell ⟨b, 0, none⟩ v') := by
 have hte : 32 ≠ 3 := of_decide_eq_true (by kernel_rfl)
 have hv1 : Boxed w6 b 32 v := (hv.alloc tmp).kept hgrow (hv.not_row hte hown)
 have hlt := hv.lt
 refine ⟨hv1, ⟨v', hv1.set v', ?_, fun k hk => ?_⟩, ?_, fun k hk hkb hkv => ?_, ?_⟩
 ·
  have := World.ownsRow.kept hown' (grownBy_setCell' w6 b v') (.inr (hv1.not_row hte hown').symm)
  unfold OwnI
  rw [List.length_append, List.map_append]
  exact this
 ·
  rcases hat with e | e
  · rw [e]; exact hps k hk
  ·
   rw [e]
   intro h
   injection h with h
   have := hpl k hk
   simp at h
   omega
 ·
  refine ((KeepsOthers.alloc W tmp).trans (KeepsOthers.of_grownBy hgrow fun j o ej hj => ?_)).trans (KeepsOthers.setCell _ _ _)
  rcases (World.ownsRow.alloc hown tmp).2 with ⟨rfl, _⟩ | ⟨g, cap, cur, rfl, _, hgb, _⟩
  · simp [Value.ownBlock] at ej
  ·
   obtain rfl : g = j := by simpa [Value.ownBlock] using ej
   rw [hgb] at hj; cases hj; rfl
 · exact (Below.heap_setCell _ _ _ _ (by show k ≠ b; exact hkb)).trans ((hgrow.block k (by simp; omega) (fun e => hkv e.symm)).trans (Below.heap_alloc _ _ _ hk))
 ·
  refine (((Below.refl b W).alloc (by omega) tmp).grown hgrow (by simp; omega) fun j ej => ?_).setCell (p := ⟨b, 0, none⟩) (Nat.le_refl _) v'
  have := (row_lt hown j ej).1
  omega

theorem next9_yes (t : TV) (T : TrieT) (sp ws : List (List Int)) (w : World) (hT : Tri w t T) (hb : t.un ≤ 140737488351232) (hr : readP T = some (sp, ws)) :
  Calls Tryz.prog 63 #[.agg t.cells] w fun e w' => ∃ q, e = .returned (.tuple #[.slice (some ⟨q, 0, none⟩) (nodesL ws).length (nodesL ws).length, .int .i64 0]) ∧ IntRow q (nextsP ws) w' ∧ w.heap.size ≤ q ∧ Below w.heap.size w w' := by
 obtain ⟨ua, un, uc, da, dn, dc, xa, xn, xc, ba, bn, bc⟩ := t
 have hB := below_alloc w (.cells #[.slice ua un uc, .slice da dn dc, .slice xa xn xc, .slice ba bn bc] 34)
 have HC := Lib.hid (read9_yes _ T sp ws _ (hT.below hB) hb hr)
 clear hT hr
 go_enter Tryz.func63, Tryz.ntmps63
 go_wp2_with fail
 refine HC.out.mono ?_
 rintro e w1 ⟨g, rfl, hLk, hb1⟩
 obtain ⟨q, h1, h3, h6, h7⟩ := hLk.ex
 have c5 : w1.cell? ⟨g, 4, none⟩ = some (.slice (some ⟨q, 0, none⟩) (nodesL ws).length (nodesL ws).length) := by simp [World.cell?, h1]
 simp only [World.size_alloc] at h7
 clear h1
 go_wp2
 go_ret2
 exact ⟨q, rfl, h3, by omega, hB.trans (hb1.mono hB.size)⟩

end Go.Proofs.YtbldfgaogmfoaaaGreat

/- Nodes' words (layer 9): walked. -/

namespace Go.Proofs.YtbldfgaogmfoaaaGreat
open Go.RowKit Go.Sort
attribute [local go_sem] Oper.semAt_some
attribute [local simp] wide_fn wide_depth
attribute [local go_sem] wide_fn wide_depth

def words9 (ws : List (List Int)) (z : Nat) : List Int := (ends9 ws z).map fun n => ((trieP ws).wrd[n]?).getD 0
/-- What lay there lies as it lay, but for a box. -/
def KeptB (base b : Nat) (w W : World) : Prop := (∀ k, k < base → k ≠ b → W.heap[k]? = w.heap[k]?) ∧ base ≤ W.heap.size
theorem KeptB.refl {base b : Nat} {w : World} (h : base ≤ w.heap.size) : KeptB base b w w := ⟨fun _ _ _ => rfl, h⟩
theorem KeptB.trans {base b : Nat} {u v w : World} (h : KeptB base b u v) (k : KeptB base b v w) : KeptB base b u w := ⟨fun i h1 h2 => (k.1 i h1 h2).trans (h.1 i h1 h2), k.2⟩
theorem KeptB.of_below {base b : Nat} {v w : World} (h : Below v.heap.size v w) (hb : base ≤ v.heap.size) : KeptB base b v w := ⟨fun k h1 _ => h.block k (by omega), Nat.le_trans hb h.size⟩
theorem keptB_alloc {base b : Nat} {v w : World} (h : KeptB base b v w) (o : Obj) : KeptB base b v (w.alloc o) := ⟨fun k h1 h2 => ((below_alloc w o).block k (Nat.lt_of_lt_of_le h1 h.2)).trans (h.1 k h1 h2), by have := h.2; rw [World.size_alloc]; omega⟩
theorem HoldsX.below {b base : Nat} {ps : Nat → Prop} {l : List Int} {W V : World} (h : HoldsX b base ps l W) (hb : Below W.heap.size W V) : HoldsX b base ps l V := by
 obtain ⟨v, h1, h2, h3⟩ := h
 exact ⟨v, (hb.block b h1.lt).trans h1, row_below h2 hb, h3⟩

end Go.Proofs.YtbldfgaogmfoaaaGreat

/- Nodes' words by recursion (layer 9): plain. -/

namespace Go.Proofs.YtbldfgaogmfoaaaGreat

theorem words9_zero (ws : List (List Int)) : words9 ws 0 = [] := by
 unfold words9 ends9
 rw [endsN_zero]
 rfl
theorem words9_rec {ws : List (List Int)} {z : Nat} {v : Int} (h0 : 0 < z) (hz : z < (nodesL ws).length) (hv : (trieP ws).wrd[z]? = some v) : words9 ws z = (if 0 ≤ v then [v] else []) ++ words9 ws (nx ws z) := by
 unfold words9
 rw [ends9_rec h0 hz, hv, Option.getD_some, List.map_append]
 congr 1
 split
 · rw [List.map_cons, hv]; rfl
 · rfl
end Go.Proofs.YtbldfgaogmfoaaaGreat

/- Machines (layer 13): how they lie in memory; is there such a node, where one goes on: walked. -/

namespace Go.Proofs.YtbldfgaogmfoaaaGreat
open Go.RowKit Go.Sort

/-- A machine's cells. -/
def mcC (L : List Int) (m n : Int) (row : Value) (fold : Bool) (sw : Value) (lo mo : Int) (wd : Value) : List Value := L.map (Value.int .i64) ++ [.int .i64 m, .int .i64 n, row, .bool fold, sw, .int .i64 lo, .int .i64 mo, wd]
structure Mc (W : World) (B : Nat) (L : List Int) (m n : Int) (row : Value) (fold : Bool) (sw : Value) (lo mo : Int) (wd : Value) : Prop where
 box : W.heap[B]? = some (.cells (mcC L m n row fold sw lo mo wd).toArray 118 (0, 0))
 len : L.length = 256
section
variable {W V : World} {B : Nat} {L : List Int} {m n : Int} {row : Value} {fold : Bool} {sw : Value} {lo mo : Int} {wd : Value}
theorem Mc.lt (h : Mc W B L m n row fold sw lo mo wd) : B < W.heap.size := (Array.getElem?_eq_some_iff.1 h.box).1
theorem Mc.below (h : Mc W B L m n row fold sw lo mo wd) (hb : Below W.heap.size W V) : Mc V B L m n row fold sw lo mo wd := ⟨(hb.block B h.lt).trans h.box, h.len⟩
theorem Mc.cls (h : Mc W B L m n row fold sw lo mo wd) {c : Nat} {v : Int} (hv : L[c]? = some v) : W.cell? ⟨B, c, none⟩ = some (.int .i64 v) := by
 have hc : c < 256 := by have := (List.getElem?_eq_some_iff.1 hv).1; have := h.len; omega
 have e : (mcC L m n row fold sw lo mo wd)[c]? = some (.int .i64 v) := by
  unfold mcC
  rw [List.getElem?_append_left (by simp [h.len]; omega), List.getElem?_map, hv]
  rfl
 simp only [World.cell?, h.box]
 simp [e]
theorem Mc.off (h : Mc W B L m n row fold sw lo mo wd) {i : Nat} {v : Value} (hv : [Value.int .i64 m, .int .i64 n, row, .bool fold, sw, .int .i64 lo, .int .i64 mo, wd][i]? = some v) : W.cell? ⟨B, 256 + i, none⟩ = some v := by
 have e : (mcC L m n row fold sw lo mo wd)[256 + i]? = some v := by
  unfold mcC
  rw [List.getElem?_append_right (by simp [h.len])]
  simpa [h.len] using hv
 simp only [World.cell?, h.box]
 simp [e]
theorem Mc.cells (h : Mc W B L m n row fold sw lo mo wd) : W.cell? ⟨B, 256, none⟩ = some (.int .i64 m) ∧ W.cell? ⟨B, 257, none⟩ = some (.int .i64 n) ∧ W.cell? ⟨B, 258, none⟩ = some row ∧ W.cell? ⟨B, 259, none⟩ = some (.bool fold) ∧ W.cell? ⟨B, 260, none⟩ = some sw ∧ W.cell? ⟨B, 261, none⟩ = some (.int .i64 lo) ∧ W.cell? ⟨B, 262, none⟩ = some (.int .i64 mo) ∧ W.cell? ⟨B, 263, none⟩ = some wd :=
 ⟨h.off (i := 0) rfl, h.off (i := 1) rfl, h.off (i := 2) rfl, h.off (i := 3) rfl, h.off (i := 4) rfl, h.off (i := 5) rfl, h.off (i := 6) rfl, h.off (i := 7) rfl⟩
end

/-- Rows of numbers, one for each node. -/
def Lls (W : World) (a : Option Addr) (len : Nat) (xss : List (List Int)) : Prop :=
 ∃ vs : List (Option Addr × Nat × Nat), Sl1 (fun v => Value.slice v.1 v.2.1 v.2.2) W a len vs ∧ vs.length = xss.length ∧ ∀ (i : Nat) (v : Option Addr × Nat × Nat) (xs : List Int), vs[i]? = some v → xss[i]? = some xs → Sl1 (Value.int .i64) W v.1 v.2.1 xs ∧ v.2.1 ≤ v.2.2
theorem Lls.below {W V : World} {a : Option Addr} {len : Nat} {xss : List (List Int)} (h : Lls W a len xss) (hb : Below W.heap.size W V) : Lls V a len xss := by
 obtain ⟨vs, h1, h2, h3⟩ := h
 exact ⟨vs, h1.below hb, h2, fun i v xs hv hx => ⟨(h3 i v xs hv hx).1.below hb, (h3 i v xs hv hx).2⟩⟩
theorem Lls.at_ {w : World} {a : Option Addr} {len : Nat} {xss : List (List Int)} (h : Lls w a len xss) {k : Nat} (hk : k < len) :
  ∃ b off a' l c xs, a = some ⟨b, off, none⟩ ∧ b < w.heap.size ∧ w.cell? ⟨b, off + k, none⟩ = some (.slice a' l c) ∧ xss[k]? = some xs ∧ Sl1 (Value.int .i64) w a' l xs ∧ l ≤ c := by
 obtain ⟨vs, ⟨h0, h1⟩, h2, h3⟩ := h
 obtain ⟨b, off, rfl, hlt, hc⟩ := h1.resolve_left (by omega)
 obtain ⟨v, hv⟩ : ∃ v, vs[k]? = some v := ⟨vs[k]'(by omega), by simp⟩
 obtain ⟨x, hx⟩ : ∃ v, xss[k]? = some v := ⟨xss[k]'(by omega), by simp⟩
 exact ⟨b, off, v.1, v.2.1, v.2.2, x, rfl, hlt, hc k v hv, hx, h3 k v x hv hx⟩

/-- A set's machine. -/
structure MOK (W : World) (B : Nat) (fold : Bool) (wss : List (List Int)) (lo mo : Int) (R : Nat) (a : Option Addr) (la ca : Nat) (wa : Option Addr) (wc : Nat) : Prop where
 mc : Mc W B (clsP fold wss) (manyP fold wss) ((nodesL wss).length : Int) (.slice (some ⟨R, 0, none⟩) (manyP fold wss * (nodesL wss).length) (manyP fold wss * (nodesL wss).length)) fold (.slice a la ca) lo mo (.slice wa (nodesL wss).length wc)
 row : IntRow R (tabP fold wss) W
 wds : Wds W a la wss
 lls : Lls W wa (nodesL wss).length ((List.range (nodesL wss).length).map (words9 wss))
theorem MOK.below {W V : World} {B R la ca wc : Nat} {fold : Bool} {wss : List (List Int)} {lo mo : Int} {a wa : Option Addr} (h : MOK W B fold wss lo mo R a la ca wa wc) (hb : Below W.heap.size W V) : MOK V B fold wss lo mo R a la ca wa wc :=
 ⟨h.mc.below hb, (hb.block R h.row.lt).trans h.row, h.wds.below hb, h.lls.below hb⟩

set_option maxHeartbeats 2000000 in
theorem is13_any (B : Nat) (L : List Int) (m n : Int) (row : Value) (fold : Bool) (sw : Value) (lo mo : Int) (wd : Value) (node : Int) (w : World) (h : Mc w B L m n row fold sw lo mo wd) :
  Calls Tryz.prog 103 #[.pointer (some ⟨B, 0, none⟩), .int .i64 node] w fun e w' => e = .returned (.bool (decide (0 ≤ node ∧ node < n))) ∧ w = w' := by
 have c5 := h.cells.2.1
 clear h
 by_cases h0 : 0 ≤ node
 ·
  have hd : decide ((0 : Int) ≤ node) = true := by simpa using h0
  obtain ⟨D, hD⟩ : ∃ D, decide (node < n) = D := ⟨_, rfl⟩
  have HF : Hid (decide (0 ≤ node ∧ node < n) = D) := by rw [Hid, ← hD]; simp [h0]
  clear h0
  have HR : ∀ (r : Ending) (w' : World), r = .returned (.bool D) ∧ w = w' → r = .returned (.bool (decide (0 ≤ node ∧ node < n))) ∧ w = w' := fun r w' h => by rw [HF.out]; exact h
  refine Calls.mono ?_ HR
  clear HR HF
  go_enter Tryz.func103, Tryz.ntmps103
  go_wp2
  go_ret
  exact ⟨rfl, rfl⟩
 ·
  have hd : decide ((0 : Int) ≤ node) = false := by simpa using h0
  have HF : Hid (decide (0 ≤ node ∧ node < n) = false) := by simp [Hid]; omega
  have HR : ∀ (r : Ending) (w' : World), r = .returned (.bool false) ∧ w = w' → r = .returned (.bool (decide (0 ≤ node ∧ node < n))) ∧ w = w' := fun r w' h => by rw [HF.out]; exact h
  refine Calls.mono ?_ HR
  clear HR HF
  go_enter Tryz.func103, Tryz.ntmps103
  go_wp2
  go_ret
  exact ⟨rfl, rfl⟩
end Go.Proofs.YtbldfgaogmfoaaaGreat

/- Machines (layer 13): the iterator over a node's words; walked. -/

namespace Go.Proofs.YtbldfgaogmfoaaaGreat
open Go.RowKit Go.Sort
attribute [local go_sem] Oper.semAt_some
attribute [local simp] wide_fn wide_depth
attribute [local go_sem] wide_fn wide_depth

def wdEnc (x : Int) : Array Value := #[.int .i64 x]
theorem ends13_any (t : TV) (a : Option Addr) (n c : Nat) (z : Int) (w : World) :
  Calls Tryz.prog 68 #[.agg t.cells, .slice a n c, .int .i64 z] w fun e w' => e = .returned (.func (.func 101) #[] #[.pointer (some ⟨w.heap.size + 1 + 1, 0, none⟩), .pointer (some ⟨w.heap.size + 1, 0, none⟩), .pointer (some ⟨w.heap.size, 0, none⟩)]) ∧
   w' = ((w.alloc (.cells t.cells 34)).alloc (.cells #[.slice a n c] 32)).alloc (.cells #[.int .i64 z] 3) := by
 obtain ⟨ua, un, uc, da, dn, dc, xa, xn, xc, ba, bn, bc⟩ := t
 go_enter Tryz.func68, Tryz.ntmps68
 go_wp2
 go_ret
 exact ⟨rfl, rfl⟩

/-- The words of nodes, one behind the other. -/
def wdsN (ws : List (List Int)) (l : List Nat) : List Int := l.map fun n => ((trieP ws).wrd[n]?).getD 0
set_option maxRecDepth 100000 in
set_option maxHeartbeats 4000000 in
theorem ends13_stops (ws : List (List Int)) (p1 p2 p3 q n b0 o0 xc qc : Nat) (z0 : Nat) (s0 s1 s3 : Value) (S : Nat → Prop) (m : Nat) (w : World)
  (hg : w.heap[p3]? = some (.cells #[s0, s1, .slice (some ⟨b0, o0, none⟩) n xc, s3] 34 (0, 0))) (hq : IntRow q (nextsP ws) w) (hN : (nodesL ws).length = n) (hn : n ≤ 1000000)
  (hW : ∀ (i : Nat) (v : Int), (trieP ws).wrd[i]? = some v → w.cell? ⟨b0, o0 + i, none⟩ = some (.int .i64 v))
  (h1 : Boxed w p2 32 (.slice (some ⟨q, 0, none⟩) n qc)) (h2 : Boxed w p1 3 (.int .i64 (z0 : Int)))
  (hS : S p3 ∧ S q ∧ S p1 ∧ S p2 ∧ S b0) (hSw : ∀ k, S k → k < w.heap.size) (hp : p1 ≠ p3 ∧ p1 ≠ q ∧ p1 ≠ p2 ∧ p1 ≠ b0) (hz0 : z0 < n) :
  SeqStopsW Fence.wide m Tryz.prog 101 #[.pointer (some ⟨p1, 0, none⟩), .pointer (some ⟨p2, 0, none⟩), .pointer (some ⟨p3, 0, none⟩)] wdEnc (keepOn S) (fun r => r = p1) (fun zs : List Int => zs = words9 ws z0) (fun pre => ∃ r, words9 ws z0 = pre ++ r) (z0 + 1) w := by
 intro l J Jx W hWb hJ hJx hY h0
 obtain ⟨s11, s12, s13, s14, s15⟩ := hS
 obtain ⟨n3, nq, n2, n0⟩ := hp
 have cells : ∀ v : World, (∀ k, S k → k ≠ p1 → v.heap[k]? = w.heap[k]?) → v.cell? ⟨p2, 0, none⟩ = some (.slice (some ⟨q, 0, none⟩) n qc) ∧ v.cell? ⟨p3, 2, none⟩ = some (.slice (some ⟨b0, o0, none⟩) n xc) ∧
   (∀ (j : Nat) (x : Int), (nextsP ws)[j]? = some x → v.cell? ⟨q, j, none⟩ = some (.int .i64 x)) ∧ (∀ (j : Nat) (x : Int), (trieP ws).wrd[j]? = some x → v.cell? ⟨b0, o0 + j, none⟩ = some (.int .i64 x)) := by
  intro v hv
  have e1 : v.heap[p2]? = some (.cells #[.slice (some ⟨q, 0, none⟩) n qc] 32 (0, 0)) := (hv p2 s14 (Ne.symm n2)).trans h1
  have e2 : v.heap[p3]? = _ := (hv p3 s11 (Ne.symm n3)).trans hg
  have e3 : v.heap[q]? = some (.cells ((nextsP ws).map (Value.int .i64)).toArray 3 (0, 0)) := (hv q s12 (Ne.symm nq)).trans hq
  refine ⟨by simp [World.cell?, e1], by simp [World.cell?, e2], fun j x hx => ?_, fun j x hx => ?_⟩
  ·
   rw [cell_of_row v q j _ _ _ e3]
   simp [hx]
  ·
   rw [← hW j x hx]
   exact World.cell?_of_block (hv b0 s15 (Ne.symm n0))
 have HC := Lib.hid cells
 have hkW : ∀ k, S k → k ≠ p1 → W.heap[k]? = w.heap[k]? := fun k hk _ => hWb.block k (hSw k hk)
 have hbW : Boxed W p1 3 (.int .i64 (z0 : Int)) := (hWb.block p1 h2.lt).trans h2
 have HNN := Lib.hid hN
 have HS4 := Lib.hid s13
 clear hg hq h1 h2 cells hW hN hSw
 refine callsIn_of_wp Tryz.func101 rfl trivial ?_ rfl
 simp only [Tryz.ntmps101, List.size_toArray, List.length_cons, List.length_nil, Nat.reduceAdd, Nat.reduceSub, Array.replicate_succ, Array.replicate_zero, List.push_toArray, List.append_toArray, List.nil_append, List.cons_append]
 gi_wp2
 gi_loopw [5] (fun s5 wr => ∃ (z f : Nat) (pre : List Int), z ≤ f ∧ z ≤ z0 ∧ Hid (words9 ws z0 = pre ++ wdsN ws (endsN (nextsP ws) (trieP ws).wrd f z)) ∧ Hid (pre.length + f ≤ z0) ∧ Boxed wr p1 3 (.int .i64 (z : Int)) ∧ J pre wr ∧ Hid (∀ k, S k → k ≠ p1 → wr.heap[k]? = w.heap[k]?)) (fun _ wr => numAt p1 wr)
 case atStart => exact ⟨z0, z0, [], Nat.le_refl _, Nat.le_refl _, rfl, by simp [Hid], hbW, h0, hkW⟩
 case round =>
  clear hkW
  obtain ⟨z, f, pre, hzf, hzn, HP, HLE, hbz, hj, HK⟩ := hrel
  have cz := hbz.cell
  have HNU := Lib.hid (numAt_box hbz)
  by_cases hz : z = 0
  ·
   subst hz
   have HF : Hid (pre = words9 ws z0) := by rw [Hid, HP.out, endsN_zero]; simp [wdsN]
   gi_wp2
   go_end0
   exact ⟨⟨_, rfl⟩, .inl ⟨pre, HF.out, hj⟩⟩
  ·
   obtain ⟨f, rfl⟩ : ∃ f', f = f' + 1 := ⟨f - 1, by omega⟩
   obtain ⟨c1, c2, c3, c4⟩ := HC.out wr HK.out
   obtain ⟨v, hv⟩ : ∃ v, (trieP ws).wrd[z]? = some v := ⟨(trieP ws).wrd[z]'(by rw [(wrd_len ws).1, HNN.out]; omega), by simp⟩
   have hnx := nextsP_at (ws := ws) (z := z) (by rw [HNN.out]; omega)
   have hlt := nexts_lt (ws := ws) (z := z) (by omega) (by rw [HNN.out]; omega)
   have hst := HP.out
   rw [endsN_succ, if_neg hz, hv, Option.getD_some] at hst
   rw [hnx, Option.getD_some, Int.toNat_natCast] at hst hlt
   have cw := c4 z v hv
   have cn := c3 z _ hnx
   have hne : ((z : Int) != 0) = true := by simp; omega
   have i1 : (0 : Int) ≤ (z : Int) := by omega
   have i2 : (z : Int) < (n : Int) := by omega
   have fz := hbz.frozen
   have hlz := hbz.lt
   by_cases hv0 : 0 ≤ v
   ·
    have dv : decide ((0 : Int) ≤ v) = true := by simpa using hv0
    rw [if_pos hv0] at hst
    have HF : Hid (words9 ws z0 = (pre ++ [v]) ++ wdsN ws (endsN (nextsP ws) (trieP ws).wrd f (nx ws z))) := by
     rw [Hid, hst]
     simp [wdsN, hv]
    have hlen : pre.length < z0 + 1 := by have := HLE.out; omega
    obtain ⟨fn, tmps, assign, body, hyl, hRo⟩ := hY pre v wr hj hlen
    dsimp only [wdEnc] at hyl
    clear hst hv hnx
    gi_wp2
    refine hRo.mono ?_
    rintro e W4 (⟨rfl, hJ4, hk4⟩ | ⟨rfl, hJx4⟩)
    ·
     have hbz4 : Boxed W4 p1 3 (.int .i64 (z : Int)) := (hk4 p1 HS4.out).trans hbz
     have HK4 : Hid (∀ k, S k → k ≠ p1 → W4.heap[k]? = w.heap[k]?) := fun k h1 h2 => (hk4 k h1).trans (HK.out k h1 h2)
     obtain ⟨d1, d2, d3, d4⟩ := HC.out W4 HK4.out
     have cn4 : W4.cell? ⟨q, z, none⟩ = some (.int .i64 (nx ws z : Int)) := d3 z _ (nextsP_at (by rw [HNN.out]; omega))
     have cz4 := hbz4.cell
     have fz4 := hbz4.frozen
     have lz4 := hbz4.lt
     have hJ6 := abides_p hJ hJ4 (p := p1) rfl 0 (.int .i64 (nx ws z : Int))
     have hbz6 := hbz4.set (.int .i64 (nx ws z : Int))
     have HNW := Lib.hid (numAt_box hbz6)
     have HK6 : Hid (∀ j, S j → j ≠ p1 → (W4.setCell ⟨p1, 0, none⟩ (.int .i64 (nx ws z : Int))).heap[j]? = w.heap[j]?) := fun j h1 h2 => (Below.heap_setCell _ _ _ _ (by show j ≠ p1; exact h2)).trans (HK4.out j h1 h2)
     have HL6 : Hid ((pre ++ [v]).length + f ≤ z0) := by have := HLE.out; rw [Hid, List.length_append, List.length_singleton]; omega
     clear c1 c2 c3 c4 cw cn d3 d4 hRo hyl cz fz hlz hJ4
     gi_wp2
     go_roundw
     case rel => exact ⟨nx ws z, f, _, by omega, by omega, HF, HL6, hbz6, hJ6, HK6⟩
     case measure => rw [HNU.out, HNW.out]; exact hlt
    ·
     have HG : Hid (∃ r, words9 ws z0 = (pre ++ [v]) ++ r) := ⟨_, HF.out⟩
     gi_wp2
     refine bodyPost_ret (results_none rfl _ _ _) rfl ?_
     exact ⟨⟨_, rfl⟩, .inr ⟨_, HG.out, hJx4⟩⟩
   ·
    have dv : decide ((0 : Int) ≤ v) = false := by simpa using hv0
    rw [if_neg hv0, List.nil_append] at hst
    have HF := Lib.hid hst
    have hJ6 := abides_p hJ hj (p := p1) rfl 0 (.int .i64 (nx ws z : Int))
    have hbz6 := hbz.set (.int .i64 (nx ws z : Int))
    have HNW := Lib.hid (numAt_box hbz6)
    have HK6 : Hid (∀ j, S j → j ≠ p1 → (wr.setCell ⟨p1, 0, none⟩ (.int .i64 (nx ws z : Int))).heap[j]? = w.heap[j]?) := fun j h1 h2 => (Below.heap_setCell _ _ _ _ (by show j ≠ p1; exact h2)).trans (HK.out j h1 h2)
    have HL6 : Hid (pre.length + f ≤ z0) := by have := HLE.out; rw [Hid]; omega
    clear hst hv hnx c3 c4
    gi_wp2
    go_roundw
    case rel => exact ⟨nx ws z, f, pre, by omega, by omega, HF, HL6, hbz6, hJ6, HK6⟩
    case measure => rw [HNU.out, HNW.out]; exact hlt

end Go.Proofs.YtbldfgaogmfoaaaGreat

/- Sets in memory of their own, the longest word (layer 5): walked. -/

namespace Go.Proofs.YtbldfgaogmfoaaaGreat
open Go.RowKit Go.Sort

set_option maxHeartbeats 1000000 in
theorem plongest_any (fold : Bool) (a : Option Addr) (la ca : Nat) (wss : List (List Int)) (w : World) (hA : Wds w a la wss) (hla : la ≤ 1000000) :
  Calls Tryz.prog 66 #[.agg (setV fold a la ca)] w fun e w' => e = .returned (.int .i64 (longL wss)) ∧ Below w.heap.size w w' := by
 have hB0 : Below w.heap.size w (w.alloc (.cells (setV fold a la ca) 24)) := (Below.refl _ _).alloc (Nat.le_refl _) _
 have hA1 := hA.below hB0
 have HL := Lib.hid hA.len
 clear hA
 go_enter Tryz.func66, Tryz.ntmps66
 go_wp2
 go_loop [3, 9] (fun s i => ∃ (k : Nat) (n : Int), k ≤ la ∧ i = .int .i64 k ∧ s = .int .i64 n ∧ Hid (n = longL (wss.take k))) (fun _ i => la - (intOf i).toNat)
 case atStart => exact ⟨0, 0, Nat.zero_le _, rfl, rfl, by simp [Hid, longL]⟩
 case round =>
  obtain ⟨k, n, hk, rfl, rfl, HN⟩ := hrel
  by_cases hlt : k < la
  ·
   obtain ⟨bb, off, a', l, c, x, rfl, hbl, hcell, hx, hX, hlc⟩ := hA1.at_ hlt
   have HS : Hid (max n (l : Int) = longL (wss.take (k + 1))) := by rw [Hid, take_step hx, longL_snoc, hX.len, HN.out]
   clear hx hX
   go_wp2
   go_round
   case rel => exact ⟨k + 1, _, by omega, by go_num, rfl, HS⟩
   case measure => simp [intOf]; omega
  ·
   obtain rfl : k = la := by omega
   have HF : Hid (n = longL wss) := by
    have h := HN.out
    rwa [List.take_of_length_le (by have := HL.out; omega)] at h
   go_wp2
   go_ret
   exact ⟨by rw [← HF.out]; rfl, hB0⟩

theorem results_set1 {fn : Func} {p : Tmp} {tmps : Array Value} {W : World} {B : Nat} {x y : Value} (h : fn.results = #[.cell p 24]) (hp : tmps.getD p undef = .pointer (some ⟨B, 0, none⟩)) (hB : W.heap[B]? = some (.cells #[x, y] 24 (0, 0))) :
  (results fn tmps).run Tryz.prog W = .ok (.agg #[x, y]) W := by
 have hl : (loadVar 24 ⟨B, 0, none⟩).run Tryz.prog W = .ok (.agg #[x, y]) W := run_loadVar_row W B 24 24 #[x, y] (0, 0) _ hB Tryz.underlying24 rfl (by kernel_rfl)
 have hp' : tmps[p]?.getD undef = .pointer (some ⟨B, 0, none⟩) := by simpa using hp
 simp [results, h, hp', asAddr, hl, Result.andThen]

set_option maxRecDepth 100000 in
set_option maxHeartbeats 4000000 in
theorem pown_any (fold : Bool) (a : Option Addr) (la ca : Nat) (wss : List (List Int)) (w : World) (hA : Wds w a la wss) (hla : la ≤ 1000000) (hM : ∀ x ∈ wss, x.length ≤ 1000000) :
    Calls Tryz.prog 65 #[.agg (setV fold a la ca)] w fun e w' => ∃ v, e = .returned (.agg #[.bool fold, v]) ∧ OwnW w' w.heap.size v wss ∧ Below w.heap.size w w' := by
  obtain ⟨W, hW⟩ : ∃ W, W = (w.alloc (.cells (setV fold a la ca) 24)).alloc (.cells (setV false none 0 0) 24) := ⟨_, rfl⟩
  have hB : Below w.heap.size w W := by rw [hW]; exact ((Below.refl _ _).alloc (Nat.le_refl _) _).alloc (by simp) _
  have hO : Bx w.heap.size [.cells (setV fold a la ca) 24, .cells (setV false none 0 0) 24] W := by rw [hW]; exact ((Bx.nil _ w).snoc _ rfl).snoc _ (by simp)
  have s0 : W.cell? ⟨w.heap.size, 0, none⟩ = some (.bool fold) := hO.cell (i := 0) rfl rfl
  have s1 : W.cell? ⟨w.heap.size, 1, none⟩ = some (.slice a la ca) := hO.cell (i := 0) rfl rfl
  have hz : W.heap[w.heap.size + 1]? = some (.cells (setV false none 0 0) 24 (0, 0)) := hO 1 _ rfl
  have hsz : W.heap.size = w.heap.size + 1 + 1 := by rw [hW]; simp
  have HL := Lib.hid hA.len
  have HA := Lib.hid hA
  have hlt0 : w.heap.size < W.heap.size := by omega
  clear hO hA
  go_enter Tryz.func65, Tryz.ntmps65
  go_upto_region 1 with fail
  rw [← hW]
  clear hW
  go_upto_region 2 with fail
  have s2 : (W.alloc (.cells #[.bool fold, .slice none 0 0] 24)).cell? ⟨w.heap.size, 1, none⟩ = some (.slice a la ca) := by rw [World.cell?_alloc_lt _ _ _ hlt0]; exact s1
  have hB1 : Below w.heap.size w (W.alloc (.cells #[.bool fold, .slice none 0 0] 24)) := hB.alloc hB.size _
  have hn1 : (W.alloc (.cells #[.bool fold, .slice none 0 0] 24)).heap[w.heap.size + 1 + 1]? = some (.cells #[.bool fold, .slice none 0 0] 24 (0, 0)) := by rw [← hsz]; exact World.alloc_heap_new _ _
  have hz1 : (W.alloc (.cells #[.bool fold, .slice none 0 0] 24)).heap[w.heap.size + 1]? = some (.cells (setV false none 0 0) 24 (0, 0)) := (Below.heap_alloc _ _ _ (by omega)).trans hz
  clear s0 s1 hsz
  go_wp2
  go_loopw [12] (fun i wr => ∃ (k : Nat) (v : Value), k ≤ la ∧ i = .int .i64 k ∧ Below w.heap.size w wr ∧ wr.heap[w.heap.size + 1]? = some (.cells (setV false none 0 0) 24 (0, 0)) ∧ wr.heap[w.heap.size + 1 + 1]? = some (.cells #[.bool fold, v] 24 (0, 0)) ∧ OwnW wr w.heap.size v (wss.take k)) (fun i _ => la - (intOf i).toNat)
  case atStart => exact ⟨0, .slice none 0 0, Nat.zero_le _, rfl, hB1, hz1, hn1, by simpa using OwnW.nil _ _⟩
  case round =>
    clear s2 hB1 hz1 hn1
    obtain ⟨k, v, hk, rfl, hBe, hzr, hsr, hown⟩ := hrel
    by_cases hlt : k < la
    · obtain ⟨bb, off, a', l, c, x, rfl, hbl, hcell, hx, hX, hlc⟩ := (HA.out.below hBe).at_ hlt
      have hxl : l ≤ 1000000 := by have := mem_bd hM hx; rw [hX.len] at this; exact this
      obtain ⟨av, cv, rfl, hcv, hW⟩ := hown.wds
      have hml : (wss.take k).length ≤ 1000000 := by have := List.length_take_le k wss; omega
      have HX := Lib.hid hx
      have i1 : (0 : Int) ≤ (k : Int) := by omega
      have i2 : (k : Int) < (la : Int) := by omega
      have hd0 : decide ((k : Int) < (la : Int)) = true := by simp; omega
      clear hx
      obtain ⟨i0, hi, hi0, hi1, hi2⟩ := info_parts words_info
      have s1 : wr.cell? ⟨w.heap.size + 1 + 1, 1, none⟩ = some (.slice av (wss.take k).length cv) := by simp [World.cell?, hsr]
      obtain ⟨es, e1, e2, e3⟩ := hown
      have hX2 : ∀ n, Bys (wr.drewN n) a' l x := fun n => hX.below ⟨rfl, rfl, rfl, Nat.le_refl _, fun _ _ => rfl⟩
      have hd : ∀ n, Below wr.heap.size wr (wr.drewN n) := fun n => ⟨rfl, rfl, rfl, Nat.le_refl _, fun _ _ => rfl⟩
      obtain ⟨m, hm⟩ : ∃ m, (wss.take k).length = m := ⟨_, rfl⟩
      rw [hm] at s1 hsr e1 e2 hml
      have HMM := Lib.hid hm
      clear hm hW
      go_wp2
      have hXd : Bys wr.drew a' l x := hX2 1
      have hdd : Below wr.heap.size wr wr.drew := hd 1
      go_region_law (first
        | (go_simp; go_at_call 98; refine (copied_c false a' l c x wr.drew hXd hxl).mono ?_; rintro e w3 ⟨a3, c3, rfl, hown3, hb3⟩
           have hB3 : Below wr.heap.size wr w3 := hdd.trans hb3
           have e13 := own_below_ e1 hB3
           have hs3 : w3.heap[w.heap.size + 1 + 1]? = some (.cells #[.bool fold, .slice av m cv] 24 (0, 0)) := (hB3.block _ (Array.getElem?_eq_some_iff.1 hsr).1).trans hsr
           have s13 : w3.cell? ⟨w.heap.size + 1 + 1, 1, none⟩ = some (.slice av m cv) := by simp [World.cell?, hs3]
           have hl3 : w.heap.size + 1 + 1 < w3.heap.size := (Array.getElem?_eq_some_iff.1 hs3).1
           have hl3b : w.heap.size + 1 + 1 ≠ w3.heap.size := by omega
           have hl3c : w3.heap.size ≠ w.heap.size + 1 + 1 := by omega
           have s14 : (w3.alloc (.cells #[.slice a3 l c3] 25)).cell? ⟨w.heap.size + 1 + 1, 1, none⟩ = some (.slice av m cv) := by rw [World.cell?_alloc_lt _ _ _ hl3]; exact s13
           have hne := own_far e13 hs3 (of_decide_eq_true (by kernel_rfl))
           have hB3w : Below w.heap.size w w3 := hBe.trans (hB3.mono hBe.size)
           dsimp only)
        | (refine step_append_lies _ (by rfl) _ _ 22 (by rfl) w.heap.size 25 i0 (.slice none 0 0) 1 24 Tryz.underlying22 hi hi0 hi1 hi2 rfl (by decide) (.slice av m cv) m es (by rfl) (e13.alloc _) ⟨w3.heap.size, 0, none⟩ 1 1 [.slice a3 l c3] (by rfl) rfl (cell_one_new _ _ _) (by simp [Value.oneCell']) (by decide) (by unfold maxLen; omega) (by omega) (by have := hB3w.size; simp; omega) _ rfl ?_
           intro g5 c5 w5 hown' hgrow hat hl5
           have hs5 : w5.heap[w.heap.size + 1 + 1]? = some (.cells #[.bool fold, .slice av m cv] 24 (0, 0)) := (hgrow.block _ (by simp; have := (Array.getElem?_eq_some_iff.1 hs3).1; omega) (Ne.symm hne)).trans ((Below.heap_alloc _ _ _ (Array.getElem?_eq_some_iff.1 hs3).1).trans hs3)
           have q0 : w5.cell? ⟨w.heap.size + 1 + 1, 1, none⟩ = some (.slice av m cv) := by simp [World.cell?, hs5]
           have q1 : w5.frozen? ⟨w.heap.size + 1 + 1, 1, none⟩ = false := by simp [World.frozen?, hs5]))
      all_goals
        go_wp2
        have hB5 : Below w.heap.size w w5 := (hB3w.alloc (by have := hB3w.size; omega) _).grown hgrow (by simp; have := hB3w.size; omega) (fun j hj => (e13.lt j hj).1)
        have hz5 : w5.heap[w.heap.size + 1]? = some (.cells (setV false none 0 0) 24 (0, 0)) := by
          have h3 : w3.heap[w.heap.size + 1]? = _ := (hB3.block _ (Array.getElem?_eq_some_iff.1 hzr).1).trans hzr
          exact (hgrow.block _ (by simp; have := (Array.getElem?_eq_some_iff.1 h3).1; omega) (Ne.symm (own_far e13 h3 (of_decide_eq_true (by kernel_rfl))))).trans ((Below.heap_alloc _ _ _ (Array.getElem?_eq_some_iff.1 h3).1).trans h3)
        go_roundw
        case rel =>
          refine ⟨k + 1, _, by omega, by go_num, hB5.setCell (by show w.heap.size ≤ w.heap.size + 1 + 1; omega) _, (Below.heap_setCell w5 ⟨w.heap.size + 1 + 1, 1, none⟩ _ _ (by simp)).trans hz5, by simpa using set_at (i := 1) hs5 (.slice (some ⟨g5, 0, none⟩) (m + 1) c5), ?_⟩
          rw [take_step HX.out]
          have hst := OwnW.step (wss := wss.take k) (xs := x) (e := .slice a3 l c3) (es := es) (v := .slice av m cv) (by rw [HMM.out]; exact e13.alloc _) (by rw [HMM.out]; exact e2)
            (fun i e xs he hx => ⟨own_below_ (own_below_ (e3 i e xs he hx).1 hB3) ((Below.refl _ _).alloc (Nat.le_refl _) _), (e3 i e xs he hx).2⟩) (by rw [hX.len]; exact (OwnB_mono (hown3.alloc _) (by have := hBe.size; simpa using this))) hX.2 (by rw [HMM.out]; exact hown') hgrow
          exact hst.turned (grown_set2 w5 (w.heap.size + 1 + 1) 1 _) hs5 (of_decide_eq_true (by kernel_rfl)) (of_decide_eq_true (by kernel_rfl))
        case measure => simp [intOf]; omega
    · obtain rfl : k = la := by omega
      have HF : Hid (wss.take k = wss) := List.take_of_length_le (by have := HL.out; omega)
      have hd0 : decide ((k : Int) < (k : Int)) = false := by simp
      have s0 : wr.cell? ⟨w.heap.size + 1 + 1, 0, none⟩ = some (.bool fold) := by simp [World.cell?, hsr]
      rw [HF.out] at hown
      obtain ⟨av, cv, rfl, hcv, hW⟩ := hown.wds
      have s1 : wr.cell? ⟨w.heap.size + 1 + 1, 1, none⟩ = some (.slice av wss.length cv) := by simp [World.cell?, hsr]
      have z0 : wr.cell? ⟨w.heap.size + 1, 0, none⟩ = some (.bool false) := by simp [World.cell?, hzr]
      have z1 : wr.cell? ⟨w.heap.size + 1, 1, none⟩ = some (.slice none 0 0) := by simp [World.cell?, hzr]
      have y0 : wr.frozen? ⟨w.heap.size + 1, 0, none⟩ = false := by simp [World.frozen?, hzr]
      have y1 : wr.frozen? ⟨w.heap.size + 1, 1, none⟩ = false := by simp [World.frozen?, hzr]
      go_wp2
      have hz2 := set_at (i := 1) (set_at (i := 0) hzr (.bool fold)) (.slice av wss.length cv)
      refine bodyPost_ret (results_set1 rfl rfl (by simpa using hz2)) rfl ?_
      refine ⟨_, rfl, ?_, (hBe.setCell (by simp) _).setCell (by simp) _⟩
      have ho := (hown.turned (grown_set2 wr (w.heap.size + 1) 0 (.bool fold)) hzr (of_decide_eq_true (by kernel_rfl)) (of_decide_eq_true (by kernel_rfl))).turned (grown_set2 _ (w.heap.size + 1) 1 (.slice av wss.length cv)) (set_at (i := 0) hzr (.bool fold)) (of_decide_eq_true (by kernel_rfl)) (of_decide_eq_true (by kernel_rfl))
      exact ho
end Go.Proofs.YtbldfgaogmfoaaaGreat
