/- Parts of the proof, one behind the other: M8, P6, P7, P8, YE, HO, YF, YH, M7, M9. No condition but what each theorem states. -/
import Derived.Test.YtbldfgaogmfoaaaGreatZP2
import Derived.Test.YtbldfgaogmfoaaaGreatZP4
import Derived.Test.YtbldfgaogmfoaaaGreatZP5
import Derived.Test.YtbldfgaogmfoaaaGreatZP6
import Derived.Test.YtbldfgaogmfoaaaGreatZP9
import Derived.Test.YtbldfgaogmfoaaaGreatZP10
set_option linter.unusedVariables false
set_option linter.unusedSimpArgs false

/- Machines (layer 13): how a machine's cells are built. -/

namespace Go.Proofs.YtbldfgaogmfoaaaGreat
open Go.RowKit Go.Sort

/-- A machine's table's cells. -/
def tbC (L : List Int) (m n : Int) (row : Value) : List Value := L.map (Value.int .i64) ++ [.int .i64 m, .int .i64 n, row]
theorem mcC_tb (L : List Int) (m n : Int) (row : Value) (fold : Bool) (sw : Value) (lo mo : Int) (wd : Value) : mcC L m n row fold sw lo mo wd = tbC L m n row ++ [.bool fold, sw, .int .i64 lo, .int .i64 mo, wd] := by simp [mcC, tbC]
theorem zero115 : (Tryz.prog.info? 114).map (fun i => i.zero.map Value.cells) = some (some (tbC (List.replicate 256 0) 0 0 (.slice none 0 0)).toArray) := by kernel_rfl
theorem zero118 : (Tryz.prog.info? 118).map (fun i => i.zero.map Value.cells) = some (some (mcC (List.replicate 256 0) 0 0 (.slice none 0 0) false (.slice none 0 0) 0 0 (.slice none 0 0)).toArray) := by kernel_rfl
theorem places115 : (match Tryz.prog.underlying 114 with | some (.struct fields) => fields.toList.mapM (fun f => (Tryz.prog.info? f.type).map fun i => (f.offset, i.size)) | _ => none) = some [(0, 256), (256, 1), (257, 1), (258, 1)] := by kernel_rfl
theorem places118 : (match Tryz.prog.underlying 118 with | some (.struct fields) => fields.toList.mapM (fun f => (Tryz.prog.info? f.type).map fun i => (f.offset, i.size)) | _ => none) = some [(0, 259), (259, 2), (261, 1), (262, 1), (263, 1)] := by kernel_rfl
theorem tbC_len {L : List Int} (hL : L.length = 256) (m n : Int) (row : Value) : (tbC L m n row).length = 259 := by simp [tbC, hL]

theorem built115_any (L : List Int) (m k : Int) (a : Option Addr) (n c : Nat) (hL : L.length = 256) :
  Tryz.prog.built 114 [(0, .agg (L.map (Value.int .i64)).toArray), (1, .int .i64 m), (2, .int .i64 k), (3, .slice a n c)] = some (tbC L m k (.slice a n c)).toArray := by
 obtain ⟨Z0, hZ0, hz⟩ : ∃ Z0 : List Int, Z0.length = 256 ∧ (Tryz.prog.info? 114).map (fun i => i.zero.map Value.cells) = some (some (tbC Z0 0 0 (.slice none 0 0)).toArray) := ⟨_, by rw [List.length_replicate], zero115⟩
 have hp := places115
 unfold Program.built
 cases hi : Tryz.prog.info? 114 with
 | none => rw [hi] at hz; cases hz
 | some it =>
  rw [hi] at hz
  simp only [Option.map_some, Option.some.injEq] at hz
  cases hu : Tryz.prog.underlying 114 with
  | none => rw [hu] at hp; cases hp
  | some d =>
   rw [hu] at hp
   cases d <;> try (cases hp; done)
   rename_i fields
   simp only at hp ⊢
   cases hzz : it.zero with
   | none => rw [hzz] at hz; cases hz
   | some z =>
    rw [hzz] at hz
    simp only [Option.map_some, Option.some.injEq] at hz
    simp only [hp, hz]
    have e0 : (tbC Z0 0 0 (.slice none 0 0)).toArray = ([] ++ (Z0.map (Value.int .i64)) ++ [Value.int .i64 0, Value.int .i64 0, Value.slice none 0 0]).toArray := by simp [tbC]
    have e1 : [] ++ L.map (Value.int .i64) ++ [Value.int .i64 0, Value.int .i64 0, Value.slice none 0 0] = L.map (Value.int .i64) ++ [Value.int .i64 0] ++ [Value.int .i64 0, Value.slice none 0 0] := by simp
    have e2 : L.map (Value.int .i64) ++ [Value.int .i64 m] ++ [Value.int .i64 0, Value.slice none 0 0] = (L.map (Value.int .i64) ++ [Value.int .i64 m]) ++ [Value.int .i64 0] ++ [Value.slice none 0 0] := by simp
    have e3 : (L.map (Value.int .i64) ++ [Value.int .i64 m]) ++ [Value.int .i64 k] ++ [Value.slice none 0 0] = (L.map (Value.int .i64) ++ [Value.int .i64 m, Value.int .i64 k]) ++ [Value.slice none 0 0] ++ [] := by simp
    have p0 : ([(0, 256), (256, 1), (257, 1), (258, 1)] : List (Nat × Nat)).toArray[0]? = some (([] : List Value).length, (Z0.map (Value.int .i64)).length) := by rw [List.length_map, hZ0]; rfl
    have p1 : ([(0, 256), (256, 1), (257, 1), (258, 1)] : List (Nat × Nat)).toArray[1]? = some ((L.map (Value.int .i64)).length, ([Value.int .i64 0] : List Value).length) := by rw [List.length_map, hL]; rfl
    have p2 : ([(0, 256), (256, 1), (257, 1), (258, 1)] : List (Nat × Nat)).toArray[2]? = some ((L.map (Value.int .i64) ++ [Value.int .i64 m]).length, ([Value.int .i64 0] : List Value).length) := by rw [List.length_append, List.length_map, hL]; rfl
    have p3 : ([(0, 256), (256, 1), (257, 1), (258, 1)] : List (Nat × Nat)).toArray[3]? = some ((L.map (Value.int .i64) ++ [Value.int .i64 m, Value.int .i64 k]).length, ([Value.slice none 0 0] : List Value).length) := by rw [List.length_append, List.length_map, hL]; rfl
    rw [e0, fill_part _ _ _ _ (L.map (Value.int .i64)) 0 _ _ rfl (by rw [List.length_map, List.length_map, hL, hZ0]) p0]
    rw [e1, fill_part _ _ [Value.int .i64 0] _ [Value.int .i64 m] 1 (Value.int .i64 m) _ rfl rfl p1]
    rw [e2, fill_part _ _ [Value.int .i64 0] _ [Value.int .i64 k] 2 (Value.int .i64 k) _ rfl rfl p2]
    rw [e3, fill_part _ _ [Value.slice none 0 0] [] [Value.slice a n c] 3 (Value.slice a n c) _ rfl rfl p3]
    simp [Instr.fill, tbC]

theorem built118_any (T : List Value) (fold : Bool) (a : Option Addr) (n c : Nat) (lo mo : Int) (hT : T.length = 259) :
  Tryz.prog.built 118 [(0, .agg T.toArray), (1, .agg #[Value.bool fold, Value.slice a n c]), (2, Value.int .i64 lo), (3, Value.int .i64 mo)] = some (T ++ [Value.bool fold, Value.slice a n c, Value.int .i64 lo, Value.int .i64 mo, Value.slice none 0 0]).toArray := by
 obtain ⟨Z0, hZ0, hz⟩ : ∃ Z0 : List Value, Z0.length = 259 ∧ (Tryz.prog.info? 118).map (fun i => i.zero.map Value.cells) = some (some (Z0 ++ [Value.bool false, Value.slice none 0 0, Value.int .i64 0, Value.int .i64 0, Value.slice none 0 0]).toArray) :=
  ⟨tbC (List.replicate 256 0) 0 0 (.slice none 0 0), tbC_len (by rw [List.length_replicate]) _ _ _, by rw [zero118, mcC_tb]⟩
 have hp := places118
 unfold Program.built
 cases hi : Tryz.prog.info? 118 with
 | none => rw [hi] at hz; cases hz
 | some it =>
  rw [hi] at hz
  simp only [Option.map_some, Option.some.injEq] at hz
  cases hu : Tryz.prog.underlying 118 with
  | none => rw [hu] at hp; cases hp
  | some d =>
   rw [hu] at hp
   cases d <;> try (cases hp; done)
   rename_i fields
   simp only at hp ⊢
   cases hzz : it.zero with
   | none => rw [hzz] at hz; cases hz
   | some z =>
    rw [hzz] at hz
    simp only [Option.map_some, Option.some.injEq] at hz
    simp only [hp, hz]
    have e0 : (Z0 ++ [Value.bool false, Value.slice none 0 0, Value.int .i64 0, Value.int .i64 0, Value.slice none 0 0]).toArray = ([] ++ Z0 ++ [Value.bool false, Value.slice none 0 0, Value.int .i64 0, Value.int .i64 0, Value.slice none 0 0]).toArray := by simp
    have e1 : [] ++ T ++ [Value.bool false, Value.slice none 0 0, Value.int .i64 0, Value.int .i64 0, Value.slice none 0 0] = T ++ [Value.bool false, Value.slice none 0 0] ++ [Value.int .i64 0, Value.int .i64 0, Value.slice none 0 0] := by simp
    have e2 : T ++ [Value.bool fold, Value.slice a n c] ++ [Value.int .i64 0, Value.int .i64 0, Value.slice none 0 0] = (T ++ [Value.bool fold, Value.slice a n c]) ++ [Value.int .i64 0] ++ [Value.int .i64 0, Value.slice none 0 0] := by simp
    have e3 : (T ++ [Value.bool fold, Value.slice a n c]) ++ [Value.int .i64 lo] ++ [Value.int .i64 0, Value.slice none 0 0] = (T ++ [Value.bool fold, Value.slice a n c, Value.int .i64 lo]) ++ [Value.int .i64 0] ++ [Value.slice none 0 0] := by simp
    have p0 : ([(0, 259), (259, 2), (261, 1), (262, 1), (263, 1)] : List (Nat × Nat)).toArray[0]? = some (([] : List Value).length, Z0.length) := by rw [hZ0]; rfl
    have p1 : ([(0, 259), (259, 2), (261, 1), (262, 1), (263, 1)] : List (Nat × Nat)).toArray[1]? = some (T.length, ([Value.bool false, Value.slice none 0 0] : List Value).length) := by rw [hT]; rfl
    have p2 : ([(0, 259), (259, 2), (261, 1), (262, 1), (263, 1)] : List (Nat × Nat)).toArray[2]? = some ((T ++ [Value.bool fold, Value.slice a n c]).length, ([Value.int .i64 0] : List Value).length) := by rw [List.length_append, hT]; rfl
    have p3 : ([(0, 259), (259, 2), (261, 1), (262, 1), (263, 1)] : List (Nat × Nat)).toArray[3]? = some ((T ++ [Value.bool fold, Value.slice a n c, Value.int .i64 lo]).length, ([Value.int .i64 0] : List Value).length) := by rw [List.length_append, hT]; rfl
    rw [e0, fill_part _ _ _ _ T 0 _ _ rfl (by rw [hT, hZ0]) p0]
    rw [e1, fill_part _ _ [Value.bool false, Value.slice none 0 0] _ [Value.bool fold, Value.slice a n c] 1 (Value.agg #[Value.bool fold, Value.slice a n c]) _ rfl rfl p1]
    rw [e2, fill_part _ _ [Value.int .i64 0] _ [Value.int .i64 lo] 2 (Value.int .i64 lo) _ rfl rfl p2]
    rw [e3, fill_part _ _ [Value.int .i64 0] _ [Value.int .i64 mo] 3 (Value.int .i64 mo) _ rfl rfl p3]
    simp [Instr.fill]
end Go.Proofs.YtbldfgaogmfoaaaGreat

/- Words (layer 9): walked. -/

namespace Go.Proofs.YtbldfgaogmfoaaaGreat
open Go.RowKit Go.Sort

theorem words9_len (ws : List (List Int)) (z : Nat) : (words9 ws z).length ≤ z := by
 unfold words9
 rw [List.length_map]
 exact endsN_len _ _ _ _
end Go.Proofs.YtbldfgaogmfoaaaGreat

/- Words of a spoilt trie, how many words a node has (layer 9): walked. -/

namespace Go.Proofs.YtbldfgaogmfoaaaGreat
open Go.RowKit Go.Sort
attribute [local go_sem] Oper.semAt_some
attribute [local simp] wide_fn wide_depth
attribute [local go_sem] wide_fn wide_depth

def cnt9 (ws : List (List Int)) (z : Nat) : Nat := (ends9 ws z).length

set_option maxRecDepth 100000 in
set_option maxHeartbeats 8000000 in
theorem count9_any (ws : List (List Int)) (g q ab b0 o0 n xc z : Nat) (s0 s1 s3 : Value) (w : World)
  (hg : w.heap[g]? = some (.cells #[s0, s1, .slice (some ⟨b0, o0, none⟩) n xc, s3, .slice (some ⟨q, 0, none⟩) n n] 177 (0, 0))) (hq : IntRow q (nextsP ws) w) (hN : (nodesL ws).length = n) (hn : n ≤ 1000)
  (hW : ∀ (i : Nat) (v : Int), (trieP ws).wrd[i]? = some v → w.cell? ⟨b0, o0 + i, none⟩ = some (.int .i64 v)) (hb0 : b0 < w.heap.size)
  (ha : Boxed w ab 173 (.pointer (some ⟨g, 0, none⟩))) (hz : z < n) :
  Calls Tryz.prog 99 #[.int .i64 (z : Int), .pointer (some ⟨ab, 0, none⟩)] w fun e w' => e = .returned (.int .i64 (cnt9 ws z : Int)) ∧ Below w.heap.size w w' := by
 have hgl : g < w.heap.size := (Array.getElem?_eq_some_iff.1 hg).1
 have hql : q < w.heap.size := (Array.getElem?_eq_some_iff.1 (show w.heap[q]? = _ from hq)).1
 obtain ⟨W3, hW3⟩ : ∃ W, W = w.alloc (.cells #[.int .i64 0] 3) := ⟨_, rfl⟩
 have hb3 : Below w.heap.size w W3 := by rw [hW3]; exact below_alloc _ _
 have bC : Boxed W3 w.heap.size 3 (.int .i64 0) := by rw [hW3]; exact Boxed.new _ _ _
 have hs3 : W3.heap.size = w.heap.size + 1 := by rw [hW3]; simp
 have ha3 : Boxed W3 ab 173 (.pointer (some ⟨g, 0, none⟩)) := (hb3.block ab ha.lt).trans ha
 have ca := ha3.cell
 refine calls_of_wp_M Tryz.func99 rfl ?_
 simp only [Tryz.ntmps99, List.size_toArray, List.length_cons, List.length_nil, Nat.reduceAdd, Nat.reduceSub, Array.replicate_succ, Array.replicate_zero, List.push_toArray, List.append_toArray, List.nil_append, List.cons_append]
 go_upto_region 2 with fail
 rw [← hW3]
 clear hW3
 go_wp2_with (go_at_call 100; refine (endsc_any g z W3).mono ?_; rintro e w' ⟨rfl, rfl⟩)
 obtain ⟨W5, hW5⟩ : ∃ W, W = (W3.alloc (.cells #[.pointer (some ⟨g, 0, none⟩)] 173)).alloc (.cells #[.int .i64 (z : Int)] 3) := ⟨_, rfl⟩
 have hB35 : Below W3.heap.size W3 W5 := by rw [hW5]; exact (below_alloc _ _).alloc (by simp) _
 have h1' : Boxed W5 W3.heap.size 173 (.pointer (some ⟨g, 0, none⟩)) := by rw [hW5]; exact (Boxed.new W3 173 _).alloc _
 have h2' : Boxed W5 (W3.heap.size + 1) 3 (.int .i64 (z : Int)) := by
  rw [hW5]
  have := Boxed.new (W3.alloc (.cells #[.pointer (some ⟨g, 0, none⟩)] 173)) 3 (.int .i64 (z : Int))
  rwa [World.size_alloc] at this
 rw [← hW5]
 clear hW5
 have bC5 : Boxed W5 w.heap.size 3 (.int .i64 0) := (hB35.block _ bC.lt).trans bC
 have hB5 : Below w.heap.size w W5 := hb3.trans (hB35.mono hb3.size)
 have e1 : W5.heap[g]? = _ := (hB5.block g hgl).trans hg
 have e2 : IntRow q (nextsP ws) W5 := (hB5.block q hql).trans hq
 have hw5 : ∀ (i : Nat) (v : Int), (trieP ws).wrd[i]? = some v → W5.cell? ⟨b0, o0 + i, none⟩ = some (.int .i64 v) := fun i v hv => (hB5.cell (p := ⟨b0, o0 + i, none⟩) hb0).trans (hW i v hv)
 have hsz5 := h2'.lt
 rw [hs3] at h1' h2' hsz5
 have hps := ends_stops ws g (w.heap.size + 1) (w.heap.size + 1 + 1) q n b0 o0 xc z _ _ _ (fun k => k < W5.heap.size ∧ k ≠ w.heap.size) 8 W5 e1 e2 hN (by omega) hw5 h1' h2' ⟨⟨by omega, by omega⟩, ⟨by omega, by omega⟩, ⟨by omega, by omega⟩, ⟨by omega, by omega⟩, ⟨by omega, by omega⟩⟩ (fun k hk => hk.1) hz
 clear hg hq hW ha ha3 ca e1 e2 h1' h2' hw5 hN bC hb3 hB35
 apply rangeF rfl (enters_of Tryz.func134 (by kernel_rfl) rfl) hps keepOn_t (keepOn_b fun k hk => hk.1) (fun _ => rfl)
  (fun pre W => Boxed W w.heap.size 3 (.int .i64 ((pre.length : Nat) : Int)) ∧ Below w.heap.size w W ∧ W5.heap.size ≤ W.heap.size)
  (fun _ _ _ => False)
 case hI => exact OwnFrom.and (Own.from (boxed_own _ _ _) _) (OwnFrom.and (ownFrom_below (Nat.le_refl _) (by omega)) (own_size _ _))
 case hIx => exact fun _ _ _ _ _ hs _ _ => hs
 case h0 => exact ⟨by simpa using bC5, hB5, Nat.le_refl _⟩
 case hassign =>
  intro l x W K hK
  unfold ndEnc
  gi_wp2
  exact hK
 case hbody =>
  rintro l pre ⟨y, hy⟩ W ⟨hv, hBe, hs⟩ hlen
  dsimp only
  obtain ⟨m, hm⟩ : ∃ m, pre.length = m := ⟨_, rfl⟩
  have HM : Hid ((pre ++ [(⟨y, hy⟩ : NdP n)]).length = m + 1) := by rw [Hid, List.length_append, hm]; rfl
  have hml : m ≤ 1000000 := by omega
  rw [hm] at hv
  have c2 := hv.cell
  have c4 := hv.frozen
  have hbl := hv.lt
  clear hm
  gi_wp2
  refine ⟨(KeepsOthers.setCell W ⟨w.heap.size, 0, none⟩ (.int .i64 ((m : Int) + 1))).from _, fun k hk => Below.heap_setCell _ _ _ _ hk.2, ?_, hBe.setCell (Nat.le_refl _) _, by show W5.heap.size ≤ (W.setCell _ _).heap.size; rw [World.size_setCell]; omega⟩
  rw [HM.out]
  exact hv.set (.int .i64 ((m : Int) + 1))
 case hdone =>
  rintro D zs W hD hS ⟨hv, hBe, hs⟩ hD2
  have HZ : Hid (((zs.length : Nat) : Int) = (cnt9 ws z : Int)) := by
   unfold Hid cnt9
   rw [← hS, List.length_map]
  rw [HZ.out] at hv
  have hvb : Boxed (W.putObj D (.deferred none)) w.heap.size 3 (.int .i64 (cnt9 ws z : Int)) := (World.putObj_heap_other (by omega)).trans hv
  have c2 := hv.cell
  go_wp2
  exact endM rfl hD2 (results_tmp rfl _ _ _) ⟨rfl, put_below hBe (by omega) (Nat.le_refl _) _⟩
 case hstop => exact fun _ _ _ _ _ _ h _ => h.elim

end Go.Proofs.YtbldfgaogmfoaaaGreat

/- Most (layer 9): walked. -/

namespace Go.Proofs.YtbldfgaogmfoaaaGreat
open Go.RowKit Go.Sort

def mostN (ws : List (List Int)) : Nat → Nat
 | 0 => 0
 | i + 1 => max (mostN ws i) (cnt9 ws i)

set_option maxRecDepth 100000 in
set_option maxHeartbeats 8000000 in
theorem most9_yes (t : TV) (T : TrieT) (sp ws : List (List Int)) (w : World) (hT : Tri w t T) (hb : t.un ≤ 140737488351232) (hr : readP T = some (sp, ws)) :
  Calls Tryz.prog 67 #[.agg t.cells] w fun e w' => e = .returned (.int .i64 ((mostN ws (nodesL ws).length : Nat) : Int)) ∧ Below w.heap.size w w' := by
 obtain ⟨ua, un, uc, da, dn, dc, xa, xn, xc, ba, bn, bc⟩ := t
 obtain ⟨W, hW⟩ : ∃ W, W = w.alloc (.cells #[.slice ua un uc, .slice da dn dc, .slice xa xn xc, .slice ba bn bc] 34) := ⟨_, rfl⟩
 have hB : Below w.heap.size w W := by rw [hW]; exact below_alloc _ _
 have hQ : W.heap[w.heap.size]? = some (.cells #[.slice ua un uc, .slice da dn dc, .slice xa xn xc, .slice ba bn bc] 34 (0, 0)) := by rw [hW]; exact World.alloc_heap_new _ _
 have c0 : W.cell? ⟨w.heap.size, 0, none⟩ = some (.slice ua un uc) := by simp [World.cell?, hQ]
 have c1 : W.cell? ⟨w.heap.size, 1, none⟩ = some (.slice da dn dc) := by simp [World.cell?, hQ]
 have c2 : W.cell? ⟨w.heap.size, 2, none⟩ = some (.slice xa xn xc) := by simp [World.cell?, hQ]
 have c3 : W.cell? ⟨w.heap.size, 3, none⟩ = some (.slice ba bn bc) := by simp [World.cell?, hQ]
 have HC := Lib.hid (read9_yes _ T sp ws W (hT.below hB) hb hr)
 have HN : Hid ((nodesL ws).length ≤ 400) := read_n hr
 obtain ⟨_, hTe, _⟩ := readP_iff.1 hr
 have HWD : Hid (Sl1 (Value.int .i64) w xa xn (trieP ws).wrd) := by rw [Hid, ← hTe]; exact hT.wrd
 have hdl : (trieP ws).dep.length = dn := by rw [← hTe]; exact hT.dep.1
 have hd0 : (trieP ws).dep.length = (nodesL ws).length := by simp [trieP]
 rw [hd0] at hdl
 subst hdl
 clear hT hr hTe hd0
 go_enter Tryz.func67, Tryz.ntmps67
 go_upto_region 1 with fail
 rw [← hW]
 clear hW
 go_wp2_with fail
 refine HC.out.mono ?_
 rintro e w1 ⟨g, rfl, hAl, hb1⟩
 have hB1 := hB.trans (hb1.mono hB.size)
 clear c0 c1 c2 c3 hQ hB hb1
 go_upto_region 5 with fail
 obtain ⟨W6, hW6⟩ : ∃ W, W = w1.alloc (.cells #[.pointer (some ⟨g, 0, none⟩)] 173) := ⟨_, rfl⟩
 have hb6 : Below w1.heap.size w1 W6 := by rw [hW6]; exact below_alloc _ _
 have hA6 : Boxed W6 w1.heap.size 173 (.pointer (some ⟨g, 0, none⟩)) := by rw [hW6]; exact Boxed.new w1 173 _
 rw [← hW6]
 clear hW6
 have hB6 := hB1.trans (hb6.mono hB1.size)
 have hAl6 := hAl.below hb6
 have hl6 := hA6.lt
 obtain ⟨q, f1, f2, f3, f4⟩ := hAl6.ex
 have hxl : (trieP ws).wrd.length = xn := HWD.out.1
 rw [(wrd_len ws).1] at hxl
 subst hxl
 have hgl : g < W6.heap.size := (Array.getElem?_eq_some_iff.1 f1).1
 have c7 := hA6.cell
 have c8 : W6.cell? ⟨g, 4, none⟩ = some (.slice (some ⟨q, 0, none⟩) (nodesL ws).length (nodesL ws).length) := by simp [World.cell?, f1]
 have HA6 := Lib.hid hA6
 have HL6 := Lib.hid hAl6
 clear f1 f2 f3 f4 hAl hA6 hAl6
 obtain ⟨n, hn⟩ : ∃ n, (nodesL ws).length = n := ⟨_, rfl⟩
 have HNN := Lib.hid hn
 rw [hn] at HC HN HWD c8
 clear HC hn
 have hn4 : n ≤ 400 := HN.out
 go_wp2_with fail
 go_loopw [6, 21] (fun s6 s21 wr => ∃ i : Nat, i ≤ n ∧ s6 = .int .i64 ((mostN ws i : Nat) : Int) ∧ s21 = .int .i64 i ∧ Below W6.heap.size W6 wr) (fun _ s _ => n - (intOf s).toNat)
 case atStart => exact ⟨0, Nat.zero_le _, rfl, rfl, Below.refl _ _⟩
 case round =>
  obtain ⟨i, hi, rfl, rfl, hBe⟩ := hrel
  by_cases hil : i < n
  ·
   have hd : decide ((i : Int) < n) = true := by simp; omega
   have hAr : Boxed wr w1.heap.size 173 (.pointer (some ⟨g, 0, none⟩)) := (hBe.block _ hl6).trans HA6.out
   have hLr := HL6.out.below hBe
   obtain ⟨q, f1, f2, _⟩ := hLr.ex
   obtain ⟨b0, o0, v0, hxa, hb0, _, _⟩ := sl1_at HWD.out hil
   subst hxa
   have hBw := hB6.trans (hBe.mono hB6.size)
   rw [HNN.out] at f1
   have HT := Lib.hid (count9_any ws g q w1.heap.size b0 o0 n xc i _ _ _ wr f1 f2 HNN.out (by have := HN.out; omega) (fun j v hv => by
      obtain ⟨b2, o2, x2, e2, hl2, cx2, hx2⟩ := sl1_at HWD.out (k := j) (by rw [← HNN.out, ← (wrd_len ws).1]; exact (List.getElem?_eq_some_iff.1 hv).1)
      injection e2 with e2
      injection e2 with e3 e4 e5
      subst e3 e4
      rw [hv] at hx2
      injection hx2 with hx2
      subst hx2
      exact (hBw.cell (p := ⟨b0, o0 + j, none⟩) hl2).trans cx2) (by have := hBw.size; omega) hAr hil)
   have hmx : max ((mostN ws i : Nat) : Int) ((cnt9 ws i : Nat) : Int) = ((mostN ws (i + 1) : Nat) : Int) := by
    show _ = ((max (mostN ws i) (cnt9 ws i) : Nat) : Int)
    omega
   clear hAr hLr f1 f2
   go_wp2_with fail
   refine HT.out.mono ?_
   rintro e w3 ⟨rfl, hB3⟩
   go_wp2
   go_roundw
   case rel => exact ⟨i + 1, by omega, by rw [← hmx], by go_num, hBe.trans (hB3.mono hBe.size)⟩
   case measure => simp [intOf]; omega
  ·
   obtain rfl : i = n := by omega
   have hd : decide ((i : Int) < i) = false := by simp
   go_wp2
   go_ret
   refine ⟨?_, hB6.trans (hBe.mono hB6.size)⟩
   rw [HNN.out]
   rfl

end Go.Proofs.YtbldfgaogmfoaaaGreat

/- What the document says of ushers (layer 11): plain. -/

namespace Go.Proofs.YtbldfgaogmfoaaaGreat

theorem he_right11 : rightP false heW = true := by decide +kernel
theorem he_tab : tabP false heW = [0, 0, 1, 0, 2, 0, 3, 1, 0, 2, 0, 0, 4, 0, 2, 0, 0, 1, 5, 2, 0, 6, 1, 0, 2, 0, 0, 1, 0, 2, 0, 0, 1, 5, 2] := by decide +kernel
theorem he_tabl : (tabP false heW).length = 35 := by rw [he_tab]; rfl
end Go.Proofs.YtbldfgaogmfoaaaGreat

/- A drawn region with held cells: a call that tells the same in whatever world; two calls of which either may come first. -/

namespace Go.Proofs.YtbldfgaogmfoaaaGreat
open Go.RowKit Go.Sort

section
variable {P : Program} {md : Region.Mode} {ops : Array Oper} {Q : Exit → Act → World → Prop} {S : World → Prop}
end
/-- A whole block's cells, read in a drawn region. -/
theorem yieldsIf_load_row {P : Program} {ops : Array Oper} {S : World → Prop} {op : Oper} {a : Act} (hw : Region.wanted op (yielded ops a.tmps) = true) (ty : TypeId) (x : Operand) (ho : op.op = .load ty x)
  (g : Nat) (hx : a.eval x = .pointer (some ⟨g, 0, none⟩)) (t : TypeId) (cs : Array Value) (fr : Nat × Nat) (d : TypeDesc) (hS : ∀ w, S w → w.heap[g]? = some (.cells cs t fr))
  (hu : P.underlying ty = some d) (hd : (match d with | .struct _ | .array _ _ => true | _ => false) = true) (hi : (P.info? ty).map (·.size) = some cs.size) : YieldsIf P ops S op (.agg cs) a :=
 .inl ⟨hw, fun w hw' => by
  unfold execOp
  simp only [ho, hx, Instr.loadAt, Instr.sureAddr, Sem.run_bind, Sem.run_pure, Result.andThen_ok, run_loadVar_row w g t ty cs fr d (hS w hw') hu hd hi]⟩
end Go.Proofs.YtbldfgaogmfoaaaGreat

/- What the document says of ushers (layer 11): walked. -/

namespace Go.Proofs.YtbldfgaogmfoaaaGreat
open Go.RowKit Go.Sort

/-- What lies there all the way: the table and its box. -/
structure C11 (w : World) (R Q : Nat) (W : World) : Prop where
 row : IntRow R (tabP false heW) W
 box : Dv W Q (clsP false heW) 5 (.slice (some ⟨R, 0, none⟩) 35 35)
 bel : Below w.heap.size w W
theorem C11.below {w W V : World} {R Q : Nat} (h : C11 w R Q W) (hb : Below W.heap.size W V) : C11 w R Q V :=
 ⟨(hb.block R h.row.lt).trans h.row, h.box.below hb, h.bel.trans (hb.mono h.bel.size)⟩
theorem C11.sl {w W : World} {R Q : Nat} (h : C11 w R Q W) : Sl1 (Value.int .i64) W (some ⟨R, 0, none⟩) 35 (tabP false heW) := by
 have := h.row.sl1
 rwa [he_tabl] at this
theorem dv_info {L : List Int} (hL : L.length = 256) (m : Int) (row : Value) : (Tryz.prog.info? 109).map (·.size) = some (dvC L m row).toArray.size := by rw [dvC_size hL]; exact info28
theorem dv_old {L : List Int} (hL : L.length = 256) (m : Int) (row : Value) : Tryz.zeroCells109.size = (dvC L m row).toArray.size := by rw [zero28, dvC_size hL, dvC_size List.length_replicate]
end Go.Proofs.YtbldfgaogmfoaaaGreat

/- The law DenseParts (layer 11): walked. Printed by exp.py. -/

namespace Go.Proofs.YtbldfgaogmfoaaaGreat
open Go.RowKit Go.Sort

/-- What lies there all the way: a set's table and its box. -/
structure CT (w : World) (L F : List Int) (m k : Nat) (R Q : Nat) (W : World) : Prop where
 row : IntRow R F W
 box : Dv W Q L m (.slice (some ⟨R, 0, none⟩) k k)
 len : F.length = k
 bel : Below w.heap.size w W
theorem CT.below {w W V : World} {L F : List Int} {m k R Q : Nat} (h : CT w L F m k R Q W) (hb : Below W.heap.size W V) : CT w L F m k R Q V :=
 ⟨(hb.block R h.row.lt).trans h.row, h.box.below hb, h.len, h.bel.trans (hb.mono h.bel.size)⟩
theorem CT.sl {w W : World} {L F : List Int} {m k R Q : Nat} (h : CT w L F m k R Q W) : Sl1 (Value.int .i64) W (some ⟨R, 0, none⟩) k F := by
 have := h.row.sl1
 rwa [h.len] at this

end Go.Proofs.YtbldfgaogmfoaaaGreat

/- Machines (layer 13): Compile; walked. -/

namespace Go.Proofs.YtbldfgaogmfoaaaGreat
open Go.RowKit Go.Sort

set_option maxRecDepth 100000 in
set_option maxHeartbeats 4000000 in
theorem compile13_no (fold : Bool) (a : Option Addr) (la ca : Nat) (wss : List (List Int)) (w : World) (hA : Wds w a la wss) (hla : la ≤ 1000000) (hM : ∀ x ∈ wss, x.length ≤ 1000000) (hT : (begL fold wss).length ≤ 1000000) (hr : rightP fold wss = false) :
  Calls Tryz.prog 30 #[.agg (setV fold a la ca)] w fun e w' => e = .returned (.tuple #[.pointer none, .int .i64 2]) ∧ Below w.heap.size w w' := by
 have hB := below_alloc w (.cells (setV fold a la ca) 24)
 have HD := Lib.hid (make11_no fold a la ca wss _ (hA.below hB) hla hM hT hr)
 have hLl : (List.replicate 256 (0 : Int)).length = 256 := by simp
 clear hA hr
 obtain ⟨L0, hL0⟩ : ∃ L0, List.replicate 256 (0 : Int) = L0 := ⟨_, rfl⟩
 rw [hL0] at HD hLl
 clear hL0
 go_enter Tryz.func30, Tryz.ntmps30
 go_upto_region 2 with (first
  | (refine wpList_store_row rfl 109 _ _ rfl _ _ rfl rfl 109 _ (heap_alloc_new _ _) (dv_info hLl _ _) (dv_old hLl _ _) (dvC_one _ _ _ rfl) ?_)
  | (go_at_call 62; refine HD.out.mono ?_; rintro e w3 ⟨rfl, hb3⟩))
 rw [World.setRow_alloc_new]
 obtain ⟨w4, hw4⟩ : ∃ w4, w4 = w3.alloc (.cells (dvC L0 0 (.slice none 0 0)).toArray 109) := ⟨_, rfl⟩
 have hB4 : Below w.heap.size w w4 := by rw [hw4]; exact ((hB.trans (hb3.mono hB.size)).alloc (hB.trans (hb3.mono hB.size)).size _)
 rw [← hw4]
 clear hw4 hb3 hB
 go_wp2
 go_ret2
 exact ⟨rfl, hB4⟩

/-- What holds behind a region that comes to its end. -/
def MidN (M : Act → World → Prop) : Exit → Act → World → Prop
 | .normal, a, w => M a w
 | _, _, _ => False

theorem up_len13 (ws : List (List Int)) : (trieP ws).up.length = (nodesL ws).length := by simp [trieP]

end Go.Proofs.YtbldfgaogmfoaaaGreat

/- Machines (layer 13): rows of numbers that a call fills one by one, in a block of its own. -/

namespace Go.Proofs.YtbldfgaogmfoaaaGreat
open Go.RowKit Go.Sort

/-- One row is being filled: what it holds lies in a block of its own beyond B. -/
def HoldsG (G B : Nat) (vs : List Sv) (node : Nat) (l : List Int) (W : World) : Prop := ∃ v : Sv, W.heap[G]? = some (.cells ((vs.set node v).map svV).toArray 32 (0, 0)) ∧ OwnI W B (svV v) l
/-- The first rows are full, the others are nil. -/
def FillR (G n : Nat) (xss : List (List Int)) (W : World) : Prop := ∃ vs : List Sv, W.heap[G]? = some (.cells (vs.map svV).toArray 32 (0, 0)) ∧ vs.length = n ∧ xss.length ≤ n ∧ (∀ (i : Nat) (v : Sv), xss.length ≤ i → vs[i]? = some v → v = (none, 0, 0)) ∧
 ∀ (i : Nat) (v : Sv) (xs : List Int), vs[i]? = some v → xss[i]? = some xs → Sl1 (Value.int .i64) W v.1 v.2.1 xs ∧ v.2.1 ≤ v.2.2 ∧ ∀ p, v.1 = some p → G ≤ p.block

theorem set_sv {w : World} {G node : Nat} {vs : List Sv} {v : Sv} {t : TypeId} (h : w.heap[G]? = some (.cells ((vs.set node v).map svV).toArray t (0, 0))) (u : Sv) : (w.setCell ⟨G, node, none⟩ (svV u)).heap[G]? = some (.cells ((vs.set node u).map svV).toArray t (0, 0)) := by
 have := set_at (i := node) h (svV u)
 rw [this]
 simp [List.map_set]
theorem HoldsG.cell {W : World} {G B node : Nat} {vs : List Sv} {v : Sv} {t : TypeId} (h : W.heap[G]? = some (.cells ((vs.set node v).map svV).toArray t (0, 0))) (hn : node < vs.length) : W.cell? ⟨G, node, none⟩ = some (svV v) := by
 rw [cell_of_row W G node _ _ _ h]
 simp [List.getElem?_set, hn]

theorem HoldsG.app {W w6 : World} {G B node : Nat} {vs : List Sv} {l : List Int} {z : Int} {v u : Sv} {tmp : Obj} (hv : W.heap[G]? = some (.cells ((vs.set node v).map svV).toArray 32 (0, 0))) (hown : OwnI W B (svV v) l) (hG : G < B) (hBW : B ≤ W.heap.size)
  (hown' : w6.ownsRow B 3 1 (svV u) (l.length + 1) (l.map (Value.int .i64) ++ [.int .i64 z])) (hgrow : (W.alloc tmp).grownBy w6 (svV v).ownBlock) :
  w6.heap[G]? = some (.cells ((vs.set node v).map svV).toArray 32 (0, 0)) ∧ HoldsG G B vs node (l ++ [z]) (w6.setCell ⟨G, node, none⟩ (svV u)) ∧ KeepsOthers W (w6.setCell ⟨G, node, none⟩ (svV u)) ∧ (∀ k, k < B → k ≠ G → (w6.setCell ⟨G, node, none⟩ (svV u)).heap[k]? = W.heap[k]?) ∧ Below G W (w6.setCell ⟨G, node, none⟩ (svV u)) := by
 have far : ∀ k, k < B → (svV v).ownBlock ≠ some k := fun k hk e => by have := (row_lt hown k e).1; omega
 have hv1 : w6.heap[G]? = _ := (hgrow.block G (by simp; omega) (fun e => far G hG e.symm)).trans ((Below.heap_alloc W tmp G (by omega)).trans hv)
 refine ⟨hv1, ⟨u, set_sv hv1 u, ?_⟩, ?_, fun k hk hkG => ?_, ?_⟩
 ·
  have := World.ownsRow.kept hown' (grown_set2 w6 G node (svV u)) (.inr fun e => by have := (row_lt hown' G e).1; omega)
  unfold OwnI
  rw [List.length_append, List.map_append]
  exact this
 ·
  refine ((KeepsOthers.alloc W tmp).trans (KeepsOthers.of_grownBy hgrow fun j o ej hj => ?_)).trans (KeepsOthers.setCell _ _ _)
  rcases (World.ownsRow.alloc hown tmp).2 with ⟨h, _⟩ | ⟨g, cap, cur, h, _, hgb, _⟩
  · rw [h] at ej; simp [Value.ownBlock] at ej
  ·
   rw [h] at ej
   obtain rfl : g = j := by simpa [Value.ownBlock] using ej
   rw [hgb] at hj; cases hj; rfl
 · exact (Below.heap_setCell _ _ _ _ (by show k ≠ G; exact hkG)).trans ((hgrow.block k (by simp; omega) (fun e => far k hk e.symm)).trans (Below.heap_alloc _ _ _ (by omega)))
 ·
  refine (((Below.refl G W).alloc (by omega) tmp).grown hgrow (by simp; omega) fun j ej => ?_).setCell (p := ⟨G, node, none⟩) (Nat.le_refl _) (svV u)
  have := (row_lt hown j ej).1
  omega

theorem holdsG_owns {α : Type} {G B p node : Nat} {vs : List Sv} (hp : p ≠ G) (hpB : p < B) (f : α → List Int) : OwnsW B (fun r => r = p) (fun s W => HoldsG G B vs node (f s) W) := by
 rintro s W W' row ⟨v, hv, ho⟩ hg hr
 have far : ∀ {k : Nat} {cs : Array Value} {t : TypeId}, W.heap[k]? = some (.cells cs t (0, 0)) → k ≠ p → row ≠ some k := fun {k cs t} hk hkp e => by
  rcases hr k e with ⟨_, o, h1, h2⟩ | h
  · rw [hk] at h1; cases h1; cases h2
  · exact hkp h
 refine ⟨v, (hg.block G (Array.getElem?_eq_some_iff.1 hv).1 (fun e => far hv (Ne.symm hp) e.symm)).trans hv, ho.kept hg ?_⟩
 rcases ho.2 with ⟨h, _⟩ | ⟨g, cap, cur, h, hg0, hgb, _⟩
 · rw [h]; exact .inl rfl
 ·
  rw [h]
  refine .inr fun e => ?_
  have e' : row = some g := by rw [← e]; rfl
  rcases hr g e' with ⟨_, o, h1, h2⟩ | h
  · rw [hgb] at h1; cases h1; cases h2
  · omega
theorem keptB_owns {α : Type} {B G p : Nat} {P : Nat → Prop} {w : World} (hP : ∀ k, k < B → P k → k ≠ p) : OwnsW B (fun r => r = p) (fun (_ : α) W => (∀ k, k < B → P k → W.heap[k]? = w.heap[k]?) ∧ B ≤ W.heap.size) := fun s W W' row h hg hr =>
 ⟨fun k hk hkb => (hg.block k (Nat.lt_of_lt_of_le hk h.2) (fun e => by
  rcases hr k e.symm with ⟨h1, _⟩ | h1
  · omega
  · exact hP k hk hkb h1)).trans (h.1 k hk hkb), Nat.le_trans h.2 hg.size⟩

theorem FillR.new {W : World} {G n : Nat} (h : W.heap[G]? = some (.cells (rowsNil n) 32 (0, 0))) : FillR G n [] W := by
 refine ⟨List.replicate n (none, 0, 0), ?_, by simp, Nat.zero_le _, fun i v _ hv => ?_, fun i v xs _ hx => by simp at hx⟩
 ·
  rw [h]
  simp [rowsNil, svV]
 ·
  rw [List.getElem?_replicate] at hv
  split at hv
  · exact (Option.some.inj hv).symm
  · cases hv
theorem Sl1.keptG {w W : World} {a : Option Addr} {n G : Nat} {x : List Int} {vs : List Sv} {t : TypeId} (h : Sl1 (Value.int .i64) w a n x) (hg : w.heap[G]? = some (.cells (vs.map svV).toArray t (0, 0))) (hk : ∀ k, k < w.heap.size → k ≠ G → W.heap[k]? = w.heap[k]?) (hs : w.heap.size ≤ W.heap.size) : Sl1 (Value.int .i64) W a n x := by
 refine ⟨h.1, ?_⟩
 rcases h.2 with h0 | ⟨b, off, e, hlt, hc⟩
 · exact .inl h0
 ·
  by_cases hn : x = []
  · left; have := h.1; rw [hn] at this; simpa using this.symm
  ·
   refine .inr ⟨b, off, e, by omega, fun j y hy => ?_⟩
   have hbg : b ≠ G := by
    rintro rfl
    have hj := hc j y hy
    rw [cell_of_row w b (off + j) _ _ _ hg] at hj
    simp only [List.getElem?_toArray, List.getElem?_map, Option.map_eq_some_iff] at hj
    obtain ⟨v, _, hv⟩ := hj
    cases hv
   exact (World.cell?_of_block (a := ⟨b, off + j, none⟩) (hk b hlt hbg)).trans (hc j y hy)
theorem FillR.step {W W2 : World} {G n B node : Nat} {vs : List Sv} {xss : List (List Int)} {xs : List Int} (hg : W.heap[G]? = some (.cells (vs.map svV).toArray 32 (0, 0))) (hl : vs.length = n) (hx : xss.length = node) (hn : node < n) (hnil : ∀ (i : Nat) (v : Sv), xss.length ≤ i → vs[i]? = some v → v = (none, 0, 0))
  (hr : ∀ (i : Nat) (v : Sv) (xs : List Int), vs[i]? = some v → xss[i]? = some xs → Sl1 (Value.int .i64) W v.1 v.2.1 xs ∧ v.2.1 ≤ v.2.2 ∧ ∀ p, v.1 = some p → G ≤ p.block) (hGB : G ≤ B) (hh : HoldsG G B vs node xs W2) (hk : ∀ k, k < W.heap.size → k ≠ G → W2.heap[k]? = W.heap[k]?) (hs : W.heap.size ≤ W2.heap.size) : FillR G n (xss ++ [xs]) W2 := by
 obtain ⟨v, h1, h2⟩ := hh
 refine ⟨_, h1, by simp [hl], by simp; omega, fun i u hi hu => ?_, fun i u ys hu hy => ?_⟩
 ·
  simp at hi
  rw [List.getElem?_set_ne (by omega)] at hu
  exact hnil i u (by omega) hu
 ·
  by_cases hi : i = node
  ·
   subst hi
   rw [List.getElem?_set_self (by omega)] at hu
   obtain rfl := Option.some.inj hu
   rw [← hx, List.getElem?_concat_length] at hy
   obtain rfl := Option.some.inj hy
   obtain ⟨a, c, e, hc, hsl⟩ := own_sl1 (enc := Value.int .i64) h2
   simp only [svV, Value.slice.injEq] at e
   obtain ⟨e1, e2, e3⟩ := e
   rw [e1, e2, e3]
   refine ⟨hsl, hc, fun p hp => ?_⟩
   rcases h2.2 with ⟨h, _⟩ | ⟨g, cap, cur, h, hg0, _⟩
   ·
    simp only [svV, Value.slice.injEq] at h
    rw [← e1, h.1] at hp; cases hp
   ·
    simp only [svV, Value.slice.injEq] at h
    rw [← e1, h.1] at hp
    cases hp
    exact Nat.le_trans hGB hg0
  ·
   rw [List.getElem?_set_ne (Ne.symm hi)] at hu
   have hil := (List.getElem?_eq_some_iff.1 hy).1
   rw [List.getElem?_append_left (by simp at hil; omega)] at hy
   obtain ⟨h3, h4⟩ := hr i u ys hu hy
   exact ⟨h3.keptG hg hk hs, h4⟩
theorem FillR.lls {W : World} {G n : Nat} {xss : List (List Int)} (h : FillR G n xss W) (hx : xss.length = n) : Lls W (some ⟨G, 0, none⟩) n xss := by
 obtain ⟨vs, h1, h2, _, _, h3⟩ := h
 refine ⟨vs, ⟨h2, .inr ⟨G, 0, rfl, (Array.getElem?_eq_some_iff.1 h1).1, fun i v hv => ?_⟩⟩, h2.trans hx.symm, fun i v xs hv hxs => ⟨(h3 i v xs hv hxs).1, (h3 i v xs hv hxs).2.1⟩⟩
 rw [cell_of_row W G (0 + i) _ _ _ h1]
 simp [hv]
theorem FillR.below {W V : World} {G n : Nat} {xss : List (List Int)} (h : FillR G n xss W) (hb : Below W.heap.size W V) : FillR G n xss V := by
 obtain ⟨vs, h1, h2, h3, h4, h5⟩ := h
 exact ⟨vs, (hb.block G (Array.getElem?_eq_some_iff.1 h1).1).trans h1, h2, h3, h4, fun i v xs hv hx => ⟨(h5 i v xs hv hx).1.below hb, (h5 i v xs hv hx).2⟩⟩
/-- What the rounds of loops have put off, nothing: the marks in a function's frame. -/
def Colls (Q : Nat) (W : World) : List Deferred → Prop
 | [] => True
 | d :: ds => (∃ D, d = { target := .collected D, args := #[] } ∧ Q ≤ D ∧ W.heap[D]? = some (Obj.deferred (some [])) ∧ ∀ d' ∈ ds, d'.target ≠ .collected D) ∧ Colls Q W ds
theorem Colls.lt {Q : Nat} {W : World} : ∀ {ds : List Deferred}, Colls Q W ds → ∀ D, (∃ d ∈ ds, d.target = .collected D) → D < W.heap.size
 | [], _, D, ⟨d, hd, _⟩ => by simp at hd
 | d0 :: ds, ⟨⟨D0, e, _, h0, _⟩, h⟩, D, ⟨d, hd, e1⟩ => by
  rcases List.mem_cons.1 hd with rfl | hd
  ·
   rw [e] at e1
   cases e1
   exact (Array.getElem?_eq_some_iff.1 h0).1
  · exact Colls.lt h D ⟨d, hd, e1⟩
theorem Colls.keep {Q : Nat} {W V : World} : ∀ {ds : List Deferred}, Colls Q W ds → (∀ D, (∃ d ∈ ds, d.target = .collected D) → W.heap[D]? = some (Obj.deferred (some [])) → V.heap[D]? = some (Obj.deferred (some []))) → Colls Q V ds
 | [], _, _ => trivial
 | d0 :: ds, ⟨⟨D0, e, hq, h0, hn⟩, h⟩, hk => ⟨⟨D0, e, hq, hk D0 ⟨d0, List.mem_cons_self .., by rw [e]⟩ h0, hn⟩, Colls.keep h fun D ⟨d, hd, e1⟩ => hk D ⟨d, List.mem_cons_of_mem _ hd, e1⟩⟩
theorem Colls.push {Q D G : Nat} {W V : World} {ds : List Deferred} (h : Colls Q W ds) (hk : ∀ k, k < W.heap.size → k ≠ G → V.heap[k]? = W.heap[k]?) (hG : ∀ l : Option (List Deferred), W.heap[G]? ≠ some (Obj.deferred l)) (hD : W.heap.size ≤ D) (hV : V.heap[D]? = some (Obj.deferred (some []))) (hQ : Q ≤ W.heap.size) :
  Colls Q V ({ target := .collected D, args := #[] } :: ds) := by
 refine ⟨⟨D, rfl, by omega, hV, fun d' hd e => ?_⟩, h.keep fun D' hd h0 => ?_⟩
 ·
  have := h.lt D ⟨d', hd, e⟩
  omega
 ·
  rw [hk D' (Array.getElem?_eq_some_iff.1 h0).1 (fun e => hG _ (by rw [← e]; exact h0))]
  exact h0
/-- The marks have been taken: what is no list of calls put off lies as it lay. -/
def TookD (Q : Nat) (W W' : World) : Prop := Below Q W W' ∧ W'.heap.size = W.heap.size ∧ ∀ k : Nat, (∀ l : Option (List Deferred), W.heap[k]? ≠ some (Obj.deferred l)) → W'.heap[k]? = W.heap[k]?
theorem endL {P : Program} {fn : Func} {R : Ending → World → Prop} {tmps : Array Value} {Q : Nat} : ∀ (ds : List Deferred) (W : World), Q ≤ W.heap.size → Colls Q W ds → (∀ W', TookD Q W W' → ∃ v, (results fn tmps).run P W' = .ok v W' ∧ R (.returned v) W') →
  LeavesInM Fence.wide 9 P fn tmps R ds .returning W
 | [], W, _, _, h => h W ⟨Below.refl _ _, rfl, fun _ _ => rfl⟩
 | d :: ds, W, hQ, ⟨⟨D, e, hq, hD, hn⟩, hc⟩, h => by
  subst e
  refine ⟨by simp, .inl ⟨_, _, rfl, run_takeDeferred hD, endL ds _ (by simpa [World.putObj] using hQ) (hc.keep fun D' hd h0 => ?_) (fun W' hW' => h W' ⟨(put_below (Below.refl Q W) hq hQ _).trans hW'.1, by rw [hW'.2.1]; simp [World.putObj], fun k hk => ?_⟩)⟩⟩
  ·
   obtain ⟨d', h1, h2⟩ := hd
   rw [World.putObj_heap_other (fun e => hn d' h1 (by rw [h2, e]))]
   exact h0
  ·
   have hkD : k ≠ D := fun e => hk _ (by rw [e]; exact hD)
   have e1 : (W.putObj D (.deferred none)).heap[k]? = W.heap[k]? := World.putObj_heap_other hkD
   rw [hW'.2.2 k (fun l => by rw [e1]; exact hk l), e1]
theorem TookD.cell {Q : Nat} {W W' : World} (h : TookD Q W W') {a : Addr} {v : Value} (hc : W.cell? a = some v) : W'.cell? a = some v := by
 rw [← hc]
 refine World.cell?_of_block (h.2.2 _ fun l e => ?_)
 unfold World.cell? at hc
 rw [e] at hc
 simp at hc
theorem TookD.box {Q : Nat} {W W' : World} (h : TookD Q W W') {k : Nat} {cs : Array Value} {t : TypeId} {fz : Nat × Nat} (hc : W.heap[k]? = some (.cells cs t fz)) : W'.heap[k]? = some (.cells cs t fz) :=
 (h.2.2 k fun l e => by rw [hc] at e; cases e).trans hc
theorem TookD.sl1 {α : Type} {enc : α → Value} {Q : Nat} {W W' : World} (h : TookD Q W W') {a : Option Addr} {n : Nat} {xs : List α} (hs : Sl1 enc W a n xs) : Sl1 enc W' a n xs := by
 refine ⟨hs.1, ?_⟩
 rcases hs.2 with h0 | ⟨b, off, e, hlt, hc⟩
 · exact .inl h0
 · exact .inr ⟨b, off, e, by rw [h.2.1]; exact hlt, fun i x hx => h.cell (hc i x hx)⟩
theorem TookD.wds {Q : Nat} {W W' : World} (h : TookD Q W W') {a : Option Addr} {n : Nat} {wss : List (List Int)} (hs : Wds W a n wss) : Wds W' a n wss := by
 obtain ⟨vs, h1, h2, h3⟩ := hs
 exact ⟨vs, h.sl1 h1, h2, fun i v xs hv hx => ⟨⟨h.sl1 (h3 i v xs hv hx).1.1, (h3 i v xs hv hx).1.2⟩, (h3 i v xs hv hx).2⟩⟩
theorem TookD.lls {Q : Nat} {W W' : World} (h : TookD Q W W') {a : Option Addr} {n : Nat} {xss : List (List Int)} (hs : Lls W a n xss) : Lls W' a n xss := by
 obtain ⟨vs, h1, h2, h3⟩ := hs
 exact ⟨vs, h.sl1 h1, h2, fun i v xs hv hx => ⟨h.sl1 (h3 i v xs hv hx).1, (h3 i v xs hv hx).2⟩⟩
theorem TookD.mok {Q : Nat} {W W' : World} (h : TookD Q W W') {B R la ca wc : Nat} {fold : Bool} {wss : List (List Int)} {lo mo : Int} {a wa : Option Addr} (hm : MOK W B fold wss lo mo R a la ca wa wc) : MOK W' B fold wss lo mo R a la ca wa wc :=
 ⟨⟨h.box hm.mc.box, hm.mc.len⟩, h.box hm.row, h.wds hm.wds, h.lls hm.lls⟩

theorem grownBy_trans {a b c : World} {G : Nat} (h : a.grownBy b (some G)) (k : b.grownBy c (some G)) : a.grownBy c (some G) :=
 ⟨k.os.trans h.os, k.tape.trans h.tape, k.output.trans h.output, Nat.le_trans h.size k.size, fun i hi hn => (k.block i (Nat.lt_of_lt_of_le hi h.size) hn).trans (h.block i hi hn)⟩
theorem Mc.setW {w : World} {B : Nat} {L : List Int} {m n : Int} {row : Value} {fold : Bool} {sw : Value} {lo mo : Int} {wd : Value} (h : Mc w B L m n row fold sw lo mo wd) (u : Value) : Mc (w.setCell ⟨B, 263, none⟩ u) B L m n row fold sw lo mo u := by
 refine ⟨?_, h.len⟩
 rw [set_at (i := 263) h.box u]
 simp [mcC, List.set_append, h.len]
theorem row_lower {w : World} {base base' n size : Nat} {e : TypeId} {v : Value} {xs : List Value} (h : w.ownsRow base e size v n xs) (hb : base' ≤ base) : w.ownsRow base' e size v n xs :=
 ⟨h.1, h.2.imp id fun ⟨g, cap, cur, h1, h2, r⟩ => ⟨g, cap, cur, h1, by omega, r⟩⟩
theorem OwnW.lower {w : World} {b b' : Nat} {v : Value} {wss : List (List Int)} (h : OwnW w b v wss) (hb : b' ≤ b) : OwnW w b' v wss := by
 obtain ⟨es, h1, h2, h3⟩ := h
 exact ⟨es, row_lower h1 hb, h2, fun i e xs he hx => ⟨row_lower (h3 i e xs he hx).1 hb, (h3 i e xs he hx).2⟩⟩
/-- What lies at q or beyond stays, but for marks of a frame. -/
def CKept (q : Nat) (W V : World) : Prop := W.heap.size ≤ V.heap.size ∧ ∀ k, q ≤ k → k < W.heap.size → (∀ l, W.heap[k]? ≠ some (Obj.deferred l)) → V.heap[k]? = W.heap[k]?
theorem CKept.cell {q : Nat} {W V : World} (h : CKept q W V) {a : Addr} {v : Value} (hq : q ≤ a.block) (hc : W.cell? a = some v) : V.cell? a = some v := by
 rw [← hc]
 have hlt := World.block_lt_of_cell? W a hc
 refine World.cell?_of_block (h.2 _ hq hlt fun l e => ?_)
 unfold World.cell? at hc
 rw [e] at hc
 simp at hc
theorem CKept.box {q : Nat} {W V : World} (h : CKept q W V) {k : Nat} {cs : Array Value} {t : TypeId} {fz : Nat × Nat} (hq : q ≤ k) (hc : W.heap[k]? = some (.cells cs t fz)) : V.heap[k]? = some (.cells cs t fz) :=
 (h.2 k hq (Array.getElem?_eq_some_iff.1 hc).1 fun l e => by rw [hc] at e; cases e).trans hc
theorem CKept.row {q : Nat} {W V : World} (h : CKept q W V) {e : TypeId} {size n : Nat} {v : Value} {xs : List Value} (ho : W.ownsRow q e size v n xs) : V.ownsRow q e size v n xs :=
 ⟨ho.1, ho.2.imp id fun ⟨g, cap, cur, h1, h2, h3, r⟩ => ⟨g, cap, cur, h1, h2, h.box h2 h3, r⟩⟩
theorem CKept.ownW {q : Nat} {W V : World} (h : CKept q W V) {v : Value} {wss : List (List Int)} (ho : OwnW W q v wss) : OwnW V q v wss := by
 obtain ⟨es, h1, h2, h3⟩ := ho
 exact ⟨es, h.row h1, h2, fun i e xs he hx => ⟨h.row (h3 i e xs he hx).1, (h3 i e xs he hx).2⟩⟩
theorem CKept.sl1 {α : Type} {enc : α → Value} {q : Nat} {W V : World} (h : CKept q W V) {a : Option Addr} {n : Nat} {xs : List α} (ha : ∀ p, a = some p → q ≤ p.block) (hs : Sl1 enc W a n xs) : Sl1 enc V a n xs := by
 refine ⟨hs.1, ?_⟩
 rcases hs.2 with h0 | ⟨b, off, e, hlt, hc⟩
 · exact .inl h0
 · exact .inr ⟨b, off, e, Nat.lt_of_lt_of_le hlt h.1, fun i x hx => h.cell (a := ⟨b, off + i, none⟩) (show q ≤ b from ha _ e) (hc i x hx)⟩
theorem CKept.of_below {q : Nat} {W V : World} (hb : Below W.heap.size W V) : CKept q W V := ⟨hb.size, fun k _ hk _ => hb.block k hk⟩
theorem TookD.kept {Q q : Nat} {W W' : World} (h : TookD Q W W') : CKept q W W' := ⟨by rw [h.2.1]; exact Nat.le_refl _, fun k _ _ hn => h.2.2 k hn⟩
/-- A machine's blocks lie at q or beyond. -/
structure MFar (q : Nat) (W : World) (B R : Nat) (a : Option Addr) (la ca : Nat) (wss : List (List Int)) (wa : Option Addr) : Prop where
 b : q ≤ B
 r : q ≤ R
 own : OwnW W q (.slice a la ca) wss
 rows : ∃ vs : List Sv, Sl1 (fun v => Value.slice v.1 v.2.1 v.2.2) W wa (nodesL wss).length vs ∧ vs.length = (nodesL wss).length ∧ (∀ (i : Nat) (v : Sv) (xs : List Int), vs[i]? = some v → ((List.range (nodesL wss).length).map (words9 wss))[i]? = some xs → Sl1 (Value.int .i64) W v.1 v.2.1 xs ∧ v.2.1 ≤ v.2.2 ∧ ∀ p, v.1 = some p → q ≤ p.block) ∧ ∀ p, wa = some p → q ≤ p.block
theorem MFar.kept {q B R la ca : Nat} {W V : World} {a wa : Option Addr} {wss : List (List Int)} (h : MFar q W B R a la ca wss wa) (hk : CKept q W V) : MFar q V B R a la ca wss wa := by
 obtain ⟨vs, h1, h2, h3, h4⟩ := h.rows
 exact ⟨h.b, h.r, hk.ownW h.own, vs, hk.sl1 h4 h1, h2, fun i v xs hv hx => ⟨hk.sl1 (h3 i v xs hv hx).2.2 (h3 i v xs hv hx).1, (h3 i v xs hv hx).2⟩, h4⟩
theorem MFar.mok {q B R la ca wc : Nat} {W V : World} {fold : Bool} {lo mo : Int} {a wa : Option Addr} {wss : List (List Int)} (h : MFar q W B R a la ca wss wa) (hk : CKept q W V) (hm : MOK W B fold wss lo mo R a la ca wa wc) : MOK V B fold wss lo mo R a la ca wa wc := by
 obtain ⟨vs, h1, h2, h3, h4⟩ := (h.kept hk).rows
 obtain ⟨a', c', e', _, hw⟩ := (h.kept hk).own.wds
 simp only [Value.slice.injEq] at e'
 obtain ⟨e1, e2, e3⟩ := e'
 rw [← e1, ← e2] at hw
 exact ⟨⟨hk.box h.b hm.mc.box, hm.mc.len⟩, hk.box h.r hm.row, hw, vs, h1, by simpa using h2, fun i v xs hv hx => ⟨(h3 i v xs hv hx).1, (h3 i v xs hv hx).2.1⟩⟩
theorem FillR.far {W : World} {G n q : Nat} {xss : List (List Int)} (h : FillR G n xss W) (hq : q ≤ G) : ∃ vs : List Sv, Sl1 (fun v => Value.slice v.1 v.2.1 v.2.2) W (some ⟨G, 0, none⟩) n vs ∧ vs.length = n ∧ (∀ (i : Nat) (v : Sv) (xs : List Int), vs[i]? = some v → xss[i]? = some xs → Sl1 (Value.int .i64) W v.1 v.2.1 xs ∧ v.2.1 ≤ v.2.2 ∧ ∀ p, v.1 = some p → q ≤ p.block) ∧ ∀ p, (some ⟨G, 0, none⟩ : Option Addr) = some p → q ≤ p.block := by
 obtain ⟨vs, h1, h2, _, _, h3⟩ := h
 refine ⟨vs, ⟨h2, .inr ⟨G, 0, rfl, (Array.getElem?_eq_some_iff.1 h1).1, fun i v hv => ?_⟩⟩, h2, fun i v xs hv hx => ⟨(h3 i v xs hv hx).1, (h3 i v xs hv hx).2.1, fun p hp => Nat.le_trans hq ((h3 i v xs hv hx).2.2 p hp)⟩, fun p hp => by cases hp; exact hq⟩
 rw [cell_of_row W G (0 + i) _ _ _ h1]
 simp [hv, svV]
end Go.Proofs.YtbldfgaogmfoaaaGreat
