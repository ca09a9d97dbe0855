/- Parts of the proof, one behind the other: Y7, Y8, YC, YD, Y9, YG, YE. No condition but what each theorem states. -/
import Derived.Deep.WholeRow
import Derived.Deep.MidRow
import Derived.Test.YtjfhefffbkpgkaaGreatQ12

/- Tables (layer 11): bytes, one behind the other; walked. -/

namespace Go.Proofs.YtjfhefffbkpgkaaGreat
open Go.RowKit Go.Sort
set_option linter.unusedVariables false
set_option linter.unusedSimpArgs false

/-- A table that leads from each of its nodes, by each byte, to one of them. -/
structure Led (L F : List Int) (m n : Nat) : Prop where
  cls : ∀ c : Nat, c < 256 → ∃ v : Nat, L[c]? = some (v : Int) ∧ v < m
  row : ∀ p : Nat, p < m * n → ∃ x : Nat, F[p]? = some (x : Int) ∧ x < n
/-- Where a table leads by a byte. -/
def goB (L F : List Int) (m j : Nat) (c : Int) : Nat := ((F[j * m + ((L[c.toNat]?).getD 0).toNat]?).getD 0).toNat
def runB (L F : List Int) (m j : Nat) (bs : List Int) : Nat := bs.foldl (goB L F m) j
theorem Led.go {L F : List Int} {m n : Nat} (h : Led L F m n) {j c : Nat} (hj : j < n) (hc : c < 256) : ∃ v : Nat, L[c]? = some (v : Int) ∧ v < m ∧ F[j * m + v]? = some (goB L F m j (c : Int) : Int) ∧ goB L F m j (c : Int) < n := by
  obtain ⟨v, h1, h2⟩ := h.cls c hc
  have hfit := mul_fit (many := m) hj
  obtain ⟨x, h3, h4⟩ := h.row (j * m + v) (by omega)
  have e : goB L F m j (c : Int) = x := by unfold goB; rw [Int.toNat_natCast, h1, Option.getD_some, Int.toNat_natCast, h3, Option.getD_some, Int.toNat_natCast]
  exact ⟨v, h1, h2, by rw [e]; exact h3, by rw [e]; exact h4⟩
theorem Led.run {L F : List Int} {m n : Nat} (h : Led L F m n) : ∀ {bs : List Int} {j : Nat}, j < n → (∀ x ∈ bs, 0 ≤ x ∧ x ≤ 255) → runB L F m j bs < n
  | [], j, hj, _ => hj
  | b :: bs, j, hj, hb => by
    have h0 := hb b (by simp)
    obtain ⟨c, rfl⟩ : ∃ c : Nat, b = (c : Int) := ⟨b.toNat, by omega⟩
    obtain ⟨_, _, _, _, h1⟩ := h.go hj (c := c) (by omega)
    show runB L F m (goB L F m j (c : Int)) bs < n
    exact h.run h1 (fun x hx => hb x (by simp [hx]))

set_option maxRecDepth 100000 in
set_option maxHeartbeats 8000000 in
theorem run11_yes (L F bs : List Int) (R n m j : Nat) (ab : Option Addr) (lb cb : Nat) (w : World) (hL : L.length = 256) (hR : IntRow R F w) (hF : F.length = m * n) (hn : j < n) (hm : m ≤ 1000) (hn2 : n ≤ 1000000) (hled : Led L F m n) (hbs : Bys w ab lb bs) (hlb : lb ≤ 1000000) :
    Calls Tryz.prog 14 #[.agg (dvC L m (.slice (some ⟨R, 0, none⟩) (m * n) (m * n))).toArray, .int .i64 (j : Int), .slice ab lb cb] w fun e w' => e = .returned (.tuple #[.int .i64 (runB L F m j bs : Int), .bool true]) ∧ Below w.heap.size w w' := by
  have HN := Lib.hid (fun V (hV : IntRow R F V) (z c : Nat) (hz : z < n) (hc : c < 256) => by
    obtain ⟨v, h1, h2, h3, _⟩ := hled.go hz hc
    exact next11_yes L F R n m v z c _ V hL hV hF hz hm hn2 h1 h2 h3)
  have hD := Dv.new w L m (.slice (some ⟨R, 0, none⟩) (m * n) (m * n)) hL
  have hB : Below w.heap.size w (w.alloc (.cells (dvC L m (.slice (some ⟨R, 0, none⟩) (m * n) (m * n))).toArray 28)) := below_alloc _ _
  obtain ⟨W, hW⟩ : ∃ W, W = w.alloc (.cells (dvC L m (.slice (some ⟨R, 0, none⟩) (m * n) (m * n))).toArray 28) := ⟨_, rfl⟩
  rw [← hW] at hD hB
  have hR2 : IntRow R F W := (hB.block R hR.lt).trans hR
  have hb2 := hbs.below hB
  have hBox := hD.box
  have hsz : (Tryz.prog.info? 28).map (·.size) = some (dvC L m (.slice (some ⟨R, 0, none⟩) (m * n) (m * n))).toArray.size := by rw [dvC_size hL]; exact info28
  obtain ⟨A, hA⟩ : ∃ A, (dvC L m (.slice (some ⟨R, 0, none⟩) (m * n) (m * n))).toArray = A := ⟨_, rfl⟩
  rw [hA] at hW hBox hsz HN ⊢
  have hlen := hbs.len
  have HBox := Lib.hid hBox
  have HSz := Lib.hid hsz
  have HR2 := Lib.hid hR2
  have HBS := Lib.hid hb2
  have HLed := Lib.hid hled
  have HB := Lib.hid hB
  have HLEN := Lib.hid hlen
  have hlt0 : w.heap.size < W.heap.size := hD.lt
  clear hA hD hBox hsz hR hR2 hF hbs hb2 hled hB hlen
  go_enter Tryz.func14, Tryz.ntmps14
  go_upto_region 1 with fail
  rw [← hW]
  clear hW
  go_wp2_with fail
  go_loopw [1, 14] (fun s1 s14 wr => ∃ (i z : Nat), i ≤ lb ∧ z < n ∧ s14 = .int .i64 i ∧ s1 = .int .i64 z ∧ Hid (runB L F m j (bs.take i) = z) ∧ Below W.heap.size W wr) (fun _ s _ => lb - (intOf s).toNat)
  case atStart => exact ⟨0, j, Nat.zero_le _, hn, rfl, rfl, rfl, Below.refl _ _⟩
  case round =>
    obtain ⟨i, z, hi, hz, rfl, rfl, HZ, hb⟩ := hrel
    have hbx : wr.heap[w.heap.size]? = some (.cells A 28 (0, 0)) := (hb.block _ hlt0).trans HBox.out
    have HBX := Lib.hid hbx
    have hRr : IntRow R F wr := (hb.block R HR2.out.lt).trans HR2.out
    have HRr := Lib.hid hRr
    have hbr := HBS.out.below hb
    have HBr := Lib.hid hb
    by_cases hil : i < lb
    · have hd : decide ((i : Int) < (lb : Int)) = true := by simp; omega
      obtain ⟨b0, o0, x, e0, hl0, cx, hx⟩ := sl1_at hbr.1 hil
      subst e0
      have hxr := hbr.2 x (List.mem_of_getElem? hx)
      obtain ⟨c, rfl⟩ : ∃ c : Nat, x = (c : Int) := ⟨x.toNat, by omega⟩
      have i1 : (0 : Int) ≤ (i : Int) := by omega
      have i2 : (i : Int) < (lb : Int) := by omega
      have hc : c < 256 := by omega
      have hz2 : goB L F m z (c : Int) < n := by obtain ⟨_, _, _, _, h⟩ := HLed.out.go hz hc; exact h
      have HZ2 : Hid (runB L F m j (bs.take (i + 1)) = goB L F m z (c : Int)) := by
        have e : bs.take (i + 1) = bs.take i ++ [(c : Int)] := by
          rw [List.take_add_one, hx]; rfl
        unfold Hid runB
        rw [e, List.foldl_append]
        have := HZ.out
        unfold runB at this
        rw [this]
        rfl
      clear hbr hx hRr hbx hb
      go_wp2_with (first
        | (refine wp_load_row 28 _ rfl w.heap.size rfl 28 _ (0, 0) _ HBX.out Tryz.underlying28 rfl HSz.out ?_)
        | (refine wpList_load_row rfl 28 _ rfl w.heap.size rfl 28 _ (0, 0) _ HBX.out Tryz.underlying28 rfl HSz.out ?_)
        | (go_at_call 12; refine (HN.out wr HRr.out z c hz hc).mono ?_; rintro e w4 ⟨rfl, hb4⟩))
      go_roundw
      case rel => exact ⟨i + 1, _, by omega, hz2, by go_num, rfl, HZ2, HBr.out.trans (hb4.mono HBr.out.size)⟩
      case measure => simp [intOf]; omega
    · obtain rfl : i = lb := by omega
      have hd : decide ((i : Int) < (i : Int)) = false := by simp
      have HF : Hid (runB L F m j bs = z) := by
        have := HZ.out
        rw [List.take_of_length_le (by rw [HLEN.out]; exact Nat.le_refl _)] at this
        exact this
      clear hbr hRr hbx hb
      go_wp2
      rw [← HF.out]
      go_ret2
      exact ⟨rfl, HB.out.trans (HBr.out.mono (Nat.le_of_lt hlt0))⟩
end Go.Proofs.YtjfhefffbkpgkaaGreat

/- Tables (layer 11): a set's table is made; walked. -/

namespace Go.Proofs.YtjfhefffbkpgkaaGreat
open Go.RowKit Go.Sort
set_option linter.unusedVariables false
set_option linter.unusedSimpArgs false

theorem zero28 : Tryz.zeroCells28 = (dvC (List.replicate 256 0) 0 (.slice none 0 0)).toArray := by kernel_rfl
theorem built28 : (Tryz.prog.built 28 ([] : List (Nat × Value))) = some (dvC (List.replicate 256 0) 0 (.slice none 0 0)).toArray := by kernel_rfl
theorem dvC_one (L : List Int) (m : Int) (row : Value) (hr : row.oneCell' = true) : (dvC L m row).toArray.all (·.oneCell') = true := by
  rw [Array.all_eq_true_iff_forall_mem]
  intro v hv
  have hv : v ∈ dvC L m row := by simpa using hv
  unfold dvC at hv
  rw [List.mem_append, List.mem_append] at hv
  rcases hv with (hv | hv) | hv
  · obtain ⟨x, _, rfl⟩ := List.mem_map.1 hv; rfl
  · rw [List.mem_singleton] at hv; rw [hv]; rfl
  · rw [List.mem_singleton] at hv; rw [hv]; exact hr

theorem results_dense2 {fn : Func} {p u : Tmp} {tmps : Array Value} {W : World} {B : Nat} {cs : Array Value} (h : fn.results = #[.cell p 28, .tmp u]) (hp : tmps.getD p undef = .pointer (some ⟨B, 0, none⟩)) (hB : W.heap[B]? = some (.cells cs 28 (0, 0))) (hs : (Tryz.prog.info? 28).map (·.size) = some cs.size) :
    (results fn tmps).run Tryz.prog W = .ok (.tuple #[.agg cs, tmps.getD u undef]) W := by
  have hp' : tmps[p]?.getD undef = .pointer (some ⟨B, 0, none⟩) := by simpa using hp
  simp [results, h, hp', asAddr, run_loadVar_row W B 28 28 cs (0, 0) _ hB Tryz.underlying28 rfl hs]

set_option maxRecDepth 100000 in
set_option maxHeartbeats 8000000 in
theorem make11_no (fold : Bool) (a : Option Addr) (la ca : Nat) (wss : List (List Int)) (w : World) (hA : Wds w a la wss) (hla : la ≤ 1000000) (hM : ∀ x ∈ wss, x.length ≤ 1000000) (hT : (begL fold wss).length ≤ 1000000) (hr : rightP fold wss = false) :
    Calls Tryz.prog 10 #[.agg (setV fold a la ca)] w fun e w' => e = .returned (.tuple #[.agg (dvC (List.replicate 256 0) 0 (.slice none 0 0)).toArray, .int .i64 2]) ∧ Below w.heap.size w w' := by
  obtain ⟨W, hW⟩ : ∃ W, W = (w.alloc (.cells (setV fold a la ca) 24)).alloc (.cells Tryz.zeroCells28 28) := ⟨_, rfl⟩
  have hB : Below w.heap.size w W := by rw [hW]; exact ((Below.refl _ _).alloc (Nat.le_refl _) _).alloc (by simp) _
  have hO : Bx w.heap.size [.cells (setV fold a la ca) 24, .cells Tryz.zeroCells28 28] W := by rw [hW]; exact ((Bx.nil _ w).snoc _ rfl).snoc _ (by simp)
  have s0 : W.cell? ⟨w.heap.size, 0, none⟩ = some (.bool fold) := hO.cell (i := 0) rfl rfl
  have s1 : W.cell? ⟨w.heap.size, 1, none⟩ = some (.slice a la ca) := hO.cell (i := 0) rfl rfl
  have HC := Lib.hid (make7_no fold a la ca wss W (hA.below hB) hla hM hT hr)
  have HO := Lib.hid hO
  obtain ⟨Z, hZ⟩ : ∃ Z, (dvC (List.replicate 256 0) 0 (.slice none 0 0)).toArray = Z := ⟨_, rfl⟩
  have hz : Tryz.zeroCells28 = Z := by rw [← hZ]; exact zero28
  have h1 : Z.all (·.oneCell') = true := by rw [← hZ]; exact dvC_one _ _ _ rfl
  have hs : Z.size = 258 := by rw [← hZ]; exact dvC_size (by simp) _ _
  have hsz : (Tryz.prog.info? 28).map (·.size) = some Z.size := by rw [hs]; exact info28
  rw [hZ]
  have HZz := Lib.hid hz
  have H1 := Lib.hid h1
  have HSZ := Lib.hid hsz
  clear hr hO hz h1 hsz hs hZ
  go_enter Tryz.func10, Tryz.ntmps10
  go_upto_region 1 with fail
  rw [← hW]
  clear hW
  go_upto_region 3 with (go_at_call 25; refine HC.out.mono ?_; rintro e w1 ⟨rfl, hb1⟩)
  obtain ⟨W2, hW2⟩ : ∃ W2, W2 = w1.alloc (.cells #[.slice none 0 0, .slice none 0 0, .slice none 0 0, .slice none 0 0] 51) := ⟨_, rfl⟩
  have hB2 : Below W.heap.size W W2 := by rw [hW2]; exact hb1.alloc hb1.size _
  rw [← hW2]
  clear hW2 hb1
  have hg : W2.heap[w.heap.size + 1]? = some (.cells Tryz.zeroCells28 28 (0, 0)) := (HO.out.below hB2) 1 _ rfl
  rw [HZz.out] at hg
  have HG := Lib.hid hg
  have h2 := setRow_heap W2 (w.heap.size + 1) Z Z _ _ hg
  have HBf : Hid (RowKit.Below w.heap.size w (W2.setRow (w.heap.size + 1) Z)) := below_setRow (hB.trans (hB2.mono hB.size)) (by omega) _
  have H2 := Lib.hid h2
  clear hg h2 hB hB2
  go_wp2_with (refine wpList_store_row rfl 28 _ _ rfl (w.heap.size + 1) Z rfl (congrArg Value.agg HZz.out) 28 Z HG.out HSZ.out rfl H1.out ?_)
  refine bodyPost_ret (results_dense2 rfl rfl H2.out HSZ.out) rfl ?_
  exact ⟨rfl, HBf.out⟩
end Go.Proofs.YtjfhefffbkpgkaaGreat

/- Tables (layer 11): a table in memory of its own, whether two are the same; walked. Printed by exp.py. -/



namespace Go.Proofs.YtjfhefffbkpgkaaGreat
open Go.RowKit Go.Sort
set_option linter.unusedVariables false
set_option linter.unusedSimpArgs false

/-- Values laid into a row, one behind the other. -/
theorem fill_row (B : List Value) : ∀ (vs A P : List Value) (k off : Nat), vs.length = A.length → P.length = off + k →
    (vs.zipIdx k).foldl (fun cs (x : Value × Nat) => cs.setIfInBounds (off + x.2) x.1) (P ++ A ++ B).toArray = (P ++ vs ++ B).toArray
  | [], [], P, k, off, _, _ => by simp
  | v :: vs, a :: A, P, k, off, hl, hP => by
    rw [List.zipIdx_cons, List.foldl_cons]
    have e2 : (P ++ (a :: A) ++ B).toArray.setIfInBounds (off + k) v = ((P ++ [v]) ++ A ++ B).toArray := by rw [← hP]; simp
    show List.foldl _ ((P ++ (a :: A) ++ B).toArray.setIfInBounds (off + k) v) _ = _
    rw [e2, fill_row B vs A (P ++ [v]) (k + 1) off (by simpa using hl) (by simp; omega)]
    simp
theorem fill_part (place : Nat → Option (Nat × Nat)) (P A B vs : List Value) (i : Nat) (v : Value) (rest : List (Nat × Value)) (hv : v.cells = vs.toArray) (hl : vs.length = A.length) (hp : place i = some (P.length, A.length)) :
    Instr.fill place (P ++ A ++ B).toArray ((i, v) :: rest) = Instr.fill place (P ++ vs ++ B).toArray rest := by
  have e := fill_row B vs A P 0 P.length hl rfl
  rw [Instr.fill]
  simp only [hp, hv]
  rw [if_neg (by simp [hl])]
  congr 1
  rw [← e]
  simp
theorem zero28' : (Tryz.prog.info? 28).map (fun i => i.zero.map Value.cells) = some (some (dvC (List.replicate 256 0) 0 (.slice none 0 0)).toArray) := by kernel_rfl
theorem places28 : (match Tryz.prog.underlying 28 with | some (.struct fields) => fields.toList.mapM (fun f => (Tryz.prog.info? f.type).map fun i => (f.offset, i.size)) | _ => none) = some [(0, 256), (256, 1), (257, 1)] := by kernel_rfl
theorem built28_any (L : List Int) (m : Int) (a : Option Addr) (n c : Nat) (hL : L.length = 256) :
    Tryz.prog.built 28 [(0, .agg (L.map (Value.int .i64)).toArray), (1, .int .i64 m), (2, .slice a n c)] = some (dvC L m (.slice a n c)).toArray := by
  obtain ⟨Z0, hZ0, hz⟩ : ∃ Z0 : List Int, Z0.length = 256 ∧ (Tryz.prog.info? 28).map (fun i => i.zero.map Value.cells) = some (some (dvC Z0 0 (.slice none 0 0)).toArray) := ⟨_, by rw [List.length_replicate], zero28'⟩
  have hp := places28
  unfold Program.built
  cases hi : Tryz.prog.info? 28 with
  | none => rw [hi] at hz; cases hz
  | some it =>
    rw [hi] at hz
    simp only [Option.map_some, Option.some.injEq] at hz
    cases hu : Tryz.prog.underlying 28 with
    | none => rw [hu] at hp; cases hp
    | some d =>
      rw [hu] at hp
      cases d <;> try (cases hp; done)
      rename_i fields
      simp only at hp ⊢
      cases hzz : it.zero with
      | none => rw [hzz] at hz; cases hz
      | some z =>
        rw [hzz] at hz
        simp only [Option.map_some, Option.some.injEq] at hz
        simp only [hp, hz]
        have e0 : (dvC Z0 0 (.slice none 0 0)).toArray = ([] ++ (Z0.map (Value.int .i64)) ++ [Value.int .i64 0, Value.slice none 0 0]).toArray := by simp [dvC]
        have e1 : [] ++ L.map (Value.int .i64) ++ [Value.int .i64 0, Value.slice none 0 0] = L.map (Value.int .i64) ++ [Value.int .i64 0] ++ [Value.slice none 0 0] := by simp
        have e2 : L.map (Value.int .i64) ++ [Value.int .i64 m] ++ [Value.slice none 0 0] = (L.map (Value.int .i64) ++ [Value.int .i64 m]) ++ [Value.slice none 0 0] ++ [] := by simp
        have p0 : ([(0, 256), (256, 1), (257, 1)] : List (Nat × Nat)).toArray[0]? = some (([] : List Value).length, (Z0.map (Value.int .i64)).length) := by rw [List.length_map, hZ0]; rfl
        have p1 : ([(0, 256), (256, 1), (257, 1)] : List (Nat × Nat)).toArray[1]? = some ((L.map (Value.int .i64)).length, ([Value.int .i64 0] : List Value).length) := by rw [List.length_map, hL]; rfl
        have p2 : ([(0, 256), (256, 1), (257, 1)] : List (Nat × Nat)).toArray[2]? = some ((L.map (Value.int .i64) ++ [Value.int .i64 m]).length, ([Value.slice none 0 0] : List Value).length) := by rw [List.length_append, List.length_map, hL]; rfl
        rw [e0, fill_part _ _ _ _ (L.map (Value.int .i64)) 0 _ _ rfl (by rw [List.length_map, List.length_map, hL, hZ0]) p0]
        rw [e1, fill_part _ _ [Value.int .i64 0] _ [Value.int .i64 m] 1 (Value.int .i64 m) _ rfl rfl p1]
        rw [e2, fill_part _ _ [Value.slice none 0 0] [] [Value.slice a n c] 2 (Value.slice a n c) _ rfl rfl p2]
        simp [Instr.fill, dvC]
theorem yieldsIf_build {P : Program} {ops : Array Oper} {S : World → Prop} {op : Oper} {a : Act} (hw : Region.wanted op (yielded ops a.tmps) = true) (t : TypeId) (parts : Array (Nat × Operand)) (ho : op.op = .build t parts) (V : Array Value)
    (hv : P.built t (parts.map fun (i, x) => (i, a.eval x)).toList = some V) : YieldsIf P ops S op (.agg V) a :=
  .inl ⟨hw, fun w _ => by
    unfold execOp
    simp only [ho, Sem.run_bind, run_build w t _ V hv, Result.andThen_ok]
    rfl⟩
theorem rangeAt_head {w : World} {b : Nat} {A B : List Value} {t : TypeId} {fr : Nat × Nat} (hb : w.heap[b]? = some (.cells (A ++ B).toArray t fr)) : w.rangeAt b 0 A := fun j v hv => by
  have hj : j < A.length := (List.getElem?_eq_some_iff.1 hv).1
  have e : (A ++ B)[j]? = some v := by rw [List.getElem?_append_left hj]; exact hv
  simp only [World.cell?, hb, Nat.zero_add]
  simpa using e
theorem slK_of_sl1b {w : World} {a : Option Addr} {n : Nat} {l : List Int} (h : Sl1 (Value.int .i64) w a n l) : SlK 1 w a n (l.map (Value.int .i64)) := by
  obtain ⟨h1, h2⟩ := h
  refine ⟨by rw [List.length_map]; omega, h2.imp id fun ⟨b, off, e, hlt, hc⟩ => ⟨b, off, e, hlt, fun i u hu => ?_⟩⟩
  rw [List.getElem?_map] at hu
  cases hl : l[i]? with
  | none => rw [hl] at hu; cases hu
  | some x => rw [hl] at hu; injection hu with hu; subst hu; exact hc i x hl
theorem sl1_setRow {α : Type} {enc : α → Value} {w : World} {a : Option Addr} {n : Nat} {xs : List α} (h : Sl1 enc w a n xs) (g : Nat) (cs : Array Value) (hne : ∀ x, a = some x → x.block ≠ g) : Sl1 enc (w.setRow g cs) a n xs := by
  refine ⟨h.1, h.2.imp id ?_⟩
  rintro ⟨b, off, e, hlt, hc⟩
  exact ⟨b, off, e, by simpa using hlt, fun i x hx => (cell_setRow_other w g cs ⟨b, off + i, none⟩ (show (⟨b, off + i, none⟩ : Addr).block ≠ g from hne ⟨b, off, none⟩ e)).trans (hc i x hx)⟩
theorem dvC_eq (L : List Int) (m : Int) (row : Value) : dvC L m row = L.map (Value.int .i64) ++ [.int .i64 m, row] := by simp [dvC]
theorem Dv.range {W : World} {B : Nat} {L : List Int} {m : Int} {row : Value} (h : Dv W B L m row) : W.rangeAt B 0 (L.map (Value.int .i64)) := by
  have hb := h.box
  rw [dvC_eq] at hb
  exact rangeAt_head hb
theorem results_dense1 {fn : Func} {p : Tmp} {tmps : Array Value} {W : World} {B : Nat} {cs : Array Value} (h : fn.results = #[.cell p 28]) (hp : tmps.getD p undef = .pointer (some ⟨B, 0, none⟩)) (hB : W.heap[B]? = some (.cells cs 28 (0, 0))) (hs : (Tryz.prog.info? 28).map (·.size) = some cs.size) :
    (results fn tmps).run Tryz.prog W = .ok (.agg cs) W := by
  have hp' : tmps[p]?.getD undef = .pointer (some ⟨B, 0, none⟩) := by simpa using hp
  simp [results, h, hp', asAddr, run_loadVar_row W B 28 28 cs (0, 0) _ hB Tryz.underlying28 rfl hs]

set_option maxRecDepth 100000 in
set_option maxHeartbeats 8000000 in
theorem own11_any (L F : List Int) (m : Int) (a : Option Addr) (n c0 : Nat) (w : World) (hL : L.length = 256) (hF : Sl1 (Value.int .i64) w a n F) (hn : n ≤ 1000000000) :
    Calls Tryz.prog 20 #[.agg (dvC L m (.slice a n c0)).toArray] w fun e w' => ∃ a' c', e = .returned (.agg (dvC L m (.slice a' n c')).toArray) ∧ Sl1 (Value.int .i64) w' a' n F ∧ Below w.heap.size w w' := by
  obtain ⟨W, hW⟩ : ∃ W, W = (w.alloc (.cells (dvC L m (.slice a n c0)).toArray 28)).alloc (.cells Tryz.zeroCells28 28) := ⟨_, rfl⟩
  have hB : Below w.heap.size w W := by rw [hW]; exact ((Below.refl _ _).alloc (Nat.le_refl _) _).alloc (by simp) _
  have hO : Bx w.heap.size [.cells (dvC L m (.slice a n c0)).toArray 28, .cells Tryz.zeroCells28 28] W := by rw [hW]; exact ((Bx.nil _ w).snoc _ rfl).snoc _ (by simp)
  have hD : Dv W w.heap.size L m (.slice a n c0) := ⟨hO 0 _ rfl, hL⟩
  have HD := Lib.hid hD
  have HZ : Hid (W.heap[w.heap.size + 1]? = some (.cells Tryz.zeroCells28 28 (0, 0))) := hO 1 _ rfl
  have HF := Lib.hid (hF.below hB)
  have HI : Hid ((Tryz.prog.info? 25).map (·.size) = some ((L.map (Value.int .i64)).length)) := by rw [Hid, List.length_map, hL]; exact info25
  have HL := Lib.hid hL
  obtain ⟨i0, hi, hz0, hzz1, hzz2⟩ := info_parts i64_info7
  have hlt : w.heap.size + 1 < W.heap.size := (Array.getElem?_eq_some_iff.1 HZ.out).1
  have HB := Lib.hid hB
  obtain ⟨A, hA⟩ : ∃ A, (dvC L m (.slice a n c0)).toArray = A := ⟨_, rfl⟩
  rw [hA] at hW ⊢
  clear hA hD hO hF hB hL
  go_enter Tryz.func20, Tryz.ntmps20
  go_upto_region 1 with fail
  rw [← hW]
  clear hW
  refine wp_region_noPanic ?_
  have HK : Hid (∀ V, RowKit.Below (w.heap.size + 1) W V → Dv V w.heap.size L m (.slice a n c0)) := fun V hV => ⟨(hV.block _ (by omega)).trans HD.out.box, HL.out⟩
  refine wp_region_held_drew (S := RowKit.Below (w.heap.size + 1) W) (by kernel_rfl) ((bel_drewN W 1).mono (Nat.le_of_lt hlt)) (fun hHeld => ?_)
  refine wpAnyH_take (i := 0) (v := ?_) (by simp only [List.getElem?_toArray, List.getElem?_cons_zero, List.getElem?_cons_succ]; rfl) (by as_aux_lemma => kernel_rfl) (by as_aux_lemma => kernel_rfl) (by as_aux_lemma => kernel_rfl) (fun _ _ _ h => h) (Or.inl ⟨by rfl, ?_⟩) (by assumption) ?_
  rotate_left
  · intro V hV
    first | (go_simp; done) | (go_simp; with_reducible rfl)
  try simp only [Act.put, List.setIfInBounds_toArray, List.set_cons_zero, List.set_cons_succ]
  refine' wpAnyH_take (i := 1) (v := _) (by simp only [List.getElem?_toArray, List.getElem?_cons_zero, List.getElem?_cons_succ]; rfl) (by kernel_rfl) (by kernel_rfl) (by kernel_rfl) (fun _ _ _ h => h) (yieldsIf_load_mid (by rfl) _ _ rfl w.heap.size 0 rfl (L.map (Value.int .i64)) _ (fun V hV => (HK.out V hV).range) Tryz.underlying25 rfl HI.out) (by assumption) ?_
  try simp only [Act.put, List.setIfInBounds_toArray, List.set_cons_zero, List.set_cons_succ]
  refine wpAnyH_take (i := 2) (v := ?_) (by simp only [List.getElem?_toArray, List.getElem?_cons_zero, List.getElem?_cons_succ]; rfl) (by as_aux_lemma => kernel_rfl) (by as_aux_lemma => kernel_rfl) (by as_aux_lemma => kernel_rfl) (fun _ _ _ h => h) (Or.inl ⟨by rfl, ?_⟩) (by assumption) ?_
  rotate_left
  · intro V hV
    first | (go_simp; done) | (go_simp; with_reducible rfl)
  try simp only [Act.put, List.setIfInBounds_toArray, List.set_cons_zero, List.set_cons_succ]
  refine wpAnyH_take (i := 3) (v := ?_) (by simp only [List.getElem?_toArray, List.getElem?_cons_zero, List.getElem?_cons_succ]; rfl) (by as_aux_lemma => kernel_rfl) (by as_aux_lemma => kernel_rfl) (by as_aux_lemma => kernel_rfl) (fun _ _ _ h => h) (Or.inl ⟨by rfl, ?_⟩) (by assumption) ?_
  rotate_left
  · intro V hV
    have r0 := (HK.out V hV).cells.1
    first | (go_simp; done) | (go_simp; with_reducible rfl)
  try simp only [Act.put, List.setIfInBounds_toArray, List.set_cons_zero, List.set_cons_succ]
  refine wpAnyH_take (i := 4) (v := ?_) (by simp only [List.getElem?_toArray, List.getElem?_cons_zero, List.getElem?_cons_succ]; rfl) (by as_aux_lemma => kernel_rfl) (by as_aux_lemma => kernel_rfl) (by as_aux_lemma => kernel_rfl) (fun _ _ _ h => h) (Or.inl ⟨by rfl, ?_⟩) (by assumption) ?_
  rotate_left
  · intro V hV
    first | (go_simp; done) | (go_simp; with_reducible rfl)
  try simp only [Act.put, List.setIfInBounds_toArray, List.set_cons_zero, List.set_cons_succ]
  refine wpAnyH_take (i := 5) (v := ?_) (by simp only [List.getElem?_toArray, List.getElem?_cons_zero, List.getElem?_cons_succ]; rfl) (by as_aux_lemma => kernel_rfl) (by as_aux_lemma => kernel_rfl) (by as_aux_lemma => kernel_rfl) (fun _ _ _ h => h) (Or.inl ⟨by rfl, ?_⟩) (by assumption) ?_
  rotate_left
  · intro V hV
    have r0 := (HK.out V hV).cells.2
    first | (go_simp; done) | (go_simp; with_reducible rfl)
  try simp only [Act.put, List.setIfInBounds_toArray, List.set_cons_zero, List.set_cons_succ]
  refine wpAnyH_ready (rs := [6]) (by as_aux_lemma => kernel_rfl) (by simp) ?_
  refine AllReadyH.cons (by simp only [List.getElem?_toArray, List.getElem?_cons_zero, List.getElem?_cons_succ]; rfl) (fun K hK => ?_) AllReadyH.nil
  refine wanted_one (by kernel_rfl) ?_
  refine oper_append_slK _ _ _ 26 rfl W.heap.size 3 i0 (.int .i64 0) 1 8 Tryz.underlying26 hi hz0 hzz1 hzz2 rfl (by decide) (.slice none 0 0) 0 [] rfl (World.ownsRow_nil _ _ _ _) a n c0 _ rfl (slK_of_sl1b (HF.out.below (bel_drewN W 1))) (fun y hy => by obtain ⟨x, _, rfl⟩ := List.mem_map.1 hy; rfl) (by unfold maxLen; omega) (by omega) (bel_drewN W 1).size ?_
  intro v' w9 hown' hgrow hat
  have hB9 : RowKit.Below W.heap.size W w9 := (bel_drewN W 1).grown hgrow (bel_drewN W 1).size (fun k e => by cases e)
  rw [Nat.zero_add, List.nil_append] at hown'
  obtain ⟨a9, c9, rfl, _, h9⟩ := own_sl1 (enc := Value.int .i64) hown'
  have HO9 : Hid (∀ x, a9 = some x → W.heap.size ≤ x.block) := fun x e => (row_lt hown' x.block (by rw [e]; rfl)).1
  have H9 := Lib.hid h9
  have HB9 := Lib.hid hB9
  have HG9 : Hid (w9.heap[w.heap.size + 1]? = some (.cells Tryz.zeroCells28 28 (0, 0))) := (hB9.block _ hlt).trans HZ.out
  refine hK.out _ _ (hB9.mono (Nat.le_of_lt hlt)) (fun hNew => ?_)
  clear hK K hHeld hown' hgrow hat h9 hB9
  have hHeld := hNew
  clear hNew
  try simp only [Act.put, List.setIfInBounds_toArray, List.set_cons_zero, List.set_cons_succ]
  obtain ⟨Z, hZ⟩ : ∃ Z, (dvC L m (.slice a9 n c9)).toArray = Z := ⟨_, rfl⟩
  have hs : Z.size = 258 := by rw [← hZ]; exact dvC_size HL.out _ _
  have HZ1 : Hid (Z.all (·.oneCell') = true) := by rw [Hid, ← hZ]; exact dvC_one _ _ _ rfl
  have HZi : Hid ((Tryz.prog.info? 28).map (·.size) = some Z.size) := by rw [Hid, hs]; exact info28
  have HZo : Hid (Tryz.zeroCells28.size = Z.size) := by rw [Hid, hs, zero28]; exact dvC_size (by simp) _ _
  have HBU : Hid (Tryz.prog.built 28 [(0, .agg (L.map (Value.int .i64)).toArray), (1, .int .i64 m), (2, .slice a9 n c9)] = some Z) := by rw [Hid, ← hZ]; exact built28_any L m a9 n c9 HL.out
  have HZe := Lib.hid hZ
  clear hs hZ
  refine' wpAnyH_take (i := 7) (v := _) (by simp only [List.getElem?_toArray, List.getElem?_cons_zero, List.getElem?_cons_succ]; rfl) (by kernel_rfl) (by kernel_rfl) (by kernel_rfl) (fun _ _ _ h => h) (yieldsIf_build (by rfl) _ _ rfl Z (by go_simp; exact HBU.out)) (by assumption) ?_
  try simp only [Act.put, List.setIfInBounds_toArray, List.set_cons_zero, List.set_cons_succ]
  refine wpAnyH_ready (rs := [8]) (by as_aux_lemma => kernel_rfl) (by simp) ?_
  refine AllReadyH.cons (by simp only [List.getElem?_toArray, List.getElem?_cons_zero, List.getElem?_cons_succ]; rfl) (fun K hK => ?_) AllReadyH.nil
  refine wanted_one (by kernel_rfl) ?_
  refine wp_store_row 28 _ _ rfl (w.heap.size + 1) Z rfl rfl 28 _ HG9.out HZi.out HZo.out HZ1.out ?_
  have H2 := Lib.hid (setRow_heap w9 (w.heap.size + 1) _ Z _ _ HG9.out)
  have HBS : Hid (RowKit.Below (w.heap.size + 1) W (w9.setRow (w.heap.size + 1) Z)) := below_setRow (HB9.out.mono (Nat.le_of_lt hlt)) (Nat.le_refl _) _
  refine hK.out _ _ HBS.out (fun hNew => ?_)
  clear hK K hHeld hNew
  try simp only [Act.put, List.setIfInBounds_toArray, List.set_cons_zero, List.set_cons_succ]
  refine wpAnyH_done (by kernel_rfl) ?_ _
  refine NoPanic.normal ?_
  go_wp2_with fail
  refine bodyPost_ret (results_dense1 rfl rfl H2.out HZi.out) rfl ?_
  exact ⟨a9, c9, by rw [HZe.out], sl1_setRow H9.out _ _ (fun x e => by have := HO9.out x e; omega), below_setRow (HB.out.trans (HB9.out.mono HB.out.size)) (by omega) _⟩

set_option maxRecDepth 100000 in
set_option maxHeartbeats 8000000 in
theorem same11_any (L1 L2 F1 F2 : List Int) (m1 m2 : Int) (a1 a2 : Option Addr) (n1 c1 n2 c2 : Nat) (w : World) (hL1 : L1.length = 256) (hL2 : L2.length = 256) (hF1 : Sl1 (Value.int .i64) w a1 n1 F1) (hF2 : Sl1 (Value.int .i64) w a2 n2 F2) (hn : n1 ≤ 1000000000) :
    Calls Tryz.prog 19 #[.agg (dvC L1 m1 (.slice a1 n1 c1)).toArray, .agg (dvC L2 m2 (.slice a2 n2 c2)).toArray] w fun e w' => e = .returned (.bool (decide (L1 = L2) && decide (m1 = m2) && decide (F1 = F2))) ∧ Below w.heap.size w w' := by
  obtain ⟨W, hW⟩ : ∃ W, W = (w.alloc (.cells (dvC L1 m1 (.slice a1 n1 c1)).toArray 28)).alloc (.cells (dvC L2 m2 (.slice a2 n2 c2)).toArray 28) := ⟨_, rfl⟩
  have hB : Below w.heap.size w W := by rw [hW]; exact ((Below.refl _ _).alloc (Nat.le_refl _) _).alloc (by simp) _
  have hO : Bx w.heap.size [.cells (dvC L1 m1 (.slice a1 n1 c1)).toArray 28, .cells (dvC L2 m2 (.slice a2 n2 c2)).toArray 28] W := by rw [hW]; exact ((Bx.nil _ w).snoc _ rfl).snoc _ (by simp)
  have hD1 : Dv W w.heap.size L1 m1 (.slice a1 n1 c1) := ⟨hO 0 _ rfl, hL1⟩
  have hD2 : Dv W (w.heap.size + 1) L2 m2 (.slice a2 n2 c2) := ⟨hO 1 _ rfl, hL2⟩
  have HR1 := Lib.hid hD1.range
  have HR2 := Lib.hid hD2.range
  obtain ⟨s0, s1⟩ := hD1.cells
  obtain ⟨t0, t1⟩ := hD2.cells
  have HI1 : Hid ((Tryz.prog.info? 25).map (·.size) = some ((L1.map (Value.int .i64)).length)) := by rw [Hid, List.length_map, hL1]; exact info25
  have HI2 : Hid ((Tryz.prog.info? 25).map (·.size) = some ((L2.map (Value.int .i64)).length)) := by rw [Hid, List.length_map, hL2]; exact info25
  have hq := fun V => run_eq25 L1 L2 hL1 hL2 V
  have HE := Lib.hid (eqI_any a1 a2 n1 c1 n2 c2 F1 F2 W (hF1.below hB) (hF2.below hB) (by omega))
  obtain ⟨A1, hA1⟩ : ∃ A, (dvC L1 m1 (.slice a1 n1 c1)).toArray = A := ⟨_, rfl⟩
  obtain ⟨A2, hA2⟩ : ∃ A, (dvC L2 m2 (.slice a2 n2 c2)).toArray = A := ⟨_, rfl⟩
  obtain ⟨C1, hC1⟩ : ∃ C, L1.map (Value.int .i64) = C := ⟨_, rfl⟩
  obtain ⟨C2, hC2⟩ : ∃ C, L2.map (Value.int .i64) = C := ⟨_, rfl⟩
  rw [hA1, hA2] at hW ⊢
  rw [hC1] at HR1 HI1 hq
  rw [hC2] at HR2 HI2 hq
  obtain ⟨b1, hb1⟩ : ∃ b, decide (L1 = L2) = b := ⟨_, rfl⟩
  rw [hb1] at hq ⊢
  clear hA1 hA2 hC1 hC2 hD1 hD2 hO hF1 hF2 hL1 hL2 hb1 hn
  cases b1 with
  | false =>
    rw [Bool.false_and, Bool.false_and]
    go_enter Tryz.func19, Tryz.ntmps19
    go_upto_region 1 with fail
    rw [← hW]
    clear hW
    go_wp2_with (first
      | (refine wpList_load_mid rfl 25 _ rfl w.heap.size 0 rfl C1 _ HR1.out Tryz.underlying25 rfl HI1.out ?_)
      | (refine wpList_load_mid rfl 25 _ rfl (w.heap.size + 1) 0 rfl C2 _ HR2.out Tryz.underlying25 rfl HI2.out ?_))
    go_ret
    exact ⟨rfl, hB⟩
  | true =>
    rw [Bool.true_and]
    by_cases hm : m1 = m2
    · subst hm
      have dm : (m1 == m1) = true := by simp
      rw [show decide (m1 = m1) = true by simp, Bool.true_and]
      go_enter Tryz.func19, Tryz.ntmps19
      go_upto_region 1 with fail
      rw [← hW]
      clear hW
      go_wp2_with (first
        | (refine wpList_load_mid rfl 25 _ rfl w.heap.size 0 rfl C1 _ HR1.out Tryz.underlying25 rfl HI1.out ?_)
        | (refine wpList_load_mid rfl 25 _ rfl (w.heap.size + 1) 0 rfl C2 _ HR2.out Tryz.underlying25 rfl HI2.out ?_)
        | (go_at_call 34; refine HE.out.mono ?_; rintro e w1 ⟨rfl, hb1⟩))
      go_ret
      exact ⟨rfl, hB.trans (hb1.mono hB.size)⟩
    · have dm : (m1 == m2) = false := by simpa using hm
      rw [show decide (m1 = m2) = false by simpa using hm, Bool.false_and]
      clear hm
      go_enter Tryz.func19, Tryz.ntmps19
      go_upto_region 1 with fail
      rw [← hW]
      clear hW
      go_wp2_with (first
        | (refine wpList_load_mid rfl 25 _ rfl w.heap.size 0 rfl C1 _ HR1.out Tryz.underlying25 rfl HI1.out ?_)
        | (refine wpList_load_mid rfl 25 _ rfl (w.heap.size + 1) 0 rfl C2 _ HR2.out Tryz.underlying25 rfl HI2.out ?_))
      go_ret
      exact ⟨rfl, hB⟩
end Go.Proofs.YtjfhefffbkpgkaaGreat

/- Tables (layer 11): where any table leads by bytes; walked. -/

namespace Go.Proofs.YtjfhefffbkpgkaaGreat
open Go.RowKit Go.Sort
set_option linter.unusedVariables false
set_option linter.unusedSimpArgs false

/-- Where a table leads by bytes, one behind the other. -/
def runD (L : List Int) (m : Int) (F : List Int) : Int → List Int → Option Int
  | z, [] => some z
  | z, c :: bs => (goD L m F z c.toNat).bind fun x => runD L m F x bs
theorem runD_append (L : List Int) (m : Int) (F : List Int) : ∀ (bs cs : List Int) (z : Int), runD L m F z (bs ++ cs) = (runD L m F z bs).bind fun x => runD L m F x cs
  | [], cs, z => rfl
  | c :: bs, cs, z => by
    show ((goD L m F z c.toNat).bind fun x => runD L m F x (bs ++ cs)) = ((goD L m F z c.toNat).bind fun x => runD L m F x bs).bind _
    rw [Option.bind_assoc]
    congr 1
    funext x
    exact runD_append L m F bs cs x

set_option maxRecDepth 100000 in
set_option maxHeartbeats 8000000 in
theorem run11_any (L F bs : List Int) (m : Int) (a : Option Addr) (n c0 : Nat) (node : Int) (ab : Option Addr) (lb cb : Nat) (w : World) (hL : L.length = 256) (hF : Sl1 (Value.int .i64) w a n F) (hn : n ≤ 1000000000) (hbs : Bys w ab lb bs) (hlb : lb ≤ 1000000) :
    Calls Tryz.prog 14 #[.agg (dvC L m (.slice a n c0)).toArray, .int .i64 node, .slice ab lb cb] w fun e w' => e = .returned (goDV (runD L m F node bs)) ∧ Below w.heap.size w w' := by
  have HN := Lib.hid (fun V (hV : Sl1 (Value.int .i64) V a n F) (z : Int) (c : Nat) (hc : c < 256) => next11_any L F m a n c0 z c V hL hV hn hc)
  have hD := Dv.new w L m (.slice a n c0) hL
  have hB : Below w.heap.size w (w.alloc (.cells (dvC L m (.slice a n c0)).toArray 28)) := below_alloc _ _
  obtain ⟨W, hW⟩ : ∃ W, W = w.alloc (.cells (dvC L m (.slice a n c0)).toArray 28) := ⟨_, rfl⟩
  rw [← hW] at hD hB
  have hF2 := hF.below hB
  have hb2 := hbs.below hB
  have hBox := hD.box
  have hsz : (Tryz.prog.info? 28).map (·.size) = some (dvC L m (.slice a n c0)).toArray.size := by rw [dvC_size hL]; exact info28
  obtain ⟨A, hA⟩ : ∃ A, (dvC L m (.slice a n c0)).toArray = A := ⟨_, rfl⟩
  rw [hA] at hW hBox hsz HN ⊢
  have hlen := hbs.len
  have HBox := Lib.hid hBox
  have HSz := Lib.hid hsz
  have HF2 := Lib.hid hF2
  have HBS := Lib.hid hb2
  have HB := Lib.hid hB
  have HLEN := Lib.hid hlen
  have hlt0 : w.heap.size < W.heap.size := hD.lt
  clear hA hD hBox hsz hF hF2 hbs hb2 hB hlen hL
  go_enter Tryz.func14, Tryz.ntmps14
  go_upto_region 1 with fail
  rw [← hW]
  clear hW
  go_wp2_with fail
  go_loopw [1, 14] (fun s1 s14 wr => ∃ (i : Nat) (z : Int), i ≤ lb ∧ s14 = .int .i64 i ∧ s1 = .int .i64 z ∧ Hid (runD L m F node bs = runD L m F z (bs.drop i)) ∧ Below W.heap.size W wr) (fun _ s _ => lb - (intOf s).toNat)
  case atStart => exact ⟨0, node, Nat.zero_le _, rfl, rfl, rfl, Below.refl _ _⟩
  case round =>
    obtain ⟨i, z, hi, rfl, rfl, HZ, hb⟩ := hrel
    have hbx : wr.heap[w.heap.size]? = some (.cells A 28 (0, 0)) := (hb.block _ hlt0).trans HBox.out
    have HBX := Lib.hid hbx
    have hbr := HBS.out.below hb
    have HBr := Lib.hid hb
    by_cases hil : i < lb
    · have hd : decide ((i : Int) < (lb : Int)) = true := by simp; omega
      obtain ⟨b0, o0, x, e0, hl0, cx, hx⟩ := sl1_at hbr.1 hil
      subst e0
      have hxr := hbr.2 x (List.mem_of_getElem? hx)
      obtain ⟨c, rfl⟩ : ∃ c : Nat, x = (c : Int) := ⟨x.toNat, by omega⟩
      have i1 : (0 : Int) ≤ (i : Int) := by omega
      have i2 : (i : Int) < (lb : Int) := by omega
      have hc : c < 256 := by omega
      have hstep : runD L m F z (bs.drop i) = (goD L m F z c).bind fun y => runD L m F y (bs.drop (i + 1)) := by
        have e : bs.drop i = (c : Int) :: bs.drop (i + 1) := by
          obtain ⟨hlt, he⟩ := List.getElem?_eq_some_iff.1 hx
          rw [List.drop_eq_getElem_cons hlt, he]
        rw [e]
        show ((goD L m F z ((c : Int).toNat)).bind _) = _
        rw [Int.toNat_natCast]
      rw [hstep] at HZ
      have HC := Lib.hid (HN.out wr (HF2.out.below hb) z c hc)
      clear hbr hx hbx hb hstep
      cases hg : goD L m F z c with
      | some y =>
        rw [hg] at HZ HC
        clear hg
        have HZ2 : Hid (runD L m F node bs = runD L m F y (bs.drop (i + 1))) := HZ
        go_wp2_with (first
          | (refine wp_load_row 28 _ rfl w.heap.size rfl 28 _ (0, 0) _ HBX.out Tryz.underlying28 rfl HSz.out ?_)
          | (refine wpList_load_row rfl 28 _ rfl w.heap.size rfl 28 _ (0, 0) _ HBX.out Tryz.underlying28 rfl HSz.out ?_)
          | (go_at_call 12; refine HC.out.mono ?_; rintro e w4 ⟨rfl, hb4⟩; simp only [goDV]))
        go_roundw
        case rel => exact ⟨i + 1, y, by omega, by go_num, rfl, HZ2, HBr.out.trans (hb4.mono HBr.out.size)⟩
        case measure => simp [intOf]; omega
      | none =>
        rw [hg] at HZ HC
        clear hg
        have HZ2 : Hid (runD L m F node bs = none) := HZ
        go_wp2_with (first
          | (refine wp_load_row 28 _ rfl w.heap.size rfl 28 _ (0, 0) _ HBX.out Tryz.underlying28 rfl HSz.out ?_)
          | (refine wpList_load_row rfl 28 _ rfl w.heap.size rfl 28 _ (0, 0) _ HBX.out Tryz.underlying28 rfl HSz.out ?_)
          | (go_at_call 12; refine HC.out.mono ?_; rintro e w4 ⟨rfl, hb4⟩; simp only [goDV]))
        go_ret2
        exact ⟨by rw [HZ2.out]; rfl, HB.out.trans ((HBr.out.trans (hb4.mono HBr.out.size)).mono (Nat.le_of_lt hlt0))⟩
    · obtain rfl : i = lb := by omega
      have hd : decide ((i : Int) < (i : Int)) = false := by simp
      have HF : Hid (runD L m F node bs = some z) := by
        have := HZ.out
        rw [List.drop_of_length_le (by rw [HLEN.out]; exact Nat.le_refl _)] at this
        exact this
      clear hbr hbx hb
      go_wp2
      go_ret2
      exact ⟨by rw [HF.out]; rfl, HB.out.trans (HBr.out.mono (Nat.le_of_lt hlt0))⟩
end Go.Proofs.YtjfhefffbkpgkaaGreat

/- Tables (layer 11): a set's table is made; walked. -/



namespace Go.Proofs.YtjfhefffbkpgkaaGreat
open Go.RowKit Go.Sort
set_option linter.unusedVariables false
set_option linter.unusedSimpArgs false

set_option maxRecDepth 100000 in
theorem built59 (t : TV) (la : Option Addr) (ln lc : Nat) : (Tryz.prog.built 59 [(1, Value.agg #[.slice t.ua t.un t.uc, .slice t.da t.dn t.dc, .slice t.xa t.xn t.xc, .slice t.ba t.bn t.bc]), (2, .slice la ln lc)]) = some (makC (List.replicate 256 0) 0 (.slice none 0 0) t (.slice la ln lc)).toArray := by kernel_rfl

theorem wpList_build_to {P : Program} {ops : Array Oper} {rest : List Oper} {o : Oper} {a : Act} {w : World} {Q : Exit → Act → World → Prop} (hg : o.guard = none) (t : TypeId) (parts : Array (Nat × Operand)) (ho : o.op = .build t parts) (V : Array Value)
    (hv : P.built t (parts.map fun (i, x) => (i, a.eval x)).toList = some V) (h : wpList P ops Q rest (a.put o.dst (.agg V)) w) : wpList P ops Q (o :: rest) a w :=
  wpList_build hg t parts ho (by rw [hv]; rfl) (by rw [hv]; exact h)

/-- A row of cells stored into the head of a block. -/
theorem setRow_self (w : World) (g : Nat) (cs : Array Value) (t : TypeId) (fr : Nat × Nat) (hg : w.heap[g]? = some (.cells cs t fr)) : w.setRow g cs = w := by
  have e : (w.setRow g cs).heap = w.heap := by
    apply Array.ext_getElem?
    intro i
    by_cases hi : i = g
    · rw [hi, setRow_heap w g _ cs t fr hg, hg]
    · exact setRow_other w g i cs hi
  have e2 : w.setRow g cs = { w with heap := (w.setRow g cs).heap } := rfl
  rw [e2, e]
theorem setCells_row (b : Nat) (t : TypeId) (fr : Nat × Nat) (B : List Value) : ∀ (vs A P : List Value) (w : World), vs.length = A.length → w.heap[b]? = some (.cells (P ++ A ++ B).toArray t fr) → w.setCells b P.length vs = w.setRow b (P ++ vs ++ B).toArray
  | [], [], P, w, _, hg => by simpa [World.setCells] using (setRow_self w b _ t fr hg).symm
  | v :: vs, a :: A, P, w, hl, hg => by
    have e := setCell_eq_setRow w b P.length _ t fr v hg
    have e2 : (P ++ (a :: A) ++ B).toArray.setIfInBounds P.length v = ((P ++ [v]) ++ A ++ B).toArray := by simp
    rw [e2] at e
    have hg2 := setRow_heap w b _ ((P ++ [v]) ++ A ++ B).toArray t fr hg
    have ih := setCells_row b t fr B vs A (P ++ [v]) (w.setRow b ((P ++ [v]) ++ A ++ B).toArray) (by simpa using hl) hg2
    rw [World.setCells, e]
    rw [show P.length + 1 = (P ++ [v]).length by simp, ih, setRow_setRow]
    simp
theorem wpList_store_head {P : Program} {ops : Array Oper} {rest : List Oper} {op : Oper} {a : Act} {w : World} {Q : Exit → Act → World → Prop} (hgd : op.guard = none) (ty : TypeId) (x y : Operand) (ho : op.op = .store ty x y)
    (b : Nat) (vs A B : List Value) (hx : a.eval x = .pointer (some ⟨b, 0, none⟩)) (hy : a.eval y = .agg vs.toArray) (t : TypeId) (hb : w.heap[b]? = some (.cells (A ++ B).toArray t (0, 0))) (hl : vs.length = A.length)
    (hi : (P.info? ty).map (·.size) = some vs.toArray.size) (h1 : vs.toArray.all (·.oneCell') = true)
    (h : wpList P ops Q rest (a.put op.dst undef) (w.setRow b (vs ++ B).toArray)) : wpList P ops Q (op :: rest) a w := by
  refine wpList_store_mid hgd ty x y ho b 0 vs.toArray hx hy (fun j hj => ?_) hi h1 ?_
  · have hj : j < A.length := by rw [← hl]; simpa using hj
    refine ⟨?_, ?_⟩
    · simp [World.cell?, hb, List.getElem?_append_left hj, hj]
    · simp [World.frozen?, hb]
  · have e := setCells_row b t (0, 0) B vs A [] w hl hb
    simp only [List.nil_append, List.length_nil] at e
    rw [show vs.toArray.toList = vs by simp, e]
    exact h
theorem makC_eq (L : List Int) (m : Int) (row : Value) (t : TV) (lk : Value) : makC L m row t lk = L.map (Value.int .i64) ++ [.int .i64 m, row, .slice t.ua t.un t.uc, .slice t.da t.dn t.dc, .slice t.xa t.xn t.xc, .slice t.ba t.bn t.bc, lk] := by simp [makC]
theorem makC_dv (L : List Int) (m : Int) (row : Value) (t : TV) (lk : Value) : makC L m row t lk = dvC L m row ++ [.slice t.ua t.un t.uc, .slice t.da t.dn t.dc, .slice t.xa t.xn t.xc, .slice t.ba t.bn t.bc, lk] := by simp [makC, dvC]
theorem makC_one (L : List Int) (m : Int) (row : Value) (t : TV) (lk : Value) (hr : row.oneCell' = true) (hk : lk.oneCell' = true) : (makC L m row t lk).toArray.all (·.oneCell') = true := by
  rw [makC_dv]
  have := dvC_one L m row hr
  rw [Array.all_eq_true_iff_forall_mem] at this ⊢
  intro v hv
  rw [List.mem_toArray, List.mem_append] at hv
  rcases hv with h | h
  · exact this v (by rw [List.mem_toArray]; exact h)
  · simp at h; rcases h with rfl | rfl | rfl | rfl | rfl <;> first | rfl | exact hk
theorem makC_size {L : List Int} (hL : L.length = 256) (m : Int) (row : Value) (t : TV) (lk : Value) : (makC L m row t lk).toArray.size = 263 := by simp [makC, hL]
theorem Mk.frozen {W : World} {M : Nat} {L : List Int} {m : Int} {row lk : Value} {t : TV} (h : Mk W M L m row t lk) (i : Nat) : W.frozen? ⟨M, i, none⟩ = false := by simp [World.frozen?, h.box]
theorem Mk.setMany {W : World} {M : Nat} {L : List Int} {m : Int} {row lk : Value} {t : TV} (h : Mk W M L m row t lk) (v : Int) : Mk (W.setCell ⟨M, 256, none⟩ (.int .i64 v)) M L v row t lk := by
  refine ⟨?_, h.len⟩
  rw [setCell_eq_setRow W M 256 _ _ _ _ h.box, setRow_heap W M _ _ _ _ h.box]
  have e : (makC L m row t lk).toArray.setIfInBounds 256 (.int .i64 v) = (makC L v row t lk).toArray := by
    rw [makC_eq, makC_eq, List.setIfInBounds_toArray, List.set_append_right _ _ (by simp [h.len])]
    simp [h.len]
  rw [e]
theorem Mk.setRows {W : World} {M : Nat} {L : List Int} {m : Int} {row lk : Value} {t : TV} (h : Mk W M L m row t lk) (v : Value) : Mk (W.setCell ⟨M, 257, none⟩ v) M L m v t lk := by
  refine ⟨?_, h.len⟩
  rw [setCell_eq_setRow W M 257 _ _ _ _ h.box, setRow_heap W M _ _ _ _ h.box]
  have e : (makC L m row t lk).toArray.setIfInBounds 257 v = (makC L m v t lk).toArray := by
    rw [makC_eq, makC_eq, List.setIfInBounds_toArray, List.set_append_right _ _ (by simp [h.len])]
    simp [h.len]
  rw [e]
theorem sl1_low {W : World} {α : Type} {enc : α → Value} {a : Option Addr} {n : Nat} {xs : List α} (h : Sl1 enc W a n xs) (hn : 0 < xs.length) (x : Addr) (hx : a = some x) : x.block < W.heap.size := by
  rcases h.2 with h0 | ⟨b, off, e, hlt, _⟩
  · have := h.1; omega
  · rw [hx] at e; cases e; exact hlt
theorem lowT_of {W : World} {t : TV} {T : TrieT} (h : Tri W t T) (h1 : 0 < T.up.length) (h2 : 0 < T.dep.length) (h3 : 0 < T.wrd.length) (h4 : 0 < T.byt.length) : lowT t W.heap.size := by
  rintro a (e | e | e | e)
  · exact sl1_low h.up h1 a e
  · exact sl1_low h.dep h2 a e
  · exact sl1_low h.wrd h3 a e
  · exact sl1_low h.byt.1 h4 a e
theorem cls_low {fold : Bool} {ws : List (List Int)} (hg : noGreat fold ws) (c : Nat) (v : Int) (h : (clsP fold ws)[c]? = some v) : 0 ≤ v ∧ v < (manyP fold ws : Int) := by
  have hc : c < 256 := by have := (List.getElem?_eq_some_iff.1 h).1; rw [clsP_len] at this; exact this
  have hm : 1 ≤ manyP fold ws := (clsN_many _ _ _).1
  cases hp : inB fold ws (c : Int) with
  | false =>
    have := cls_no (fold := fold) hp hc
    rw [show (clsN (inB fold ws) fold 256).1 = clsP fold ws from rfl, h] at this
    cases this; omega
  | true =>
    have e := cls_rep (inB_shut hg) hp hc
    rw [show (clsN (inB fold ws) fold 256).1 = clsP fold ws from rfl, h] at e
    have hl : clsO (inB fold ws) fold c < manyP fold ws := clsO_lt (inB_shut hg) hp hc
    cases e; omega
theorem info59 : (Tryz.prog.info? 59).map (·.size) = some 263 := by kernel_rfl
theorem zero59 : Tryz.zeroCells59.size = 263 := by kernel_rfl

set_option maxRecDepth 100000 in
set_option maxHeartbeats 8000000 in
theorem make11_yes (fold : Bool) (a : Option Addr) (la ca : Nat) (wss : List (List Int)) (w : World) (hA : Wds w a la wss) (hla : la ≤ 1000000) (hM : ∀ x ∈ wss, x.length ≤ 1000000) (hT : (begL fold wss).length ≤ 1000000) (hr : rightP fold wss = true) :
    Calls Tryz.prog 10 #[.agg (setV fold a la ca)] w fun e w' => ∃ R, e = .returned (.tuple #[.agg (dvC (clsP fold wss) (manyP fold wss) (.slice (some ⟨R, 0, none⟩) (manyP fold wss * (nodesL wss).length) (manyP fold wss * (nodesL wss).length))).toArray, .int .i64 0]) ∧
      IntRow R (tabP fold wss) w' ∧ w.heap.size ≤ R ∧ Below w.heap.size w w' := by
  obtain ⟨W, hW⟩ : ∃ W, W = (w.alloc (.cells (setV fold a la ca) 24)).alloc (.cells Tryz.zeroCells28 28) := ⟨_, rfl⟩
  have hB : Below w.heap.size w W := by rw [hW]; exact ((Below.refl _ _).alloc (Nat.le_refl _) _).alloc (by simp) _
  have hO : Bx w.heap.size [.cells (setV fold a la ca) 24, .cells Tryz.zeroCells28 28] W := by rw [hW]; exact ((Bx.nil _ w).snoc _ rfl).snoc _ (by simp)
  have s0 : W.cell? ⟨w.heap.size, 0, none⟩ = some (.bool fold) := hO.cell (i := 0) rfl rfl
  have s1 : W.cell? ⟨w.heap.size, 1, none⟩ = some (.slice a la ca) := hO.cell (i := 0) rfl rfl
  have hA2 := hA.below hB
  have hrd : readP (trieP wss) = some (nodesL wss, wss) := readP_iff.2 ⟨right_false hr, rfl, rfl⟩
  have HC := Lib.hid (make7_yes fold a la ca wss W hA2 hla hM hT hr)
  have HO := Lib.hid hO
  have HA2 := Lib.hid hA2
  have HRD := Lib.hid hrd
  have HRT := Lib.hid hr
  have HM := Lib.hid hM
  have HT := Lib.hid hT
  have hn4 : (nodesL wss).length ≤ 400 := read_n hrd
  have hpos : 0 < (nodesL wss).length := List.length_pos_iff.2 (nodesL_ne wss)
  have hg : noGreat fold wss := noGreat_of (right_nodup hr).2
  have hb5 : ∀ x, wordB wss x → 0 ≤ x ∧ x ≤ 255 := by rintro x ⟨xs, h1, h2⟩; exact hA.bytes xs h1 x h2
  have HG := Lib.hid hg
  have HB5 := Lib.hid hb5
  obtain ⟨n, hn⟩ : ∃ n, (nodesL wss).length = n := ⟨_, rfl⟩
  obtain ⟨m, hm⟩ : ∃ m, manyP fold wss = m := ⟨_, rfl⟩
  have hm257 : 1 ≤ m ∧ m ≤ 257 := by rw [← hm]; exact clsN_many _ _ _
  have HN := Lib.hid hn
  have HMM := Lib.hid hm
  obtain ⟨Q, hQ⟩ : ∃ Q, m * n = Q := ⟨_, rfl⟩
  have hQ2 : Q ≤ 257 * 400 := by rw [← hQ]; exact Nat.mul_le_mul hm257.2 (by omega)
  have e1 : wrap64 ((m : Int) * (n : Int)) = (Q : Int) := by rw [← Int.natCast_mul, hQ]; unfold wrap64; omega
  have HQ := Lib.hid hQ
  rw [hn, hm, hQ]
  rw [hn] at hn4 hpos
  clear hr hO hA hA2 hrd hM hT hg hb5 hn hm hQ
  go_enter Tryz.func10, Tryz.ntmps10
  go_upto_region 1 with fail
  rw [← hW]
  clear hW
  go_upto_region 4 with (go_at_call 25; refine HC.out.mono ?_; rintro e w1 ⟨t, rfl, hT1, hb1⟩)
  obtain ⟨W2, hW2⟩ : ∃ W2, W2 = w1.alloc (.cells #[.slice t.ua t.un t.uc, .slice t.da t.dn t.dc, .slice t.xa t.xn t.xc, .slice t.ba t.bn t.bc] 51) := ⟨_, rfl⟩
  have hB2 : Below W.heap.size W W2 := by rw [hW2]; exact hb1.alloc hb1.size _
  have hB12 : Below w1.heap.size w1 W2 := by rw [hW2]; exact below_alloc _ _
  have hO2 : Bx w1.heap.size [.cells #[.slice t.ua t.un t.uc, .slice t.da t.dn t.dc, .slice t.xa t.xn t.xc, .slice t.ba t.bn t.bc] 51] W2 := by rw [hW2]; exact (Bx.nil _ w1).snoc _ rfl
  have hT2 := hT1.below hB12
  rw [← hW2]
  have v0 : W2.cell? ⟨w1.heap.size, 0, none⟩ = some (.slice t.ua t.un t.uc) := hO2.cell (i := 0) rfl rfl
  have v1 : W2.cell? ⟨w1.heap.size, 1, none⟩ = some (.slice t.da t.dn t.dc) := hO2.cell (i := 0) rfl rfl
  have v2 : W2.cell? ⟨w1.heap.size, 2, none⟩ = some (.slice t.xa t.xn t.xc) := hO2.cell (i := 0) rfl rfl
  have v3 : W2.cell? ⟨w1.heap.size, 3, none⟩ = some (.slice t.ba t.bn t.bc) := hO2.cell (i := 0) rfl rfl
  have hun : t.un = n := by rw [← HN.out, ← up_len]; exact hT2.up.1.symm
  have HL := Lib.hid (links8_yes t (trieP wss) (nodesL wss) wss W2 hT2 (by omega) HRD.out)
  rw [HN.out] at HL
  have HO2 := Lib.hid hO2
  have HT2 := Lib.hid hT2
  have HB2 := Lib.hid hB2
  clear hW2 hB12 hO2 hT2 hT1 hb1 hun s0 s1
  go_upto_region 7 with (go_at_call 26; refine HL.out.mono ?_; rintro e w3 ⟨q, rfl, hq, hql, hb3⟩)
  have hB3 : Below W.heap.size W w3 := HB2.out.trans (hb3.mono HB2.out.size)
  have hOr := HO.out.below hB3
  have s0 : w3.cell? ⟨w.heap.size, 0, none⟩ = some (.bool fold) := hOr.cell (i := 0) rfl rfl
  have s1 : w3.cell? ⟨w.heap.size, 1, none⟩ = some (.slice a la ca) := hOr.cell (i := 0) rfl rfl
  have HF := Lib.hid (of10_yes fold a la ca wss w3 (HA2.out.below hB3) hla HM.out HT.out HRT.out)
  rw [HMM.out] at HF
  have HT3 := Lib.hid (HT2.out.below hb3)
  have HO3 := Lib.hid (HO2.out.below hb3)
  have HQ3 := Lib.hid hq
  have HB3 := Lib.hid hB3
  have hw1 : w1.heap.size < w3.heap.size := (Array.getElem?_eq_some_iff.1 (HO3.out 0 _ rfl)).1
  have hwW : w.heap.size + 1 < W.heap.size := (Array.getElem?_eq_some_iff.1 (HO.out 1 _ rfl)).1
  clear hOr v0 v1 v2 v3 hq hb3 hB3
  have hs25 : (Tryz.zeroCells25).size = (((clsP fold wss).map (Value.int .i64)).toArray).size := by rw [zero25, rowI_size, rowI_size, clsP_len]; simp
  have hi25 : (Tryz.prog.info? 25).map (·.size) = some (((clsP fold wss).map (Value.int .i64)).toArray).size := by rw [rowI_size, clsP_len]; exact info25
  have HS25 := Lib.hid hs25
  have HI25 := Lib.hid hi25
  clear hs25 hi25
  go_upto_region 10 with (first
    | (refine wpList_store_row rfl 25 _ _ rfl _ _ rfl rfl 25 _ (heap_alloc_new _ _) HI25.out HS25.out (rowI_one _) ?_)
    | (go_at_call 27; refine HF.out.mono ?_; rintro e w4 ⟨rfl, hb4⟩))
  rw [World.setRow_alloc_new]
  obtain ⟨w5, hw5⟩ : ∃ w5, w5 = w4.alloc (.cells ((clsP fold wss).map (Value.int .i64)).toArray 25) := ⟨_, rfl⟩
  have hB45 : Below w4.heap.size w4 w5 := by rw [hw5]; exact below_alloc _ _
  have hB5 : Below w3.heap.size w3 w5 := hb4.trans (hB45.mono hb4.size)
  have HK5 : Hid (w5.heap[w4.heap.size]? = some (.cells ((clsP fold wss).map (Value.int .i64)).toArray 25 (0, 0))) := by rw [Hid, hw5]; exact heap_alloc_new _ _
  have hl45 : w4.heap.size < w5.heap.size := (Array.getElem?_eq_some_iff.1 HK5.out).1
  rw [← hw5]
  clear hw5
  have hO5 := HO3.out.below hB5
  have v0 : w5.cell? ⟨w1.heap.size, 0, none⟩ = some (.slice t.ua t.un t.uc) := hO5.cell (i := 0) rfl rfl
  have v1 : w5.cell? ⟨w1.heap.size, 1, none⟩ = some (.slice t.da t.dn t.dc) := hO5.cell (i := 0) rfl rfl
  have v2 : w5.cell? ⟨w1.heap.size, 2, none⟩ = some (.slice t.xa t.xn t.xc) := hO5.cell (i := 0) rfl rfl
  have v3 : w5.cell? ⟨w1.heap.size, 3, none⟩ = some (.slice t.ba t.bn t.bc) := hO5.cell (i := 0) rfl rfl
  have HT5 := Lib.hid (HT3.out.below hB5)
  have HLO : Hid (lowT t w5.heap.size) := by
    have hp : 0 < (nodesL wss).length := by rw [HN.out]; exact hpos
    exact lowT_of HT5.out (by simpa [trieP] using hp) (by simpa [trieP] using hp) (by simpa [trieP] using hp) (by simpa [trieP] using hp)
  have HQ5 : Hid (IntRow q (linksP wss) w5) := (hB5.block q HQ3.out.lt).trans HQ3.out
  have hB35 := HB3.out.trans (hB5.mono HB3.out.size)
  have HRo : Hid (w5.heap[w.heap.size + 1]? = some (.cells Tryz.zeroCells28 28 (0, 0))) := (HO.out.below hB35) 1 _ rfl
  have HB05 := Lib.hid (hB.trans (hB35.mono hB.size))
  have hw5s : w.heap.size + 1 < w5.heap.size := (Array.getElem?_eq_some_iff.1 HRo.out).1
  clear hO5 hB5 hB45 hb4 s0 s1 hB35 hB
  obtain ⟨Z, hZ⟩ : ∃ Z, (makC (List.replicate 256 0) 0 (.slice none 0 0) t (.slice (some ⟨q, 0, none⟩) n n)).toArray = Z := ⟨_, rfl⟩
  have HBU : Hid (Tryz.prog.built 59 [(1, Value.agg #[.slice t.ua t.un t.uc, .slice t.da t.dn t.dc, .slice t.xa t.xn t.xc, .slice t.ba t.bn t.bc]), (2, .slice (some ⟨q, 0, none⟩) n n)] = some Z) := by rw [Hid, built59, hZ]
  have HZs : Hid (Z.size = 263) := by rw [Hid, ← hZ]; exact makC_size (by simp) _ _ _ _
  have HZ1 : Hid (Z.all (·.oneCell') = true) := by rw [Hid, ← hZ]; exact makC_one _ _ _ _ _ rfl rfl
  have HZi : Hid ((Tryz.prog.info? 59).map (·.size) = some Z.size) := by rw [Hid, HZs.out]; exact info59
  have HZo : Hid (Tryz.zeroCells59.size = Z.size) := by rw [Hid, HZs.out]; exact zero59
  have HZe := Lib.hid hZ
  clear hZ
  iterate 7 (first | go_values | go_skip | go_guarded | go_step)
  refine wpList_build_to rfl 59 _ rfl Z (by go_simp; exact HBU.out) ?_
  iterate 3 (first | go_values | go_skip | go_guarded | go_step)
  refine wpList_store_row rfl 59 _ _ rfl w5.heap.size Z rfl rfl 59 _ (heap_alloc_new _ _) HZi.out HZo.out HZ1.out ?_
  rw [World.setRow_alloc_new]
  obtain ⟨w6, hw6⟩ : ∃ w6, w6 = w5.alloc (.cells Z 59) := ⟨_, rfl⟩
  have hB56 : Below w5.heap.size w5 w6 := by rw [hw6]; exact below_alloc _ _
  have hM6 : Mk w6 w5.heap.size (List.replicate 256 0) 0 (.slice none 0 0) t (.slice (some ⟨q, 0, none⟩) n n) := ⟨by rw [hw6, HZe.out]; exact heap_alloc_new _ _, by simp⟩
  have hw56 : w5.heap.size < w6.heap.size := hM6.lt
  have HK6 : Hid (w6.heap[w4.heap.size]? = some (.cells ((clsP fold wss).map (Value.int .i64)).toArray 25 (0, 0))) := (hB56.block _ hl45).trans HK5.out
  have HT6 := Lib.hid (HT5.out.below hB56)
  have HQ6 : Hid (IntRow q (linksP wss) w6) := (hB56.block q HQ5.out.lt).trans HQ5.out
  have hq5 := HQ5.out.lt
  have HRo6 : Hid (w6.heap[w.heap.size + 1]? = some (.cells Tryz.zeroCells28 28 (0, 0))) := (hB56.block _ hw5s).trans HRo.out
  have HB6 : Hid (Below w.heap.size w w6) := HB05.out.trans (hB56.mono (by omega))
  rw [← hw6]
  obtain ⟨M, hMe⟩ : ∃ M, w5.heap.size = M := ⟨_, rfl⟩
  rw [hMe] at hM6 HLO hw56 hw5s hq5 ⊢
  have hb6 := hM6.box
  rw [makC_eq] at hb6
  have HLL : Hid (((clsP fold wss).map (Value.int .i64)).length = ((List.replicate 256 (0 : Int)).map (Value.int .i64)).length) := by rw [Hid, List.length_map, List.length_map, clsP_len, List.length_replicate]
  have HBB6 := Lib.hid hb6
  have HM6 := Lib.hid hM6
  clear hw6 hB56 HK5 HT5 HQ5 HRo HB05 HZi HZo HZ1 HZs HBU HZe v0 v1 v2 v3 hb6 hM6 hl45 hMe
  go_upto_region 11 with fail
  iterate 1 (first | go_values | go_skip | go_guarded | go_step)
  refine wpList_load_row rfl 25 _ rfl w4.heap.size rfl 25 _ (0, 0) _ HK6.out Tryz.underlying25 rfl HI25.out ?_
  iterate 9 (first | go_values | go_skip | go_guarded | go_step)
  refine wpList_store_head rfl 25 _ _ rfl M ((clsP fold wss).map (Value.int .i64)) _ _ rfl rfl 59 HBB6.out HLL.out HI25.out (rowI_one _) ?_
  rw [← makC_eq]
  obtain ⟨w7, hw7⟩ : ∃ w7, w7 = w6.setRow M (makC (clsP fold wss) 0 (.slice none 0 0) t (.slice (some ⟨q, 0, none⟩) n n)).toArray := ⟨_, rfl⟩
  have hM7 : Mk w7 M (clsP fold wss) 0 (.slice none 0 0) t (.slice (some ⟨q, 0, none⟩) n n) := ⟨by rw [hw7]; exact setRow_heap w6 M _ _ _ _ HM6.out.box, clsP_len _ _⟩
  have hB7 : RowKit.Below M w6 w7 := by rw [hw7]; exact below_setRow (Below.refl _ _) (Nat.le_refl _) _
  have HS7 : Hid (w7.heap.size = w6.heap.size) := by rw [Hid, hw7, setRow_size]
  rw [← hw7]
  have c256 := hM7.cells.1
  have f256 := hM7.frozen 256
  have HM7 := Lib.hid hM7
  have HB7 := Lib.hid hB7
  clear hw7 hM7 hB7 HK6 HBB6 HLL
  go_upto_region 12 with fail
  obtain ⟨w8, hw8⟩ : ∃ w8, w8 = w7.setCell ⟨M, 256, none⟩ (.int .i64 (m : Int)) := ⟨_, rfl⟩
  have hM8 : Mk w8 M (clsP fold wss) (m : Int) (.slice none 0 0) t (.slice (some ⟨q, 0, none⟩) n n) := by rw [hw8]; exact HM7.out.setMany _
  have hB8 : RowKit.Below M w6 w8 := by rw [hw8]; exact HB7.out.setCell (Nat.le_refl _) _
  have hs8 : w8.heap.size = w6.heap.size := by rw [hw8]; simpa using HS7.out
  rw [← hw8]
  have HS8 := Lib.hid hs8
  clear hs8
  have c257 := hM8.cells.2.1
  have f257 := hM8.frozen 257
  have hM8s : M < w8.heap.size := by rw [HS8.out]; exact hw56
  have HM8 := Lib.hid hM8
  have HB8 := Lib.hid hB8
  have hmk : ∀ V : World, (Instr.makeSlice 26 (.int .i64 Q) (.int .i64 Q)).run Tryz.prog V = .ok (.slice (some ⟨V.heap.size, 0, none⟩) Q Q) (V.alloc (.cells (intsNil Q) 3)) := fun V => by
    obtain ⟨i0, hi, hz0, hz1, hz2⟩ := info_parts i64_info7
    have h := run_makeSlice (P := Tryz.prog) (w := V) 26 3 i0 (.int .i64 0) Tryz.underlying26 hi hz0 .i64 .i64 (Q : Int) (Q : Int) (by omega) (by omega) (by rw [hz1]; omega) (by rw [hz2]; omega) (by omega)
    rw [hz1] at h
    have e1 : (Q : Int).toNat * 1 = Q := by omega
    rw [e1, made_ints, Int.toNat_natCast] at h
    exact h
  clear hw8 hM8 hB8 c256 f256
  go_upto_region 13 with fail
  obtain ⟨R, hR⟩ : ∃ R, w8.heap.size = R := ⟨_, rfl⟩
  rw [hR]
  have hw6R : w6.heap.size = R := HS8.out.symm.trans hR
  obtain ⟨w9, hw9⟩ : ∃ w9, w9 = (w8.setCell ⟨M, 257, none⟩ (.slice (some ⟨R, 0, none⟩) Q Q)).alloc (.cells (intsNil Q) 3) := ⟨_, rfl⟩
  have hsc : (w8.setCell ⟨M, 257, none⟩ (.slice (some ⟨R, 0, none⟩) Q Q)).heap.size = R := by simp [hR]
  have HSC := Lib.hid hsc
  clear hsc
  have hB89 : RowKit.Below M w8 w9 := by rw [hw9]; exact ((Below.refl M w8).setCell (p := ⟨M, 257, none⟩) (Nat.le_refl _) _).alloc (by rw [HSC.out, ← hR]; exact Nat.le_of_lt hM8s) _
  have hM9 : Mk w9 M (clsP fold wss) (m : Int) (.slice (some ⟨R, 0, none⟩) (m * n) (m * n)) t (.slice (some ⟨q, 0, none⟩) n n) := by rw [hw9, HQ.out]; exact (HM8.out.setRows _).below (below_alloc _ _)
  have hR9 : IntRow R (List.replicate Q 0) w9 := by
    have h := IntRow.new (w8.setCell ⟨M, 257, none⟩ (.slice (some ⟨R, 0, none⟩) Q Q)) Q
    rw [HSC.out] at h
    rw [hw9]
    exact h
  have hs9 : w9.heap.size = R + 1 := by rw [hw9, World.size_alloc, HSC.out]
  rw [← hw9]
  have hB69 : RowKit.Below M w6 w9 := HB8.out.trans hB89
  have HT9 := Lib.hid (HT6.out.keep hB69 (by omega) HLO.out)
  have HQ9 : Hid (IntRow q (linksP wss) w9) := (hB69.block q hq5).trans HQ6.out
  have HRo9 : Hid (w9.heap[w.heap.size + 1]? = some (.cells Tryz.zeroCells28 28 (0, 0))) := (hB69.block _ hw5s).trans HRo6.out
  have HB9 : Hid (Below w.heap.size w w9) := HB6.out.trans (hB69.mono (by omega))
  have HLO9 : Hid (lowT t R) := fun a h => Nat.lt_of_lt_of_le (HLO.out a h) (by omega)
  have hMR : M < R := by omega
  have hqR : q < R := by omega
  have HM9 := Lib.hid hM9
  have HR9 := Lib.hid hR9
  clear hmk c257 f257 hw9 hB89 hM9 hR9 hB69 HT6 HQ6 HRo6 HB6 hR e1
  have HFI : Hid (∀ (V : World) (i : Nat), i < n → IntRow R (tabF fold wss i) V → RowKit.Below R w9 V → Calls Tryz.prog 28 #[.pointer (some ⟨M, 0, none⟩), .int .i64 (i : Int)] V fun e w' => e = .returned (.tuple #[]) ∧ IntRow R (tabF fold wss (i + 1)) w' ∧ RowKit.Below R V w') := fun V i hi hr hb => by
    have hX := List.getElem?_eq_getElem (show i < (nodesL wss).length by rw [HN.out]; exact hi)
    have h := fill11_any t (trieP wss) M R q n m i (clsP fold wss) (tabF fold wss i) (linksP wss) V (HT9.out.keep hb (by omega) HLO9.out) (by simp [trieP]) (by rw [up_len, HN.out]; omega) (HM9.out.keep hb hMR) (fun c v hv => by have := cls_low HG.out c v hv; rw [HMM.out] at this; exact this) ⟨hMR, hqR⟩ HLO9.out ((hb.block q hqR).trans HQ9.out) (by rw [linksP_len, HN.out]) hr (by rw [(tab_ok HG.out HB5.out (i := i) (by rw [HN.out]; omega)).1, HMM.out, HN.out]) hi (by omega) hm257.1 (by omega) (fun h0 => by obtain ⟨k, h1, h2, _⟩ := link_low hX h0; exact ⟨k, h1, by omega⟩)
    rw [← HMM.out] at h
    exact h
  go_wp2_with fail
  go_loopw [10, 54] (fun s10 s54 wr => ∃ i : Nat, i ≤ n ∧ s54 = .int .i64 i ∧ Hid (IntRow R (tabF fold wss i) wr) ∧ Hid (RowKit.Below R w9 wr)) (fun _ s _ => n - (intOf s).toNat)
  case atStart => exact ⟨0, Nat.zero_le _, rfl, by show IntRow R (List.replicate (manyP fold wss * (nodesL wss).length) 0) _; rw [HMM.out, HN.out, HQ.out]; exact HR9.out, Below.refl _ _⟩
  case round =>
    obtain ⟨i, hi, rfl, hr, hb⟩ := hrel
    by_cases hil : i < n
    · have hd : decide ((i : Int) < (n : Int)) = true := by simp; omega
      go_wp2_with (go_at_call 28; refine (HFI.out wr i hil hr.out hb.out).mono ?_; rintro e wf ⟨rfl, hrf, hbf⟩)
      go_roundw
      case rel => exact ⟨i + 1, by omega, by go_num, hrf, hb.out.trans hbf⟩
      case measure => simp [intOf]; omega
    · obtain rfl : i = n := by omega
      have hd : decide ((i : Int) < (i : Int)) = false := by simp
      have hMr := (HM9.out.keep hb.out hMR).box
      rw [makC_dv, HQ.out] at hMr
      have hrg := rangeAt_head hMr
      have hzl : (dvC (clsP fold wss) (m : Int) (.slice (some ⟨R, 0, none⟩) Q Q)).toArray.size = 258 := dvC_size (clsP_len _ _) _ _
      have hz1 := dvC_one (clsP fold wss) (m : Int) (.slice (some ⟨R, 0, none⟩) Q Q) rfl
      obtain ⟨Z, hZ⟩ : ∃ Z, dvC (clsP fold wss) (m : Int) (.slice (some ⟨R, 0, none⟩) Q Q) = Z := ⟨_, rfl⟩
      rw [hZ] at hrg hzl hz1
      have HRG := Lib.hid hrg
      have HZ1 := Lib.hid hz1
      have HZi : Hid ((Tryz.prog.info? 28).map (·.size) = some Z.toArray.size) := by rw [Hid, hzl]; exact info28
      have HZl : Hid ((Tryz.prog.info? 28).map (·.size) = some Z.length) := by rw [Hid, show Z.length = 258 by simpa using hzl]; exact info28
      have HZo : Hid (Tryz.zeroCells28.size = Z.toArray.size) := by rw [Hid, hzl, zero28]; exact dvC_size (by simp) _ _
      have HZe := Lib.hid hZ
      have HRr : Hid (wr.heap[w.heap.size + 1]? = some (.cells Tryz.zeroCells28 28 (0, 0))) := (hb.out.block _ (by omega)).trans HRo9.out
      have H2 := Lib.hid (setRow_heap wr (w.heap.size + 1) _ Z.toArray _ _ HRr.out)
      clear hMr hrg hzl hz1 hZ
      go_upto_region 18 with fail
      iterate 4 (first | go_values | go_skip | go_guarded | go_step)
      refine wpList_load_mid rfl 28 _ rfl M 0 rfl Z _ HRG.out Tryz.underlying28 rfl HZl.out ?_
      refine wpList_store_row rfl 28 _ _ rfl (w.heap.size + 1) Z.toArray rfl rfl 28 _ HRr.out HZi.out HZo.out HZ1.out ?_
      go_wp2_with fail
      refine bodyPost_ret (results_dense2 rfl rfl H2.out HZi.out) rfl ?_
      refine ⟨R, by rw [HZe.out]; rfl, ?_, by omega, below_setRow (HB9.out.trans (hb.out.mono (by omega))) (by omega) _⟩
      have hf : IntRow R (tabP fold wss) wr := by show IntRow R (tabF fold wss (nodesL wss).length) wr; rw [HN.out]; exact hr.out
      exact (setRow_other _ _ _ _ (by omega)).trans hf
end Go.Proofs.YtjfhefffbkpgkaaGreat

/- Where a set's table leads (layer 11): plain. -/


namespace Go.Proofs.YtjfhefffbkpgkaaGreat
set_option linter.unusedVariables false

/-- A byte as a set has it: small, if the set folds. -/
def fcB (fold : Bool) (c : Int) : Int := if fold = true then foldI c else c
theorem foldL_fcB (fold : Bool) (b : List Int) : foldL fold b = b.map (fcB fold) := by
  unfold foldL fcB
  cases fold <;> simp
theorem fcB_byte {fold : Bool} {c : Nat} (hc : c < 256) : ∃ d : Nat, fcB fold (c : Int) = (d : Int) ∧ d < 256 := by
  unfold fcB foldI
  cases fold
  · exact ⟨c, by simp, hc⟩
  · by_cases h : (65 : Int) ≤ (c : Int) ∧ (c : Int) ≤ 90
    · refine ⟨c + 32, ?_, by omega⟩
      rw [if_pos rfl, if_pos h]; omega
    · exact ⟨c, by rw [if_pos rfl, if_neg h], hc⟩
/-- A byte is one of a set's just if, folded, it stands in a word. -/
theorem inB_fc {fold : Bool} {ws : List (List Int)} (hg : noGreat fold ws) {c : Int} : inB fold ws c = true ↔ wordB ws (fcB fold c) := by
  rw [inB_iff]
  unfold fcB foldI smallI
  cases fold with
  | false => simp
  | true =>
    have g := hg rfl
    simp only [if_true, decide_eq_true_iff, true_and]
    constructor
    · rintro ⟨x, h1, h2⟩
      have g1 := g x h1
      rcases h2 with rfl | ⟨h3, h4⟩
      · rw [if_neg g1]; exact h1
      · rw [if_pos (by omega), show c + 32 = x by omega]; exact h1
    · intro h
      split at h
      · exact ⟨c + 32, h, .inr ⟨by omega, by omega⟩⟩
      · exact ⟨c, h, .inl rfl⟩
theorem clsO_fc {fold : Bool} {ws : List (List Int)} {c d : Nat} (h : fcB fold (c : Int) = (d : Int)) : clsO (inB fold ws) fold c = clsO (inB fold ws) fold d := by
  unfold clsO
  have e : repB fold c = repB fold d := by
    unfold repB smallI
    unfold fcB foldI at h
    cases fold with
    | false => simp at h; simp; omega
    | true =>
      simp only [if_true] at h
      simp only [Bool.true_and, decide_eq_true_iff]
      split at h
      · rw [if_neg (by omega), if_pos (by omega)]; omega
      · have : c = d := by omega
        rw [this]
  rw [e]
theorem cls_in {fold : Bool} {ws : List (List Int)} (hg : noGreat fold ws) {c : Nat} (hc : c < 256) : (clsP fold ws)[c]? = some (if inB fold ws c = true then (clsO (inB fold ws) fold c : Int) else 0) := by
  cases hp : inB fold ws (c : Int) with
  | false => rw [if_neg (by simp)]; exact cls_no hp hc
  | true => rw [if_pos rfl]; exact cls_rep (inB_shut hg) hp hc
theorem goes_no {ws : List (List Int)} {x : List Int} {c : Int} (h : ¬ wordB ws c) : lsf (nodesL ws) (x ++ [c]) = [] := by
  have h0 : ([] : List Int) ∈ nodesL ws := (mem_nodesL ws).2 (.inl rfl)
  refine lsf_unique h0 (List.nil_suffix) h0 (fun z hz hm => ?_)
  rcases List.eq_nil_or_concat z with rfl | ⟨y, d, rfl⟩
  · simp
  · exfalso
    rw [List.concat_eq_append] at hz hm
    obtain ⟨t, ht⟩ := hz
    rw [← List.append_assoc] at ht
    have := (List.append_inj' ht rfl).2
    have e : d = c := by simpa using this
    subst e
    exact h (node_word hm)
/-- A table's states: a node, by its number. -/
def nodeI (ws : List (List Int)) (x : List Int) : Int := placeS (nodesL ws) x
theorem nodeI_at {ws : List (List Int)} {j : Nat} {x : List Int} (h : (nodesL ws)[j]? = some x) : nodeI ws x = (j : Int) := placeS_at (nodesL_srt ws).nodup h
theorem node_ex {ws : List (List Int)} {x : List Int} (h : x ∈ nodesL ws) : ∃ j : Nat, (nodesL ws)[j]? = some x ∧ nodeI ws x = (j : Int) ∧ j < (nodesL ws).length := by
  obtain ⟨j, hj⟩ := List.getElem?_of_mem h
  exact ⟨j, hj, nodeI_at hj, (List.getElem?_eq_some_iff.1 hj).1⟩

/-- A set that may be: what its table wants. -/
structure OkT (fold : Bool) (ws : List (List Int)) : Prop where
  great : noGreat fold ws
  byt : ∀ x, wordB ws x → 0 ≤ x ∧ x ≤ 255
  pos : 0 < (nodesL ws).length
theorem tabP_len {fold : Bool} {ws : List (List Int)} (h : OkT fold ws) : (tabP fold ws).length = manyP fold ws * (nodesL ws).length := (tab_ok h.great h.byt (Nat.le_refl _)).1
theorem many_pos (fold : Bool) (ws : List (List Int)) : 1 ≤ manyP fold ws := (clsN_many _ _ _).1
theorem states_tab {fold : Bool} {ws : List (List Int)} (h : OkT fold ws) : statesZ (manyP fold ws) (tabP fold ws).length = ((nodesL ws).length : Int) := by
  have := many_pos fold ws
  unfold statesZ
  rw [tabP_len h, if_neg (by omega), ← Int.natCast_ediv, Nat.mul_div_cancel_left _ (by omega)]
/-- Where the table leads from a node by a byte: to the longest end that is a node. -/
theorem goD_tab {fold : Bool} {ws : List (List Int)} (h : OkT fold ws) {j : Nat} {x : List Int} (hx : (nodesL ws)[j]? = some x) {c : Nat} (hc : c < 256) :
    goD (clsP fold ws) (manyP fold ws) (tabP fold ws) j c = some (nodeI ws (lsf (nodesL ws) (x ++ [fcB fold c]))) := by
  have hj := (List.getElem?_eq_some_iff.1 hx).1
  have hm := many_pos fold ws
  obtain ⟨h1, h2⟩ := tab_at h.great h.byt hx
  obtain ⟨v, hv⟩ : ∃ v : Nat, (clsP fold ws)[c]? = some (v : Int) ∧ v < manyP fold ws ∧ (tabP fold ws)[j * manyP fold ws + v]? = some (nodeI ws (lsf (nodesL ws) (x ++ [fcB fold c]))) := by
    rw [cls_in h.great hc]
    by_cases hp : inB fold ws (c : Int) = true
    · rw [if_pos hp]
      refine ⟨_, rfl, clsO_lt (inB_shut h.great) hp hc, ?_⟩
      obtain ⟨d, hd, hd2⟩ := fcB_byte (fold := fold) hc
      have hw := (inB_fc h.great).1 hp
      rw [hd] at hw ⊢
      rw [clsO_fc hd]
      exact h2 d hw
    · rw [if_neg hp]
      refine ⟨0, rfl, by omega, ?_⟩
      rw [goes_no (fun hw => hp ((inB_fc h.great).2 hw)), nodeI_at (nodesL_head ws), Nat.add_zero]
      exact h1
  obtain ⟨hv1, hv2, hv3⟩ := hv
  unfold goD
  rw [states_tab h, hv1, Option.getD_some, if_neg (by rintro ((h | h) | (h | h)) <;> omega)]
  rw [show ((j : Int) * (manyP fold ws : Int) + (v : Int)).toNat = j * manyP fold ws + v by rw [← Int.natCast_mul]; omega]
  exact hv3
theorem goD_out {fold : Bool} {ws : List (List Int)} (h : OkT fold ws) {j : Int} (hj : j < 0 ∨ ((nodesL ws).length : Int) ≤ j) (c : Nat) : goD (clsP fold ws) (manyP fold ws) (tabP fold ws) j c = none := by
  unfold goD
  rw [states_tab h, if_pos (.inr hj)]
theorem runD_out {fold : Bool} {ws : List (List Int)} (h : OkT fold ws) {j : Int} (hj : j < 0 ∨ ((nodesL ws).length : Int) ≤ j) (b : List Int) : runD (clsP fold ws) (manyP fold ws) (tabP fold ws) j b = if b.length = 0 then some j else none := by
  cases b with
  | nil => rfl
  | cons c b =>
    show (goD _ _ _ j c.toNat).bind _ = _
    rw [goD_out h hj]; rfl
/-- Bytes, one behind the other, from any node. -/
theorem runD_tab {fold : Bool} {ws : List (List Int)} (h : OkT fold ws) : ∀ (b : List Int) {x : List Int}, x ∈ nodesL ws → (∀ c ∈ b, 0 ≤ c ∧ c ≤ 255) →
    ∃ y, y ∈ nodesL ws ∧ y = (b.map (fcB fold)).foldl (fun x c => lsf (nodesL ws) (x ++ [c])) x ∧ runD (clsP fold ws) (manyP fold ws) (tabP fold ws) (nodeI ws x) b = some (nodeI ws y)
  | [], x, hx, _ => ⟨x, hx, rfl, rfl⟩
  | c :: b, x, hx, hb => by
    have h0 : ([] : List Int) ∈ nodesL ws := (mem_nodesL ws).2 (.inl rfl)
    have hc := hb c (by simp)
    obtain ⟨d, rfl⟩ : ∃ d : Nat, c = (d : Int) := ⟨c.toNat, by omega⟩
    obtain ⟨j, hj, hn, _⟩ := node_ex hx
    have hg := goD_tab h hj (c := d) (by omega)
    obtain ⟨y, hy1, hy2, hy3⟩ := runD_tab h b (lsf_mem h0 (x ++ [fcB fold (d : Int)])) (fun c hc => hb c (by simp [hc]))
    refine ⟨y, hy1, hy2, ?_⟩
    show (goD _ _ _ (nodeI ws x) ((d : Int).toNat)).bind _ = _
    rw [hn, Int.toNat_natCast, hg]
    exact hy3
/-- From the root on: the longest end that is a node. -/
theorem runD_root {fold : Bool} {ws : List (List Int)} (h : OkT fold ws) (b : List Int) (hb : ∀ c ∈ b, 0 ≤ c ∧ c ≤ 255) :
    runD (clsP fold ws) (manyP fold ws) (tabP fold ws) 0 b = some (nodeI ws (lsf (nodesL ws) (foldL fold b))) := by
  have h0 : ([] : List Int) ∈ nodesL ws := (mem_nodesL ws).2 (.inl rfl)
  obtain ⟨y, hy1, hy2, hy3⟩ := runD_tab h b h0 hb
  rw [nodeI_at (nodesL_head ws)] at hy3
  rw [foldL_fcB, ← goL_eq]
  have : y = goL (nodesL ws) (b.map (fcB fold)) := hy2
  rw [← this]
  exact hy3
theorem okT {fold : Bool} {ws : List (List Int)} (hr : rightP fold ws = true) (hb : ∀ x ∈ ws, ∀ c ∈ x, 0 ≤ c ∧ c ≤ 255) : OkT fold ws :=
  ⟨noGreat_of (right_nodup hr).2, fun x ⟨w, h1, h2⟩ => hb w h1 x h2, List.length_pos_iff.2 (nodesL_ne ws)⟩
end Go.Proofs.YtjfhefffbkpgkaaGreat

/- What the document says of ushers (layer 11): plain. -/


namespace Go.Proofs.YtjfhefffbkpgkaaGreat
set_option linter.unusedVariables false

theorem he_right11 : rightP false heW = true := by decide +kernel
theorem he_many : manyP false heW = 5 := by decide +kernel
theorem he_n11 : (nodesL heW).length = 7 := by decide +kernel
theorem he_c104 : (clsP false heW)[104]? = some 2 := by decide +kernel
theorem he_c120 : (clsP false heW)[120]? = some 0 := by decide +kernel
def TW : List Int := [117, 115, 104, 101, 114, 115]
def NW : List Int := [0, 0, 2, 4, 6, 5, 2]
theorem he_tab : tabP false heW = [0, 0, 1, 0, 2, 0, 3, 1, 0, 2, 0, 0, 4, 0, 2, 0, 0, 1, 5, 2, 0, 6, 1, 0, 2, 0, 0, 1, 0, 2, 0, 0, 1, 5, 2] := by decide +kernel
theorem he_go : ∀ i < 6, goD (clsP false heW) 5 (tabP false heW) (NW.getD i 0) (TW.getD i 0).toNat = some (NW.getD (i + 1) 0) := by rw [he_tab]; decide +kernel
theorem he_run : runD (clsP false heW) 5 (tabP false heW) 0 TW = some 2 := by rw [he_tab]; decide +kernel
theorem he_run7 : runD (clsP false heW) 5 (tabP false heW) 7 [104] = none := by rw [he_tab]; decide +kernel
theorem he_run3 : runD (clsP false heW) 5 (tabP false heW) 3 [] = some 3 := rfl
theorem he_none : goD (List.replicate 256 0) 0 [] 0 104 = none := by decide +kernel
theorem he_st : statesZ 5 35 = 7 := by decide +kernel
theorem he_st0 : statesZ 0 0 = 0 := by decide +kernel
theorem he_tabl : (tabP false heW).length = 35 := by rw [he_tab]; rfl
theorem he_same : (decide (clsP false heW = List.replicate 256 0) && decide ((5 : Int) = 0) && decide (tabP false heW = [])) = false := by rw [show decide ((5 : Int) = 0) = false by decide, Bool.and_false, Bool.false_and]
end Go.Proofs.YtjfhefffbkpgkaaGreat
