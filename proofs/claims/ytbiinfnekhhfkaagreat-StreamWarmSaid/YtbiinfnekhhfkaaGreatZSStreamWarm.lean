/- What the law's walk takes besides: Op, Fs, ME, EF, EH, R3, EI. -/
import Derived.Deep.Matrix
import Derived.Lib.MinMax
import Derived.Test.YtbiinfnekhhfkaaGreatZS1
import Derived.Test.YtbiinfnekhhfkaaGreatZS2
import Derived.Test.YtbiinfnekhhfkaaGreatZS3
import Derived.Test.YtbiinfnekhhfkaaGreatZS4
import Derived.Test.YtbiinfnekhhfkaaGreatZS5
import Derived.Test.YtbiinfnekhhfkaaGreatZS6
import Derived.Test.YtbiinfnekhhfkaaGreatZS7
import Derived.Test.YtbiinfnekhhfkaaGreatZS8
import Derived.Test.YtbiinfnekhhfkaaGreatZS9
import Derived.Test.YtbiinfnekhhfkaaGreatZS10
import Derived.Test.YtbiinfnekhhfkaaGreatZS11
import Derived.Test.YtbiinfnekhhfkaaGreatZS12
import Derived.Test.YtbiinfnekhhfkaaGreatZS13
import Derived.Test.YtbiinfnekhhfkaaGreatZS14
import Derived.Test.YtbiinfnekhhfkaaGreatZS15
import Derived.Test.YtbiinfnekhhfkaaGreatZS16
import Derived.Test.YtbiinfnekhhfkaaGreatZS17

namespace Go.Proofs.YtbiinfnekhhfkaaGreat
set_option linter.unusedVariables false

/-- Hits between two places. -/
def betwH (low high : Int) (l : List HitP) : List HitP := l.filter fun h => decide (low < h.1) && decide (h.1 ≤ high)
theorem betwH_snoc (low high : Int) (l : List HitP) (x : HitP) : betwH low high (l ++ [x]) = if low < x.1 ∧ x.1 ≤ high then betwH low high l ++ [x] else betwH low high l := by
  unfold betwH
  rw [List.filter_append]
  by_cases h : low < x.1 ∧ x.1 ≤ high
  · simp [h]
  · rw [if_neg h]
    have : (decide (low < x.1) && decide (x.1 ≤ high)) = false := by simp; omega
    simp [this]
end Go.Proofs.YtbiinfnekhhfkaaGreat

namespace Go.Proofs.YtbiinfnekhhfkaaGreat
open Go.ChangeShapes Go.WideShapes Go.ChangeAt Go.RowKit Go.Joins Go.Deep
set_option linter.unusedVariables false
set_option linter.unusedSimpArgs false
set_option maxRecDepth 100000

section
variable {H : Type} {enc : TypeId × Value → H} {W : World} {r : Reach} {base : Nat} {d : DataW H} {p : List MemPlace} {v : Value}

theorem open_sl_u8 (hv : Value.okWide Tryz.prog W r base 25 v) (h : DataW.Trod enc Tryz.prog W 0 (fun _ => true) true 25 v d p) :
    ∃ (a : Option Addr) (len cap : Nat) (zs : List Int), v = .slice a len cap ∧ Bys W a len zs ∧ len ≤ cap ∧ cap ≤ maxLen := by
  obtain ⟨a, len, cap, rfl⟩ := okWide_slice Tryz.underlying25 hv
  obtain ⟨fuel, hf⟩ := h
  rcases open_ints Tryz.underlying25 Tryz.underlying5 (by kernel_rfl) hf with ⟨hcs, _⟩ | ⟨x, l, c, zs, hcs, _, hl, hm, hz, _, hcell, hwz⟩
  · simp [Value.cells] at hcs
    obtain ⟨rfl, rfl, rfl⟩ := hcs
    exact ⟨none, 0, 0, [], rfl, Bys.nil _ _, Nat.le_refl _, by unfold maxLen; omega⟩
  · simp [Value.cells] at hcs
    obtain ⟨rfl, rfl, rfl⟩ := hcs
    have hz' : zs.length = cap := by simpa using hz
    refine ⟨_, len, _, zs.take len, rfl, ⟨⟨by simp; omega, ?_⟩, fun n hn => wf_u8 (hwz n (List.mem_of_mem_take hn))⟩, hl, hm⟩
    by_cases h0 : len = 0
    · exact .inl h0
    · right
      obtain ⟨b, off, spot⟩ := x
      have hc := hcell 0 (by omega)
      obtain rfl : spot = none := by simpa [Addr.add] using World.cell?_spot hc
      refine ⟨b, off, rfl, ?_, fun i u hu => ?_⟩
      · have := World.block_lt_of_cell? W _ hc
        rwa [add_plain] at this
      · have hi : i < len := by have := (List.getElem?_eq_some_iff.1 hu).1; simp at this; omega
        have h1 := hcell i (by omega)
        rw [add_plain] at h1
        rw [h1]
        rw [List.getElem?_take, if_pos hi] at hu
        simp [hu]

end

end Go.Proofs.YtbiinfnekhhfkaaGreat

namespace Go.Proofs.YtbiinfnekhhfkaaGreat
open Go.RowKit Go.Sort
set_option linter.unusedVariables false
set_option linter.unusedSimpArgs false

theorem longL_aux : ∀ (l : List (List Int)) (k : Nat), ∃ N : Nat, l.foldl (fun n w => max n (w.length : Int)) (k : Int) = (N : Int) ∧ k ≤ N ∧ (∀ y ∈ l, y.length ≤ N) ∧ ∀ M, k ≤ M → (∀ y ∈ l, y.length ≤ M) → N ≤ M
  | [], k => ⟨k, rfl, Nat.le_refl _, fun y hy => by simp at hy, fun M h _ => h⟩
  | x :: l, k => by
    obtain ⟨N, h1, h2, h3, h4⟩ := longL_aux l (max k x.length)
    refine ⟨N, ?_, by omega, fun y hy => ?_, fun M hk hM => h4 M (by have := hM x (List.mem_cons_self ..); omega) fun y hy => hM y (List.mem_cons_of_mem _ hy)⟩
    · rw [List.foldl_cons, ← h1]
      congr 1
      omega
    · rcases List.mem_cons.1 hy with rfl | hy
      · omega
      · exact h3 y hy
theorem longL_spec (l : List (List Int)) : ∃ N : Nat, longL l = (N : Int) ∧ (∀ y ∈ l, y.length ≤ N) ∧ ∀ M, (∀ y ∈ l, y.length ≤ M) → N ≤ M := by
  obtain ⟨N, h1, _, h3, h4⟩ := longL_aux l 0
  exact ⟨N, h1, h3, fun M hM => h4 M (Nat.zero_le _) hM⟩

end Go.Proofs.YtbiinfnekhhfkaaGreat

namespace Go.Proofs.YtbiinfnekhhfkaaGreat
open Go.RowKit Go.Sort
set_option linter.unusedVariables false
set_option linter.unusedSimpArgs false

def uZ (fold : Bool) (wss : List (List Int)) (z at_ : Int) (F : List Int) : Int := if rightP fold wss = true then fdZ fold wss z at_ F else z
def uA (fold : Bool) (wss : List (List Int)) (z at_ : Int) (F : List Int) : Int := if rightP fold wss = true then fdA wss z at_ F else at_
def uE (fold : Bool) (wss : List (List Int)) (z at_ : Int) (F : List Int) : Int := if rightP fold wss = true then fdE wss z at_ F else 2
def uH (fold : Bool) (wss : List (List Int)) (z at_ : Int) (F : List Int) : List HitP := if rightP fold wss = true then fdH fold wss z at_ F else []

theorem uH_bd {fold : Bool} {wss : List (List Int)} (z at_ : Int) (F : List Int) : ∀ h ∈ uH fold wss z at_ F, (I64 h.1 ∧ I64 h.2) ∧ 0 ≤ h.2 ∧ h.2 < (wss.length : Int) := by
  intro h hh
  unfold uH at hh
  split at hh
  · rename_i hr
    exact fdH_bd hr z at_ F h hh
  · cases hh
theorem uH_len {fold : Bool} {wss : List (List Int)} (z at_ : Int) (F : List Int) : (uH fold wss z at_ F).length ≤ 400 * F.length := by
  unfold uH
  split
  · rename_i hr
    exact fdH_len hr z at_ F
  · simp
theorem uE_or {fold : Bool} {wss : List (List Int)} (z at_ : Int) (F : List Int) : uE fold wss z at_ F = 0 ∨ (uE fold wss z at_ F = 2 ∧ uH fold wss z at_ F = []) := by
  unfold uE uH fdE fdH
  by_cases hr : rightP fold wss = true
  · rw [if_pos hr, if_pos hr]
    by_cases ho : fdOK wss z at_ F = true
    · exact .inl (if_pos ho)
    · exact .inr ⟨if_neg ho, if_neg ho⟩
  · rw [if_neg hr, if_neg hr]
    exact .inr ⟨rfl, rfl⟩

structure Mach14 (W : World) (p : Value) (fold : Bool) (wss : List (List Int)) : Prop where
  right : ∀ V, Below W.heap.size W V → ∀ z at_ : Int, Calls Tryz.prog 57 #[p, scV z at_] V fun e w' => e = .returned (.bool (rightP fold wss && scanR (nodesL wss).length z at_)) ∧ Below V.heap.size V w'
  feed : ∀ V, Below W.heap.size W V → ∀ (z at_ : Int) (a : Option Addr) (n cn : Nat) (css : List (List Int)), Wds V a n css → n ≤ 1000000 → css.flatten.length ≤ 1000000 → FedOK V p z at_ a n cn (uZ fold wss z at_ css.flatten) (uA fold wss z at_ css.flatten) (uE fold wss z at_ css.flatten) (uH fold wss z at_ css.flatten)

theorem cnt_dist {l : List HitP} {n : Nat} (h : ∀ x ∈ l, 0 ≤ x.2 ∧ x.2 < (n : Int)) : distN (l.map (·.2)) = cntW (l.map (·.2)) n :=
  distN_count fun x hx => by
    obtain ⟨y, hy, rfl⟩ := List.mem_map.1 hx
    exact h y hy

theorem Mach14.count {W : World} {p : Value} {fold : Bool} {wss : List (List Int)} (h : Mach14 W p fold wss) {V : World} (hV : Below W.heap.size W V) (z at_ : Int) (a : Option Addr) (n cn : Nat) (css : List (List Int)) (hC : Wds V a n css) (hn : n ≤ 1000000) (hT : css.flatten.length ≤ 1000000) :
    Calls Tryz.prog 59 #[p, scV z at_, .slice a n cn] V fun e w' => e = .returned (.tuple #[.int .i64 ((uH fold wss z at_ css.flatten).length : Int), .int .i64 (cntW ((uH fold wss z at_ css.flatten).map (·.2)) wss.length : Int)]) ∧ Below V.heap.size V w' := by
  have hl := uH_len (fold := fold) (wss := wss) z at_ css.flatten
  refine (count14_run p z at_ a n cn _ _ _ _ V (h.feed V hV z at_ a n cn css hC hn hT) (by omega) (fun x hx => (uH_bd z at_ _ x hx).1) (by rcases uE_or (fold := fold) (wss := wss) z at_ css.flatten with h | h; exact .inl h; exact .inr h.1)).mono ?_
  rintro e w' ⟨rfl, hb⟩
  refine ⟨?_, hb⟩
  rw [cnt_dist (n := wss.length) (fun x hx => (uH_bd z at_ _ x hx).2)]
  rcases uE_or (fold := fold) (wss := wss) z at_ css.flatten with h | ⟨h, h2⟩
  · rw [if_pos h, if_pos h]
  · rw [h2, h]
    have e : cntW (([] : List HitP).map (·.2)) wss.length = 0 := by simp [cntW]
    rw [e]
    rfl

theorem Mach14.all {W : World} {p : Value} {fold : Bool} {wss : List (List Int)} (h : Mach14 W p fold wss) {V : World} (hV : Below W.heap.size W V) (frm : Int) (a : Option Addr) (n cn : Nat) (css : List (List Int)) (hC : Wds V a n css) (hn : n ≤ 1000000) (hT : css.flatten.length ≤ 1000000) :
    Calls Tryz.prog 63 #[p, .int .i64 frm, .slice a n cn] V fun e w' => ∃ v, e = .returned (.tuple #[v, .int .i64 (if newE frm = 0 then uE fold wss 0 (newA frm) css.flatten else 2)]) ∧ OwnH w' V.heap.size v (if newE frm = 0 then uH fold wss 0 (newA frm) css.flatten else []) ∧ Below V.heap.size V w' := by
  by_cases h0 : newE frm = 0
  · have h1 : newA frm = frm := by
      unfold newE at h0
      unfold newA
      split at h0
      · rename_i h; rw [if_pos h]
      · cases h0
    rw [h1]
    exact all14_run p frm a n cn _ _ _ _ V (fun _ => h.feed V hV 0 frm a n cn css hC hn hT)
  · refine (all14_run p frm a n cn 0 0 0 [] V (fun h1 => absurd h1 h0)).mono ?_
    rintro e w' ⟨v, rfl, ho, hb⟩
    rw [if_neg h0] at ho
    refine ⟨v, ?_, ?_, hb⟩
    · rw [if_neg h0, if_neg h0]
    · rw [if_neg h0]
      exact ho
theorem scan_fields : ((Tryz.prog.fieldsOf 88).toList.map fun f => (f.name, f.type, f.offset)) = [("Node", 3, 0), ("At", 3, 1)] := by kernel_rfl
theorem equalIn_scan (x y : Int × Int) (W : World) : (Op.equalIn 10000 88 (.agg #[.int .i64 x.1, .int .i64 x.2]) (.agg #[.int .i64 y.1, .int .i64 y.2])).run Tryz.prog W = .ok (decide (x = y)) W := by
  rw [run_equalIn_agg W 9999 88 _ _ (by kernel_rfl) (by kernel_rfl)]
  rw [eqFields_map 9999 _ _ _ [⟨ "Node", 3, 0, false, "", "", 0⟩, ⟨ "At", 3, 1, false, "", "", 0⟩] scan_fields]
  have h0 : ∀ W : World, (part 3 #[.int .i64 x.1, .int .i64 x.2] 0).run Tryz.prog W = .ok (.int .i64 x.1) W := fun W => by kernel_rfl
  have h1 : ∀ W : World, (part 3 #[.int .i64 x.1, .int .i64 x.2] 1).run Tryz.prog W = .ok (.int .i64 x.2) W := fun W => by kernel_rfl
  have g0 : ∀ W : World, (part 3 #[.int .i64 y.1, .int .i64 y.2] 0).run Tryz.prog W = .ok (.int .i64 y.1) W := fun W => by kernel_rfl
  have g1 : ∀ W : World, (part 3 #[.int .i64 y.1, .int .i64 y.2] 1).run Tryz.prog W = .ok (.int .i64 y.2) W := fun W => by kernel_rfl
  simp only [Op.eqFields, Sem.run_bind, Sem.run_ite, Sem.run_pure, h0, h1, g0, g1, Result.andThen_ok, run_equalIn_int _ _ _ _ _ _ _ Tryz.underlying3]
  obtain ⟨a, b⟩ := x
  obtain ⟨c, d⟩ := y
  by_cases e1 : a = c <;> by_cases e2 : b = d <;> simp [e1, e2]
theorem eql_scan (x y : Int × Int) (W : World) : (binOp .eql 88 (.agg #[.int .i64 x.1, .int .i64 x.2]) (.agg #[.int .i64 y.1, .int .i64 y.2])).run Tryz.prog W = .ok (.bool (decide (x = y))) W := by
  rw [run_eql_struct, equalIn_scan]
  rfl
end Go.Proofs.YtbiinfnekhhfkaaGreat

namespace Go.Proofs.YtbiinfnekhhfkaaGreat
open Go.RowKit Go.Sort
set_option linter.unusedVariables false
set_option linter.unusedSimpArgs false

theorem lsf_pre {N : List (List Int)} {M : Nat} (h0 : [] ∈ N) (hM : ∀ y ∈ N, y.length ≤ M) (p x : List Int) (hx : M ≤ x.length) : lsf N (p ++ x) = lsf N x := by
  rw [← lsf_drop h0 hM (p ++ x), ← lsf_drop h0 hM x, List.length_append, List.drop_append, List.drop_eq_nil_of_le (by omega), List.nil_append]
  congr 2
  omega
theorem sufW_pre {ws : List (List Int)} {M : Nat} (hM : ∀ y ∈ ws, y.length ≤ M) (x : List Int) (hx : M ≤ x.length) : ∀ p, sufW ws (p ++ x) = sufW ws x
  | [] => rfl
  | d :: p => by
    rw [List.cons_append, sufW_cons, if_neg, List.nil_append, sufW_pre hM x hx p]
    intro hm
    have := hM _ hm
    simp only [List.length_cons, List.length_append] at this
    omega
theorem goesH_pre {ws : List (List Int)} {M : Nat} (hM : ∀ y ∈ ws, y.length ≤ M) (p : List Int) : ∀ (b x : List Int) (at_ : Int), (p = [] ∨ M ≤ x.length + 1) → goesH ws (p ++ x) at_ b = goesH ws x at_ b
  | [], _, _, _ => rfl
  | c :: b, x, at_, h => by
    rcases h with rfl | h
    · rfl
    · show (sufW ws (p ++ x ++ [c])).map _ ++ goesH ws (p ++ x ++ [c]) (at_ + 1) b = (sufW ws (x ++ [c])).map _ ++ goesH ws (x ++ [c]) (at_ + 1) b
      rw [List.append_assoc, sufW_pre hM (x ++ [c]) (by simp; omega) p, goesH_pre hM p b (x ++ [c]) (at_ + 1) (.inr (by simp; omega))]
theorem goesH_ends {ws : List (List Int)} : ∀ (b x : List Int) (at_ : Int), ∀ h ∈ goesH ws x at_ b, at_ < h.1 ∧ h.1 ≤ at_ + b.length
  | [], _, _, h, hh => by cases hh
  | c :: b, x, at_, h, hh => by
    rcases List.mem_append.1 hh with h1 | h1
    · obtain ⟨v, _, rfl⟩ := List.mem_map.1 h1
      simp only [List.length_cons]
      omega
    · have := goesH_ends b _ _ h h1
      simp only [List.length_cons]
      omega
theorem betw_goes {ws : List (List Int)} (frm : Int) (A B : List Int) : betwH (frm + A.length) (frm + A.length + B.length) (goesH ws [] frm (A ++ B)) = goesH ws A (frm + A.length) B := by
  rw [goesH_append, List.nil_append]
  unfold betwH
  rw [List.filter_append, List.filter_eq_nil_iff.2, List.filter_eq_self.2, List.nil_append]
  · intro h hh
    have := goesH_ends B A _ h hh
    simp; omega
  · intro h hh
    have := goesH_ends A [] frm h hh
    simp; omega

theorem scanH_zero {fold : Bool} {wss : List (List Int)} (hr : rightP fold wss = true) (frm : Int) (F : List Int) : scanH fold wss 0 frm F = goesH wss [] frm (foldL fold F) :=
  scanH_goes (fun y hy => ((right_spec hr).2.2.1 y hy).1) F frm (nodesL_head wss)
theorem foldL_app (fold : Bool) (A B : List Int) : foldL fold (A ++ B) = foldL fold A ++ foldL fold B := by simp only [foldL_map, List.map_append]
theorem foldL_dr (fold : Bool) (A : List Int) (k : Nat) : foldL fold (A.drop k) = (foldL fold A).drop k := by simp only [foldL_map, List.map_drop]

theorem warm_law {fold : Bool} {wss : List (List Int)} (hr : rightP fold wss = true) {M : Nat} (hM : ∀ y ∈ wss, y.length ≤ M) (frm : Int) (A B : List Int) (k : Nat) (hk : k ≤ A.length) (hkm : k = 0 ∨ M ≤ A.length - k + 1) :
    betwH (frm + A.length) (frm + A.length + B.length) (scanH fold wss 0 frm (A ++ B)) = betwH (frm + A.length) (frm + A.length + B.length) (scanH fold wss 0 (frm + k) (A.drop k ++ B)) ∧
    (B.length ≠ 0 → feedZ fold wss 0 (A.drop k ++ B) = feedZ fold wss 0 (A ++ B)) := by
  have hl : ∀ X : List Int, (foldL fold X).length = X.length := fun X => by simp [foldL_map]
  have e1 : foldL fold A = (foldL fold A).take k ++ foldL fold (A.drop k) := by rw [foldL_dr, List.take_append_drop]
  have hd : (A.drop k).length = A.length - k := by simp
  have hpx : (foldL fold A).take k = [] ∨ M ≤ (foldL fold (A.drop k)).length + 1 := by
    rcases hkm with rfl | h
    · exact .inl rfl
    · right; rw [hl, hd]; exact h
  constructor
  · have g1 := betw_goes (ws := wss) frm (foldL fold A) (foldL fold B)
    have g2 := betw_goes (ws := wss) (frm + k) (foldL fold (A.drop k)) (foldL fold B)
    rw [hl, hl] at g1 g2
    rw [hd, show frm + (k : Int) + ((A.length - k : Nat) : Int) = frm + A.length by omega] at g2
    rw [scanH_zero hr, scanH_zero hr, foldL_app, foldL_app, g1, g2]
    conv => lhs; rw [e1]
    exact goesH_pre hM _ _ _ _ hpx
  · intro hb
    have hh := nodesL_head wss
    have f1 := feedZ_at (fold := fold) hh (A.drop k ++ B)
    have f2 := feedZ_at (fold := fold) hh (A ++ B)
    have h0 : [] ∈ nodesL wss := List.mem_of_getElem? hh
    have hN : ∀ y ∈ nodesL wss, y.length ≤ M := fun y hy => by
      rcases (mem_nodesL wss).1 hy with rfl | ⟨w, hw, n, _, hn, rfl⟩
      · simp
      · rw [List.length_take]
        have := hM w hw
        omega
    have e2 : lsf (nodesL wss) (foldL fold (A ++ B)) = lsf (nodesL wss) (foldL fold (A.drop k ++ B)) := by
      rw [foldL_app, foldL_app]
      conv => lhs; rw [e1]
      rcases hkm with rfl | h
      · rfl
      · rw [List.append_assoc]
        exact lsf_pre h0 hN _ _ (by rw [List.length_append, hl, hl, hd]; omega)
    rw [List.nil_append] at f1 f2
    rw [← e2] at f1
    exact nodup_at (nodesL_srt wss).nodup f1 f2
end Go.Proofs.YtbiinfnekhhfkaaGreat

namespace Go.Proofs.YtbiinfnekhhfkaaGreat
open Go.RowKit Go.Sort
set_option linter.unusedVariables false
set_option linter.unusedSimpArgs false

set_option maxRecDepth 100000 in
set_option maxHeartbeats 2000000 in
theorem rbetween6_h (low high : Int) (a : Option Addr) (la ca : Nat) (l : List HitP) (w : World) (hL : Hts w a la l) (hla : la ≤ 1000000000000) :
    Calls Tryz.prog 52 #[.int .i64 low, .int .i64 high, .slice a la ca] w fun e w' => ∃ v, e = .returned v ∧ OwnH w' w.heap.size v (betwH low high l) ∧ Below w.heap.size w w' := by
  obtain ⟨i0, hi, hz0, hz1, hz2⟩ := info_parts hit_info
  have HLN := Lib.hid hL.len
  go_enter Tryz.func52, Tryz.ntmps52
  go_wp2
  go_loopw [7, 8] (fun v i wr => ∃ k : Nat, k ≤ la ∧ i = .int .i64 k ∧ Below w.heap.size w wr ∧ OwnH wr w.heap.size v (betwH low high (l.take k))) (fun _ i _ => la - (intOf i).toNat)
  case atStart => exact ⟨0, Nat.zero_le _, rfl, Below.refl _ _, by simpa [OwnH, betwH, hcells] using World.ownsRow_nil w w.heap.size 61 2⟩
  case round =>
    obtain ⟨k, hk, rfl, hBe, hown⟩ := hrel
    by_cases hlt : k < la
    · obtain ⟨b, off, x, rfl, hbl, c0, c1, hx, hxb⟩ := (hL.below hBe).at_ hlt
      have HX := Lib.hid hx
      clear hx
      have hlen : (betwH low high (l.take k)).length ≤ k := by
        have h1 := List.length_filter_le (fun h : HitP => decide (low < h.1) && decide (h.1 ≤ high)) (l.take k)
        have h2 := List.length_take_le k l
        unfold betwH
        omega
      have HSN := Lib.hid (betwH_snoc low high (l.take k) x)
      have HTK := Lib.hid (take_step HX.out)
      by_cases h1 : low < x.1
      · by_cases h2 : x.1 ≤ high
        · obtain ⟨m, hm⟩ : ∃ m, (betwH low high (l.take k)).length = m := ⟨_, rfl⟩
          unfold OwnH at hown
          rw [hm] at hown hlen
          have HM := Lib.hid hm
          clear hm
          go_wp2_with (at_builtin; refine wpList_append_own _ rfl _ _ 45 rfl w.heap.size 61 i0 (.agg #[.int .i64 0, .int .i64 0]) 2 16 Tryz.underlying45 hi hz0 hz1 hz2 rfl (by decide) _ _ _ rfl (hown.alloc _) ⟨wr.heap.size, 0, none⟩ 1 1 [.int .i64 x.1, .int .i64 x.2] rfl rfl (cells_new _ _ (by simp)) (by simp [Value.oneCell']) (by unfold maxLen; omega) (by omega) (by have := hBe.size; simp; omega) ?_; intro v' w5 hown' hgrow hnil)
          have hB5 : Below w.heap.size w w5 := (hBe.alloc hBe.size _).grown hgrow (by have := hBe.size; simp; omega) (fun j hj => (hown.lt j hj).1)
          go_roundw
          case rel =>
            refine ⟨k + 1, by omega, by go_num, hB5, ?_⟩
            unfold OwnH
            rw [HTK.out, HSN.out, if_pos ⟨h1, h2⟩, List.length_append, HM.out, hcells_snoc]
            exact hown'
          case measure => simp [intOf]; omega
        · go_wp2
          go_roundw
          case rel =>
            refine ⟨k + 1, by omega, by go_num, hBe, ?_⟩
            rw [HTK.out, HSN.out, if_neg (by omega)]
            exact hown
          case measure => simp [intOf]; omega
      · go_wp2
        go_roundw
        case rel =>
          refine ⟨k + 1, by omega, by go_num, hBe, ?_⟩
          rw [HTK.out, HSN.out, if_neg (by omega)]
          exact hown
        case measure => simp [intOf]; omega
    · obtain rfl : k = la := by omega
      have HF : Hid (l.take k = l) := List.take_of_length_le (by rw [HLN.out]; exact Nat.le_refl _)
      rw [HF.out] at hown
      go_wp2
      go_ret
      exact ⟨_, rfl, hown, hBe⟩

end Go.Proofs.YtbiinfnekhhfkaaGreat

namespace Go.Proofs.YtbiinfnekhhfkaaGreat
open Go.RowKit Go.Sort
set_option linter.unusedVariables false
set_option linter.unusedSimpArgs false

theorem fd_scan {fold : Bool} {wss : List (List Int)} (hr : rightP fold wss = true) {at0 : Int} (h0 : 0 ≤ at0) {F : List Int} (h1 : at0 + F.length ≤ 4611686020574871551) :
    fdE wss 0 at0 F = 0 ∧ fdH fold wss 0 at0 F = scanH fold wss 0 at0 F ∧ fdZ fold wss 0 at0 F = (feedZ fold wss 0 F : Nat) ∧ fdA wss 0 at0 F = at0 + F.length := by
  have hp : 0 < (nodesL wss).length := (List.getElem?_eq_some_iff.1 (nodesL_head wss)).1
  have hok : fdOK wss 0 at0 F = true := by
    unfold fdOK scanR
    rw [decide_eq_true ⟨⟨Int.le_refl 0, by omega⟩, h0, by omega⟩, decide_eq_true h1]
    rfl
  exact ⟨if_pos hok, if_pos hok, if_pos hok, if_pos hok⟩

theorem betw_w (low high : Int) (a : Option Addr) (la ca n : Nat) (l D : List HitP) (w : World) (hL : Hts w a la l) (hla : la ≤ 1000000000000) (hD : betwH low high l = D) (hn : D.length = n) :
    Calls Tryz.prog 52 #[.int .i64 low, .int .i64 high, .slice a la ca] w fun e w' => ∃ (a1 : Option Addr) (c1 : Nat), e = .returned (.slice a1 n c1) ∧ Hts w' a1 n D ∧ Below w.heap.size w w' := by
  refine (rbetween6_h low high a la ca l w hL hla).mono ?_
  rintro e w' ⟨v, rfl, ho, hb⟩
  rw [hD] at ho
  obtain ⟨a1, c1, rfl, _, hs⟩ := ho.hts (fun h hh => by
    rw [← hD] at hh
    exact hL.2 h (by unfold betwH at hh; exact (List.mem_filter.1 hh).1))
  rw [hn] at hs ⊢
  exact ⟨a1, c1, rfl, hs, hb⟩

set_option maxRecDepth 100000 in
set_option maxHeartbeats 16000000 in
theorem streamWarm_walk (fold : Bool) (a : Option Addr) (la ca : Nat) (frm : Int) (x : Option Addr) (lx cx : Nat) (y : Option Addr) (ly cy : Nat) (wss : List (List Int)) (X Y : List Int) (w : World) (hA : Wds w a la wss) (hX : Bys w x lx X) (hcx : lx ≤ cx) (hY : Bys w y ly Y) (hcy : ly ≤ cy) :
    Calls Tryz.prog 14 #[.agg (setV fold a la ca), .int .i64 frm, .slice x lx cx, .slice y ly cy] w fun e w' => e = .returned (.bool true) ∧ Below w.heap.size w w' := by
  have HL := Lib.hid hA.len
  have HXL := Lib.hid hX.len
  have HYL := Lib.hid hY.len
  obtain ⟨W, hW⟩ : ∃ W, W = w.alloc (.cells (setV fold a la ca) 24) := ⟨_, rfl⟩
  have hB : Below w.heap.size w W := by rw [hW]; exact below_alloc _ _
  have hO : Bx w.heap.size [.cells (setV fold a la ca) 24] W := by rw [hW]; exact (Bx.nil _ w).snoc _ rfl
  have s0 : W.cell? ⟨w.heap.size, 0, none⟩ = some (.bool fold) := hO.cell (i := 0) rfl rfl
  have s1 : W.cell? ⟨w.heap.size, 1, none⟩ = some (.slice a la ca) := hO.cell (i := 0) rfl rfl
  have KS : Hid (∀ V, RowKit.Below W.heap.size W V → V.cell? ⟨w.heap.size, 0, none⟩ = some (.bool fold) ∧ V.cell? ⟨w.heap.size, 1, none⟩ = some (.slice a la ca)) := fun V hV =>
    have h := hO.below hV
    ⟨h.cell (i := 0) rfl rfl, h.cell (i := 0) rfl rfl⟩
  have hg := great5_any fold a la ca wss W (hA.below hB)
  obtain ⟨G, hG⟩ : ∃ G, greatP wss = G := ⟨_, rfl⟩
  rw [hG] at hg
  have HG := Lib.hid hg
  have HA := Lib.hid (hA.below hB)
  have HX := Lib.hid (hX.below hB)
  have HY := Lib.hid (hY.below hB)
  have HB := Lib.hid hB
  clear hg hA hX hY hB hO
  go_enter Tryz.func14, Tryz.ntmps14
  go_upto_region 1 with fail
  rw [← hW]
  clear hW
  go_wp2_with fail
  refine HG.out.mono ?_
  rintro e w1 ⟨rfl, hb1⟩
  clear s0 s1 HG
  cases G with
  | true =>
    go_wp2_with fail
    refine (wakes14 _).mono ?_
    rintro e w9 ⟨rfl, hb9⟩
    go_wp2
    go_ret
    exact ⟨rfl, HB.out.trans ((hb1.trans (hb9.mono hb1.size)).mono HB.out.size)⟩
  | false =>
    obtain ⟨g1, g2, g3⟩ := gr8_bd hG fold
    rw [HL.out] at g1
    by_cases hlx : lx ≤ 100
    case neg =>
      have d1 : decide ((100 : Int) < (lx : Int)) = true := by simp; omega
      have d1' : decide (100 < lx) = true := by simp; omega
      go_wp2_with fail
      refine (wakes14 _).mono ?_
      rintro e w9 ⟨rfl, hb9⟩
      go_wp2
      go_ret
      exact ⟨rfl, HB.out.trans ((hb1.trans (hb9.mono hb1.size)).mono HB.out.size)⟩
    have d1 : decide ((100 : Int) < (lx : Int)) = false := by simp; omega
    have d1' : decide (100 < lx) = false := by simp; omega
    by_cases hly : ly ≤ 100
    case neg =>
      have d2 : decide ((100 : Int) < (ly : Int)) = true := by simp; omega
      have d2' : decide (100 < ly) = true := by simp; omega
      go_wp2_with fail
      refine (wakes14 _).mono ?_
      rintro e w9 ⟨rfl, hb9⟩
      go_wp2
      go_ret
      exact ⟨rfl, HB.out.trans ((hb1.trans (hb9.mono hb1.size)).mono HB.out.size)⟩
    have d2 : decide ((100 : Int) < (ly : Int)) = false := by simp; omega
    have d2' : decide (100 < ly) = false := by simp; omega
    have hM : ∀ x ∈ wss, x.length ≤ 1000000 := fun x hx => by have := g2 x hx; omega
    have HM := Lib.hid hM
    have hR := rright_any fold a la ca wss w1 (HA.out.below hb1) (by omega) hM
    rw [← right_eq] at hR
    have HR := Lib.hid hR
    have HBG : Hid ((begL fold wss).length ≤ 1000000) := by rw [Hid]; omega
    have hla : la ≤ 80 := g1
    obtain ⟨s0, s1⟩ := KS.out w1 hb1
    clear hR hG g1 g2 g3 hM
    cases hr : rightP fold wss with
    | false =>
      rw [hr] at HR
      clear hr
      go_wp2_with fail
      refine HR.out.mono ?_
      rintro e w2 ⟨rfl, hb2⟩
      have hb12 := hb1.trans (hb2.mono hb1.size)
      clear s0 s1
      go_wp2_with fail
      refine (wakes14 _).mono ?_
      rintro e w9 ⟨rfl, hb9⟩
      go_wp2
      go_ret
      exact ⟨rfl, HB.out.trans ((hb12.trans (hb9.mono hb12.size)).mono HB.out.size)⟩
    | true =>
      rw [hr] at HR
      have HRT : Hid (rightP fold wss = true) := hr
      clear hr
      go_wp2_with fail
      refine HR.out.mono ?_
      rintro e w2 ⟨rfl, hb2⟩
      have hb12 := hb1.trans (hb2.mono hb1.size)
      clear s0 s1 HR hb1 hb2
      by_cases hf0 : frm < 0
      · have d3 : decide (frm < (0 : Int)) = true := by simp; omega
        go_wp2_with fail
        refine (wakes14 _).mono ?_
        rintro e w9 ⟨rfl, hb9⟩
        go_wp2
        go_ret
        exact ⟨rfl, HB.out.trans ((hb12.trans (hb9.mono hb12.size)).mono HB.out.size)⟩
      · by_cases hf1 : 4611686018427387904 < frm
        · have d3 : decide (frm < (0 : Int)) = false := by simp; omega
          have d4 : decide ((4611686018427387904 : Int) < frm) = true := by simp; omega
          go_wp2_with fail
          refine (wakes14 _).mono ?_
          rintro e w9 ⟨rfl, hb9⟩
          go_wp2
          go_ret
          exact ⟨rfl, HB.out.trans ((hb12.trans (hb9.mono hb12.size)).mono HB.out.size)⟩
        · have d3 : decide (frm < (0 : Int)) = false := by simp; omega
          have d4 : decide ((4611686018427387904 : Int) < frm) = false := by simp; omega
          have HM3 := Lib.hid (compile13_use fold a la ca wss w2 (HA.out.below hb12) (by omega) HM.out HBG.out HRT.out)
          obtain ⟨s0, s1⟩ := KS.out w2 hb12
          have hf0' : 0 ≤ frm := by omega
          have hf1' : frm ≤ 4611686018427387904 := by omega
          go_upto_region 4 with (go_at_call 17; refine HM3.out.mono ?_; rintro e w3 ⟨B, rfl, hU3⟩)
          clear s0 s1 HM3 d1 d1' d2 d2' d3 d4 hf0 hf1
          have hb13 := hb12.trans (hU3.bel.mono hb12.size)
          have KU : Hid (∀ V, RowKit.Below w3.heap.size w3 V → MUse w2 B fold wss V ∧ Bys V x lx X ∧ Bys V y ly Y ∧ (V.cell? ⟨w.heap.size, 0, none⟩ = some (.bool fold) ∧ V.cell? ⟨w.heap.size, 1, none⟩ = some (.slice a la ca)) ∧ Wds V a la wss ∧ RowKit.Below W.heap.size W V) := fun V hV => by
            have h := hb13.trans (hV.mono hb13.size)
            exact ⟨hU3.below hV, HX.out.below h, HY.out.below h, KS.out V h, HA.out.below h, h⟩
          clear hU3 hb12 hb13 HX HY HA KS HBG
          have b3 : RowKit.Below w3.heap.size w3 w3 := Below.refl _ _
          obtain ⟨M, hML, hMb, hMle⟩ := longL_spec wss
          have hM32 : M ≤ 32 := hMle 32 (fun v hv => ((right_spec HRT.out).2.2.1 v hv).2)
          have hM1 : 1 ≤ M := by
            obtain ⟨_, h2, h3, _⟩ := right_spec HRT.out
            obtain ⟨v, hv⟩ := List.exists_mem_of_ne_nil _ h2
            have := (h3 v hv).1
            have := hMb v hv
            omega
          obtain ⟨k, hkd⟩ : ∃ k : Nat, k = lx - M + 1 - (if lx < M then 1 else 0) := ⟨_, rfl⟩
          have hk : max ((lx : Int) - (M : Int) + 1) 0 = (k : Int) := by rw [hkd]; split <;> omega
          have hkl : k ≤ lx := by rw [hkd]; split <;> omega
          have hkm : k = 0 ∨ M ≤ lx - k + 1 := by rw [hkd]; split <;> omega
          have hX3 := (KU.out w3 b3).2.1
          have hY3 := (KU.out w3 b3).2.2.1
          have eX : X.length = lx := HXL.out
          have eY : Y.length = ly := HYL.out
          have hfl : (X.drop k).length = lx - k := by rw [List.length_drop, eX]
          obtain ⟨wa1, wa2⟩ := warm_law HRT.out hMb frm X Y k (by rw [eX]; exact hkl) (by rw [eX]; exact hkm)
          rw [eX, eY] at wa1
          rw [eY] at wa2
          obtain ⟨p1, p2, p3, p4⟩ := fd_scan (F := X ++ Y) HRT.out hf0' (by rw [List.length_append, eX, eY]; omega)
          obtain ⟨r1, r2, r3, r4⟩ := fd_scan (F := X.drop k ++ Y) (at0 := frm + k) HRT.out (by omega) (by rw [List.length_append, hfl, eY]; omega)
          rw [List.length_append, eX, eY] at p4
          rw [List.length_append, hfl, eY] at r4
          have q1 : newE frm = 0 := if_pos ⟨hf0', hf1'⟩
          have hB1 : ∀ h ∈ scanH fold wss 0 frm (X ++ Y), I64 h.1 ∧ I64 h.2 := fun h hh => by rw [← p2] at hh; exact (fdH_bd HRT.out 0 frm _ h hh).1
          have hB2 : ∀ h ∈ scanH fold wss 0 (frm + k) (X.drop k ++ Y), I64 h.1 ∧ I64 h.2 := fun h hh => by rw [← r2] at hh; exact (fdH_bd HRT.out 0 (frm + k) _ h hh).1
          have hl1 : (scanH fold wss 0 frm (X ++ Y)).length ≤ 80000 := by
            have h := fdH_len HRT.out 0 frm (X ++ Y)
            rw [p2, List.length_append, eX, eY] at h
            omega
          have hl2 : (scanH fold wss 0 (frm + k) (X.drop k ++ Y)).length ≤ 80000 := by
            have h := fdH_len HRT.out 0 (frm + k) (X.drop k ++ Y)
            rw [r2, List.length_append, hfl, eY] at h
            omega
          have row : ∀ (V : World) (x' : Option Addr) (l' c' : Nat) (X' : List Int), RowKit.Below w3.heap.size w3 V → Bys V x' l' X' → l' ≤ c' → Wds (V.alloc (.cells #[.slice x' l' c', .slice y ly cy] 25)) (some ⟨V.heap.size, 0, none⟩) 2 [X', Y] ∧ RowKit.Below V.heap.size V (V.alloc (.cells #[.slice x' l' c', .slice y ly cy] 25)) := fun V x' l' c' X' hV hx hc => by
            have hb := below_alloc V (.cells #[.slice x' l' c', .slice y ly cy] 25)
            exact ⟨wds2 (v1 := (x', l', c')) (v2 := (y, ly, cy)) (Sl1.lay (α := Option Addr × Nat × Nat) _ V [(x', l', c'), (y, ly, cy)] _ _ rfl) (hx.below hb) ((KU.out V hV).2.2.1.below hb) hc hcy, hb⟩
          have ROW := Lib.hid row
          have e2 : ∀ Z : List Int, ([Z, Y] : List (List Int)).flatten = Z ++ Y := fun Z => by simp
          have KAL : Hid (∀ (V : World) (x' : Option Addr) (l' c' : Nat) (X' : List Int) (at0 : Int), RowKit.Below w3.heap.size w3 V → Bys V x' l' X' → l' ≤ c' → (X' ++ Y).length ≤ 200 → 0 ≤ at0 → at0 + (X' ++ Y).length ≤ 4611686018427388104 →
              Calls Tryz.prog 55 #[.pointer (some ⟨B, 0, none⟩), scV 0 at0, .slice (some ⟨V.heap.size, 0, none⟩) 2 2] (V.alloc (.cells #[.slice x' l' c', .slice y ly cy] 25)) fun e w' => ∃ (a1 : Option Addr) (c1 : Nat), e = .returned (.tuple #[scV (feedZ fold wss 0 (X' ++ Y) : Nat) (at0 + (X' ++ Y).length), .slice a1 (scanH fold wss 0 at0 (X' ++ Y)).length c1, .int .i64 0]) ∧
                Hts w' a1 (scanH fold wss 0 at0 (X' ++ Y)).length (scanH fold wss 0 at0 (X' ++ Y)) ∧ RowKit.Below V.heap.size V w') := fun V x' l' c' X' at0 hV hx hc hl h0 h1 => by
            obtain ⟨g1, g2⟩ := ROW.out V x' l' c' X' hV hx hc
            have h := feed14_w ((KU.out V hV).1.below g2) HRT.out 0 at0 _ 2 2 [X', Y] g1 (by decide) (by rw [e2]; omega)
            obtain ⟨r1, r2, r3, r4⟩ := fd_scan (F := X' ++ Y) HRT.out h0 (by omega)
            rw [e2, r1, r2, r3, r4] at h
            refine h.mono ?_
            rintro e w' ⟨a1, c1, rfl, _, h2, _, h3⟩
            exact ⟨a1, c1, rfl, h2, g2.trans (h3.mono g2.size)⟩
          have H5 : Hid (Calls Tryz.prog 63 #[.pointer (some ⟨B, 0, none⟩), .int .i64 frm, .slice (some ⟨w3.heap.size, 0, none⟩) 2 2] (w3.alloc (.cells #[.slice x lx cx, .slice y ly cy] 25)) fun e w' => ∃ (a1 : Option Addr) (c1 : Nat), e = .returned (.tuple #[.slice a1 (scanH fold wss 0 frm (X ++ Y)).length c1, .int .i64 0]) ∧
                Hts w' a1 (scanH fold wss 0 frm (X ++ Y)).length (scanH fold wss 0 frm (X ++ Y)) ∧ RowKit.Below w3.heap.size w3 w') := by
            obtain ⟨g1, g2⟩ := ROW.out w3 x lx cx X b3 hX3 hcx
            have h := all14_w ((KU.out w3 b3).1.below g2) HRT.out frm _ 2 2 [X, Y] g1 (by decide) (by rw [e2, List.length_append]; omega)
            rw [if_pos q1, if_pos q1, e2, p1, p2] at h
            refine h.mono ?_
            rintro e w' ⟨v, rfl, ho, h3⟩
            obtain ⟨a1, c1, rfl, _, hs⟩ := ho.hts hB1
            exact ⟨a1, c1, rfl, hs, g2.trans (h3.mono g2.size)⟩
          have HLO := Lib.hid (fun (V : World) (hV : RowKit.Below w3.heap.size w3 V) => longest_any fold a la ca wss V (KU.out V hV).2.2.2.2.1 (by omega))
          rw [hML] at HLO
          obtain ⟨L1, hL1⟩ : ∃ T, scanH fold wss 0 frm (X ++ Y) = T := ⟨_, rfl⟩
          rw [hL1] at H5 wa1 hB1 hl1
          obtain ⟨n1, hn1⟩ : ∃ T, L1.length = T := ⟨_, rfl⟩
          rw [hn1] at H5 hl1
          have hn1' := Lib.hid hn1
          clear hn1
          have W1 := Lib.hid wa1
          have W2 := Lib.hid wa2
          have HL1 := Lib.hid hL1
          clear wa1 wa2 p1 p2 p3 p4 r1 r2 r3 r4 q1 hB1 hB2 e2 row hML hMb hMle hL1 hfl eX eY
          go_upto_region 6 with (go_at_call 63; refine H5.out.mono ?_; rintro e w4 ⟨a4, c4, rfl, hs4, b4⟩)
          have H6 := Lib.hid (HLO.out w4 b4)
          obtain ⟨s0, s1⟩ := (KU.out w4 b4).2.2.2.1
          have HS4 := Lib.hid hs4
          have HX3 := Lib.hid hX3
          clear H5 HLO hs4 hX3 hY3 hkm hkd
          go_upto_region 7 with (go_at_call 32; refine H6.out.mono ?_; rintro e w5 ⟨rfl, hb5⟩)
          clear H6 s0 s1
          have hWm := HX3.out.rest hkl hcx
          obtain ⟨bs, hbs⟩ : ∃ t, (if cx = k then x else Option.map (fun x => x.add k) x) = t := ⟨_, rfl⟩
          rw [hbs] at hWm ⊢
          have hmk : (lx - k) + k = lx := by omega
          have hmc : lx - k ≤ cx - k := by omega
          obtain ⟨m, hm⟩ : ∃ t, lx - k = t := ⟨_, rfl⟩
          obtain ⟨cm, hcm⟩ : ∃ t, cx - k = t := ⟨_, rfl⟩
          rw [hm] at hWm hmk hmc ⊢
          rw [hcm] at hmc ⊢
          have b5 := b4.trans (hb5.mono b4.size)
          have eX : X.length = lx := HXL.out
          have eY : Y.length = ly := HYL.out
          have eW : (X.drop k).length = m := by rw [List.length_drop, eX]; omega
          have eK : frm + (lx : Int) - (m : Int) = frm + (k : Int) := by omega
          have hw1 := W1.out
          have hw2 := W2.out
          rw [← eK] at hw1 hl2
          obtain ⟨L2, hL2⟩ : ∃ T, scanH fold wss 0 (frm + (lx : Int) - (m : Int)) (X.drop k ++ Y) = T := ⟨_, rfl⟩
          obtain ⟨Z2, hZ2⟩ : ∃ T : Int, ((feedZ fold wss 0 (X.drop k ++ Y) : Nat) : Int) = T := ⟨_, rfl⟩
          obtain ⟨Z1, hZ1⟩ : ∃ T : Int, ((feedZ fold wss 0 (X ++ Y) : Nat) : Int) = T := ⟨_, rfl⟩
          rw [hL2] at hw1 hl2
          obtain ⟨n2, hn2⟩ : ∃ T, L2.length = T := ⟨_, rfl⟩
          rw [hn2] at hl2
          have HZZ : Hid (ly ≠ 0 → Z2 = Z1) := fun h => by rw [← hZ2, ← hZ1, hw2 h]
          have H7 : Hid (Calls Tryz.prog 55 #[.pointer (some ⟨B, 0, none⟩), .agg #[.int .i64 0, .int .i64 (frm + (lx : Int) - (m : Int))], .slice (some ⟨w5.heap.size, 0, none⟩) 2 2] (w5.alloc (.cells #[.slice bs m cm, .slice y ly cy] 25)) fun e w' => ∃ (a1 : Option Addr) (c1 : Nat), e = .returned (.tuple #[.agg #[.int .i64 Z2, .int .i64 (frm + (lx : Int) + (ly : Int))], .slice a1 n2 c1, .int .i64 0]) ∧ Hts w' a1 n2 L2 ∧ RowKit.Below w5.heap.size w5 w') := by
            have h := KAL.out w5 bs m cm (X.drop k) (frm + (lx : Int) - (m : Int)) b5 (hWm.below b5) hmc (by rw [List.length_append, eW, eY]; omega) (by omega) (by rw [List.length_append, eW, eY]; omega)
            rw [hL2, hn2, hZ2, List.length_append, eW, eY, show frm + (lx : Int) - (m : Int) + ((m + ly : Nat) : Int) = frm + (lx : Int) + (ly : Int) by omega] at h
            exact h
          have K8 : Hid (∀ V, RowKit.Below w3.heap.size w3 V → Calls Tryz.prog 55 #[.pointer (some ⟨B, 0, none⟩), .agg #[.int .i64 0, .int .i64 frm], .slice (some ⟨V.heap.size, 0, none⟩) 2 2] (V.alloc (.cells #[.slice x lx cx, .slice y ly cy] 25)) fun e w' => ∃ (a1 : Option Addr) (c1 : Nat), e = .returned (.tuple #[.agg #[.int .i64 Z1, .int .i64 (frm + (lx : Int) + (ly : Int))], .slice a1 n1 c1, .int .i64 0]) ∧ RowKit.Below V.heap.size V w') := fun V hV => by
            have h := KAL.out V x lx cx X frm hV (KU.out V hV).2.1 hcx (by rw [List.length_append, eX, eY]; omega) hf0' (by rw [List.length_append, eX, eY]; omega)
            rw [HL1.out, hn1'.out, hZ1, List.length_append, eX, eY, show frm + ((lx + ly : Nat) : Int) = frm + (lx : Int) + (ly : Int) by omega] at h
            exact h.mono fun e w' ⟨a1, c1, h1, _, h2⟩ => ⟨a1, c1, h1, h2⟩
          obtain ⟨D, hD⟩ : ∃ T, betwH (frm + lx) (frm + lx + ly) L1 = T := ⟨_, rfl⟩
          rw [hD] at hw1
          obtain ⟨nd, hnd⟩ : ∃ T, D.length = T := ⟨_, rfl⟩
          have hndl : nd ≤ 80000 := by
            have h : D.length ≤ L1.length := by rw [← hD]; unfold betwH; exact List.length_filter_le _ _
            rw [hnd, hn1'.out] at h
            omega
          have KB1 : Hid (∀ (V : World) (a' : Option Addr) (c' : Nat), Hts V a' n1 L1 → Calls Tryz.prog 52 #[.int .i64 (frm + (lx : Int)), .int .i64 (frm + (lx : Int) + (ly : Int)), .slice a' n1 c'] V fun e w' => ∃ (a1 : Option Addr) (c1 : Nat), e = .returned (.slice a1 nd c1) ∧ Hts w' a1 nd D ∧ RowKit.Below V.heap.size V w') := fun V a' c' h => betw_w _ _ a' n1 c' nd L1 D V h (by omega) hD hnd
          have KB2 : Hid (∀ (V : World) (a' : Option Addr) (c' : Nat), Hts V a' n2 L2 → Calls Tryz.prog 52 #[.int .i64 (frm + (lx : Int)), .int .i64 (frm + (lx : Int) + (ly : Int)), .slice a' n2 c'] V fun e w' => ∃ (a1 : Option Addr) (c1 : Nat), e = .returned (.slice a1 nd c1) ∧ Hts w' a1 nd D ∧ RowKit.Below V.heap.size V w') := fun V a' c' h => betw_w _ _ a' n2 c' nd L2 D V h (by omega) hw1.symm hnd
          have HB5 := Lib.hid b5
          have HS5 := Lib.hid (HS4.out.below hb5)
          clear hbs hm hcm eX eY eW eK hw1 hw2 hL2 hZ2 hZ1 hn2 hD hnd hWm b4 hb5 b5 KAL ROW HX3 W1 W2 HL1 hn1' HS4 hk b3
          go_upto_region 8 with (go_at_call 55; refine H7.out.mono ?_; rintro e u7 ⟨a16, c16, rfl, hs16, hb7⟩)
          obtain ⟨V7, hV⟩ : ∃ X, X = u7.alloc (.cells #[.int .i64 Z2, .int .i64 (frm + (lx : Int) + (ly : Int))] 88) := ⟨_, rfl⟩
          have hbb : RowKit.Below u7.heap.size u7 V7 := by rw [hV]; exact below_alloc _ _
          have hBX : V7.heap[u7.heap.size]? = some (.cells #[.int .i64 Z2, .int .i64 (frm + (lx : Int) + (ly : Int))] 88 (0, 0)) := by rw [hV]; exact World.alloc_heap_new _ _
          rw [← hV]
          have HS16 := Lib.hid (hs16.below hbb)
          have hb57 := hb7.trans (hbb.mono hb7.size)
          obtain ⟨x15, hx⟩ : ∃ b, u7.heap.size = b := ⟨_, rfl⟩
          rw [hx] at hBX ⊢
          have X15 : Hid (∀ V, RowKit.Below V7.heap.size V7 V → V.cell? ⟨x15, 0, none⟩ = some (.int .i64 Z2) ∧ V.cell? ⟨x15, 1, none⟩ = some (.int .i64 (frm + (lx : Int) + (ly : Int)))) := fun V hV => by
            have h := (hV.block x15 (Array.getElem?_eq_some_iff.1 hBX).1).trans hBX
            exact ⟨by simp [World.cell?, h], by simp [World.cell?, h]⟩
          have HB7 := Lib.hid (HB5.out.trans (hb57.mono HB5.out.size))
          have HS7 := Lib.hid (HS5.out.below hb57)
          clear hV hbb hBX hx hb7 hb57 hs16 H7 HB5 HS5
          have H8 := Lib.hid (K8.out V7 HB7.out)
          clear K8
          go_upto_region 9 with (go_at_call 55; refine H8.out.mono ?_; rintro e u8 ⟨a19, c19, rfl, hb8⟩)
          obtain ⟨V8, hV⟩ : ∃ X, X = u8.alloc (.cells #[.int .i64 Z1, .int .i64 (frm + (lx : Int) + (ly : Int))] 88) := ⟨_, rfl⟩
          have hbb : RowKit.Below u8.heap.size u8 V8 := by rw [hV]; exact below_alloc _ _
          have hBX : V8.heap[u8.heap.size]? = some (.cells #[.int .i64 Z1, .int .i64 (frm + (lx : Int) + (ly : Int))] 88 (0, 0)) := by rw [hV]; exact World.alloc_heap_new _ _
          rw [← hV]
          have hb78 := hb8.trans (hbb.mono hb8.size)
          obtain ⟨x18, hx⟩ : ∃ b, u8.heap.size = b := ⟨_, rfl⟩
          rw [hx] at hBX ⊢
          have X18 : Hid (∀ V, RowKit.Below V8.heap.size V8 V → (V.cell? ⟨x18, 0, none⟩ = some (.int .i64 Z1) ∧ V.cell? ⟨x18, 1, none⟩ = some (.int .i64 (frm + (lx : Int) + (ly : Int)))) ∧ V.cell? ⟨x15, 0, none⟩ = some (.int .i64 Z2) ∧ V.cell? ⟨x15, 1, none⟩ = some (.int .i64 (frm + (lx : Int) + (ly : Int)))) := fun V hV => by
            have h := (hV.block x18 (Array.getElem?_eq_some_iff.1 hBX).1).trans hBX
            exact ⟨⟨by simp [World.cell?, h], by simp [World.cell?, h]⟩, X15.out V (hb78.trans (hV.mono hb78.size))⟩
          have HB8 : Hid (∀ V, RowKit.Below V8.heap.size V8 V → RowKit.Below w.heap.size w V ∧ Hts V a16 n2 L2 ∧ Hts V a4 n1 L1) := fun V hV => by
            have h := hb78.trans (hV.mono hb78.size)
            have h2 := (KU.out V (HB7.out.trans (h.mono HB7.out.size))).2.2.2.2.2
            exact ⟨HB.out.trans (h2.mono HB.out.size), HS16.out.below h, HS7.out.below h⟩
          clear hV hbb hBX hx hb8 hb78 X15 HB7 HS7 HS16 H8 KU
          obtain ⟨⟨q0, q1⟩, q2, q3⟩ := X18.out V8 (Below.refl _ _)
          go_upto_region 11 with fail
          clear q0 q1 q2 q3
          have H9 := Lib.hid (KB2.out V8 a16 c16 (HB8.out V8 (Below.refl _ _)).2.1)
          go_wp2_with fail
          refine H9.out.mono ?_
          rintro e u9 ⟨a20, c20, rfl, hs20, hb9⟩
          have H10 := Lib.hid (KB1.out u9 a4 c4 (HB8.out u9 hb9).2.2)
          clear H9
          go_wp2_with fail
          refine H10.out.mono ?_
          rintro e u10 ⟨a21, c21, rfl, hs21, hb10⟩
          have hb810 := hb9.trans (hb10.mono hb9.size)
          have H11 := Lib.hid (rsame6_any a20 a21 nd c20 nd c21 D D u10 (hs20.below hb10) hs21 (by omega))
          rw [decide_eq_true rfl] at H11
          clear H10 hs20 hs21 hb9 hb10 KB1 KB2
          go_wp2_with fail
          refine H11.out.mono ?_
          rintro e u11 ⟨rfl, hb11⟩
          have h811 := hb810.trans (hb11.mono hb810.size)
          clear H11 hb11 hb810
          obtain ⟨⟨q0, q1⟩, q2, q3⟩ := X18.out u11 h811
          by_cases h0 : ly = 0
          · have d1 : decide ((ly : Int) = 0) = true := by simp; omega
            have d1' : decide (ly = 0) = true := by simp; omega
            go_wp2_with fail
            refine (wakes14 _).mono ?_
            rintro e u12 ⟨rfl, hb12⟩
            go_wp2
            go_ret
            exact ⟨rfl, (HB8.out u12 (h811.trans (hb12.mono h811.size))).1⟩
          · have d1 : decide ((ly : Int) = 0) = false := by simp; omega
            have d1' : decide (ly = 0) = false := by simp; omega
            obtain rfl := HZZ.out h0
            have kz : ∀ W, (binOp .eql 88 (.agg #[.int .i64 Z2, .int .i64 (frm + (lx : Int) + (ly : Int))]) (.agg #[.int .i64 Z2, .int .i64 (frm + (lx : Int) + (ly : Int))])).run Tryz.prog W = .ok (.bool true) W := fun W => by have h := eql_scan (Z2, frm + (lx : Int) + (ly : Int)) (Z2, frm + (lx : Int) + (ly : Int)) W; rw [decide_eq_true rfl] at h; exact h
            clear HZZ
            go_wp2_with fail
            refine (wakes14 _).mono ?_
            rintro e u12 ⟨rfl, hb12⟩
            go_wp2
            go_ret
            exact ⟨rfl, (HB8.out u12 (h811.trans (hb12.mono h811.size))).1⟩
end Go.Proofs.YtbiinfnekhhfkaaGreat
