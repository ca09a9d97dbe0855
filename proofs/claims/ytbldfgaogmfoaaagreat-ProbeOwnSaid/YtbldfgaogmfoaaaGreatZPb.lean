/- What the law's walk takes besides: Op, Fs, O4, Oq, EH, QH, QI, R3, QJ. -/
import Derived.Deep.Matrix
import Derived.Lib.MinMax
import Derived.Test.YtbldfgaogmfoaaaGreatZP1
import Derived.Test.YtbldfgaogmfoaaaGreatZP2
import Derived.Test.YtbldfgaogmfoaaaGreatZP3
import Derived.Test.YtbldfgaogmfoaaaGreatZP4
import Derived.Test.YtbldfgaogmfoaaaGreatZP5
import Derived.Test.YtbldfgaogmfoaaaGreatZP6
import Derived.Test.YtbldfgaogmfoaaaGreatZP7
import Derived.Test.YtbldfgaogmfoaaaGreatZP8
import Derived.Test.YtbldfgaogmfoaaaGreatZP9
import Derived.Test.YtbldfgaogmfoaaaGreatZP10
import Derived.Test.YtbldfgaogmfoaaaGreatZP11
import Derived.Test.YtbldfgaogmfoaaaGreatZP12
import Derived.Test.YtbldfgaogmfoaaaGreatZP13
import Derived.Test.YtbldfgaogmfoaaaGreatZP14
import Derived.Test.YtbldfgaogmfoaaaGreatZP15
import Derived.Test.YtbldfgaogmfoaaaGreatZP16
import Derived.Test.YtbldfgaogmfoaaaGreatZP17
import Derived.Test.YtbldfgaogmfoaaaGreatZP18
set_option linter.unusedVariables false
set_option linter.unusedSimpArgs false

namespace Go.Proofs.YtbldfgaogmfoaaaGreat

/-- Rising, one behind the other. -/
def riseH (wss : List (List Int)) : List HitP → Bool
 | [] => true
 | [_] => true
 | a :: b :: l => lessH wss a b && riseH wss (b :: l)
theorem riseH_pairwise {wss : List (List Int)} : ∀ {l : List HitP}, riseH wss l = true ↔ l.Pairwise (fun a b => lessH wss a b = true)
 | [] => by simp [riseH]
 | [a] => by simp [riseH]
 | a :: b :: l => by
  have ih := riseH_pairwise (wss := wss) (l := b :: l)
  simp only [riseH, Bool.and_eq_true, ih]
  rw [List.pairwise_cons (a := a)]
  constructor
  ·
   rintro ⟨h1, h2⟩
   refine ⟨fun x hx => ?_, h2⟩
   rcases List.mem_cons.1 hx with rfl | hx
   · exact h1
   · exact lessH_trans h1 ((List.pairwise_cons.1 h2).1 x hx)
  ·
   rintro ⟨h1, h2⟩
   exact ⟨h1 b (by simp), h2⟩
theorem occTo_rises (fold : Bool) (wss : List (List Int)) (frm : Int) (text : List Int) : ∀ n, (occTo fold wss frm text n).Pairwise (fun a b => lessH wss a b = true)
 | 0 => by simp [occTo]
 | n + 1 => by
  rw [occTo_succ, List.pairwise_append]
  refine ⟨occTo_rises fold wss frm text n, hereD_rises _ _ _ _ _ _, fun a ha b hb => ?_⟩
  obtain ⟨p, k, h1, h2, h3, rfl⟩ := mem_occTo.1 ha
  obtain ⟨j, g1, g2, rfl⟩ := mem_hereD.1 hb
  exact lessH_iff.2 (.inl (by dsimp only; omega))
/-- Hits between two places. -/
def betwH (low high : Int) (l : List HitP) : List HitP := l.filter fun h => decide (low < h.1) && decide (h.1 ≤ high)
theorem betwH_snoc (low high : Int) (l : List HitP) (x : HitP) : betwH low high (l ++ [x]) = if low < x.1 ∧ x.1 ≤ high then betwH low high l ++ [x] else betwH low high l := by
 unfold betwH
 rw [List.filter_append]
 by_cases h : low < x.1 ∧ x.1 ≤ high
 · simp [h]
 ·
  rw [if_neg h]
  have : (decide (low < x.1) && decide (x.1 ≤ high)) = false := by simp; omega
  simp [this]
/-- A hit stands in a text. -/
def standsH (fold : Bool) (wss : List (List Int)) (frm : Int) (text : List Int) (h : HitP) : Bool :=
 decide (0 ≤ h.2 ∧ h.2 < wss.length ∧ frm ≤ h.1 ∧ h.1 - frm ≤ text.length) && stands fold wss text (h.1 - frm).toNat h.2.toNat

end Go.Proofs.YtbldfgaogmfoaaaGreat

namespace Go.Proofs.YtbldfgaogmfoaaaGreat
open Go.ChangeShapes Go.WideShapes Go.ChangeAt Go.RowKit Go.Joins Go.Deep
set_option maxRecDepth 100000

section
variable {H : Type} {enc : TypeId × Value → H} {W : World} {r : Reach} {base : Nat} {d : DataW H} {p : List MemPlace} {v : Value}

theorem open_sl_u8 (hv : Value.okWide Tryz.prog W r base 25 v) (h : DataW.Trod enc Tryz.prog W 0 (fun _ => true) true 25 v d p) :
  ∃ (a : Option Addr) (len cap : Nat) (zs : List Int), v = .slice a len cap ∧ Bys W a len zs ∧ len ≤ cap ∧ cap ≤ maxLen := by
 obtain ⟨a, len, cap, rfl⟩ := okWide_slice Tryz.underlying25 hv
 obtain ⟨fuel, hf⟩ := h
 rcases open_ints Tryz.underlying25 Tryz.underlying5 (by kernel_rfl) hf with ⟨hcs, _⟩ | ⟨x, l, c, zs, hcs, _, hl, hm, hz, _, hcell, hwz⟩
 ·
  simp [Value.cells] at hcs
  obtain ⟨rfl, rfl, rfl⟩ := hcs
  exact ⟨none, 0, 0, [], rfl, Bys.nil _ _, Nat.le_refl _, by unfold maxLen; omega⟩
 ·
  simp [Value.cells] at hcs
  obtain ⟨rfl, rfl, rfl⟩ := hcs
  have hz' : zs.length = cap := by simpa using hz
  refine ⟨_, len, _, zs.take len, rfl, ⟨⟨by simp; omega, ?_⟩, fun n hn => wf_u8 (hwz n (List.mem_of_mem_take hn))⟩, hl, hm⟩
  by_cases h0 : len = 0
  · exact .inl h0
  ·
   right
   obtain ⟨b, off, spot⟩ := x
   have hc := hcell 0 (by omega)
   obtain rfl : spot = none := by simpa [Addr.add] using World.cell?_spot hc
   refine ⟨b, off, rfl, ?_, fun i u hu => ?_⟩
   ·
    have := World.block_lt_of_cell? W _ hc
    rwa [add_plain] at this
   ·
    have hi : i < len := by have := (List.getElem?_eq_some_iff.1 hu).1; simp at this; omega
    have h1 := hcell i (by omega)
    rw [add_plain] at h1
    rw [h1]
    rw [List.getElem?_take, if_pos hi] at hu
    simp [hu]

end

end Go.Proofs.YtbldfgaogmfoaaaGreat

namespace Go.Proofs.YtbldfgaogmfoaaaGreat
open Go.RowKit Go.Sort

theorem riseH_snoc {wss : List (List Int)} {l : List HitP} {x y : HitP} (h : l.getLast? = some x) : riseH wss (l ++ [y]) = (riseH wss l && lessH wss x y) := by
 induction l with
 | nil => simp at h
 | cons a l ih =>
  cases l with
  | nil =>
   simp at h
   subst h
   simp [riseH]
  | cons b l =>
   have := ih (by simpa using h)
   rw [List.cons_append, List.cons_append]
   simp only [riseH]
   rw [← List.cons_append, this, Bool.and_assoc]
theorem riseH_take {wss : List (List Int)} {l : List HitP} {k : Nat} {x y : HitP} (hx : l[k]? = some x) (hy : l[k + 1]? = some y) : riseH wss (l.take (k + 2)) = (riseH wss (l.take (k + 1)) && lessH wss x y) := by
 rw [take_step (k := k + 1) hy, riseH_snoc]
 rw [take_step hx]
 simp
theorem riseH_no {wss : List (List Int)} {l : List HitP} {k : Nat} (h : riseH wss (l.take k) = false) : riseH wss l = false := by
 cases e : riseH wss l with
 | false => rfl
 | true =>
  have := riseH_pairwise.1 e
  have h2 : riseH wss (l.take k) = true := riseH_pairwise.2 (this.sublist (List.take_sublist _ _))
  rw [h] at h2
  cases h2

end Go.Proofs.YtbldfgaogmfoaaaGreat

namespace Go.Proofs.YtbldfgaogmfoaaaGreat

theorem occD_mem {fold : Bool} {wss : List (List Int)} {frm : Int} {text : List Int} {h : HitP} (hm : h ∈ occD fold wss frm text) : standsH fold wss frm text h = true ∧ frm ≤ h.1 ∧ h.1 ≤ frm + text.length ∧ 0 ≤ h.2 ∧ h.2 < wss.length := by
 obtain ⟨p, k, h1, h2, h3, rfl⟩ := mem_occTo.1 hm
 unfold standsH
 dsimp only
 have e1 : (frm + (p : Int) - frm).toNat = p := by omega
 rw [e1, Int.toNat_natCast, h3, decide_eq_true (by omega)]
 exact ⟨rfl, by omega, by omega, by omega, by omega⟩

end Go.Proofs.YtbldfgaogmfoaaaGreat

namespace Go.Proofs.YtbldfgaogmfoaaaGreat
open Go.RowKit Go.Sort

theorem lsf_pre {N : List (List Int)} {M : Nat} (h0 : [] ∈ N) (hM : ∀ y ∈ N, y.length ≤ M) (p x : List Int) (hx : M ≤ x.length) : lsf N (p ++ x) = lsf N x := by
 rw [← lsf_drop h0 hM (p ++ x), ← lsf_drop h0 hM x, List.length_append, List.drop_append, List.drop_eq_nil_of_le (by omega), List.nil_append]
 congr 2
 omega
theorem sufW_pre {ws : List (List Int)} {M : Nat} (hM : ∀ y ∈ ws, y.length ≤ M) (x : List Int) (hx : M ≤ x.length) : ∀ p, sufW ws (p ++ x) = sufW ws x
 | [] => rfl
 | d :: p => by
  rw [List.cons_append, sufW_cons, if_neg, List.nil_append, sufW_pre hM x hx p]
  intro hm
  have := hM _ hm
  simp only [List.length_cons, List.length_append] at this
  omega
theorem goesH_pre {ws : List (List Int)} {M : Nat} (hM : ∀ y ∈ ws, y.length ≤ M) (p : List Int) : ∀ (b x : List Int) (at_ : Int), (p = [] ∨ M ≤ x.length + 1) → goesH ws (p ++ x) at_ b = goesH ws x at_ b
 | [], _, _, _ => rfl
 | c :: b, x, at_, h => by
  rcases h with rfl | h
  · rfl
  ·
   show (sufW ws (p ++ x ++ [c])).map _ ++ goesH ws (p ++ x ++ [c]) (at_ + 1) b = (sufW ws (x ++ [c])).map _ ++ goesH ws (x ++ [c]) (at_ + 1) b
   rw [List.append_assoc, sufW_pre hM (x ++ [c]) (by simp; omega) p, goesH_pre hM p b (x ++ [c]) (at_ + 1) (.inr (by simp; omega))]
theorem goesH_ends {ws : List (List Int)} : ∀ (b x : List Int) (at_ : Int), ∀ h ∈ goesH ws x at_ b, at_ < h.1 ∧ h.1 ≤ at_ + b.length
 | [], _, _, h, hh => by cases hh
 | c :: b, x, at_, h, hh => by
  rcases List.mem_append.1 hh with h1 | h1
  ·
   obtain ⟨v, _, rfl⟩ := List.mem_map.1 h1
   simp only [List.length_cons]
   omega
  ·
   have := goesH_ends b _ _ h h1
   simp only [List.length_cons]
   omega
theorem betw_goes {ws : List (List Int)} (frm : Int) (A B : List Int) : betwH (frm + A.length) (frm + A.length + B.length) (goesH ws [] frm (A ++ B)) = goesH ws A (frm + A.length) B := by
 rw [goesH_append, List.nil_append]
 unfold betwH
 rw [List.filter_append, List.filter_eq_nil_iff.2, List.filter_eq_self.2, List.nil_append]
 ·
  intro h hh
  have := goesH_ends B A _ h hh
  simp; omega
 ·
  intro h hh
  have := goesH_ends A [] frm h hh
  simp; omega

theorem scanH_zero {fold : Bool} {wss : List (List Int)} (hr : rightP fold wss = true) (frm : Int) (F : List Int) : scanH fold wss 0 frm F = goesH wss [] frm (foldL fold F) :=
 scanH_goes (fun y hy => ((right_spec hr).2.2.1 y hy).1) F frm (nodesL_head wss)
theorem foldL_app (fold : Bool) (A B : List Int) : foldL fold (A ++ B) = foldL fold A ++ foldL fold B := by simp only [foldL_map, List.map_append]
theorem foldL_dr (fold : Bool) (A : List Int) (k : Nat) : foldL fold (A.drop k) = (foldL fold A).drop k := by simp only [foldL_map, List.map_drop]

theorem warm_law {fold : Bool} {wss : List (List Int)} (hr : rightP fold wss = true) {M : Nat} (hM : ∀ y ∈ wss, y.length ≤ M) (frm : Int) (A B : List Int) (k : Nat) (hk : k ≤ A.length) (hkm : k = 0 ∨ M ≤ A.length - k + 1) :
  betwH (frm + A.length) (frm + A.length + B.length) (scanH fold wss 0 frm (A ++ B)) = betwH (frm + A.length) (frm + A.length + B.length) (scanH fold wss 0 (frm + k) (A.drop k ++ B)) ∧
  (B.length ≠ 0 → feedZ fold wss 0 (A.drop k ++ B) = feedZ fold wss 0 (A ++ B)) := by
 have hl : ∀ X : List Int, (foldL fold X).length = X.length := fun X => by simp [foldL_map]
 have e1 : foldL fold A = (foldL fold A).take k ++ foldL fold (A.drop k) := by rw [foldL_dr, List.take_append_drop]
 have hd : (A.drop k).length = A.length - k := by simp
 have hpx : (foldL fold A).take k = [] ∨ M ≤ (foldL fold (A.drop k)).length + 1 := by
  rcases hkm with rfl | h
  · exact .inl rfl
  · right; rw [hl, hd]; exact h
 constructor
 ·
  have g1 := betw_goes (ws := wss) frm (foldL fold A) (foldL fold B)
  have g2 := betw_goes (ws := wss) (frm + k) (foldL fold (A.drop k)) (foldL fold B)
  rw [hl, hl] at g1 g2
  rw [hd, show frm + (k : Int) + ((A.length - k : Nat) : Int) = frm + A.length by omega] at g2
  rw [scanH_zero hr, scanH_zero hr, foldL_app, foldL_app, g1, g2]
  conv => lhs; rw [e1]
  exact goesH_pre hM _ _ _ _ hpx
 ·
  intro hb
  have hh := nodesL_head wss
  have f1 := feedZ_at (fold := fold) hh (A.drop k ++ B)
  have f2 := feedZ_at (fold := fold) hh (A ++ B)
  have h0 : [] ∈ nodesL wss := List.mem_of_getElem? hh
  have hN : ∀ y ∈ nodesL wss, y.length ≤ M := fun y hy => by
   rcases (mem_nodesL wss).1 hy with rfl | ⟨w, hw, n, _, hn, rfl⟩
   · simp
   ·
    rw [List.length_take]
    have := hM w hw
    omega
  have e2 : lsf (nodesL wss) (foldL fold (A ++ B)) = lsf (nodesL wss) (foldL fold (A.drop k ++ B)) := by
   rw [foldL_app, foldL_app]
   conv => lhs; rw [e1]
   rcases hkm with rfl | h
   · rfl
   ·
    rw [List.append_assoc]
    exact lsf_pre h0 hN _ _ (by rw [List.length_append, hl, hl, hd]; omega)
  rw [List.nil_append] at f1 f2
  rw [← e2] at f1
  exact nodup_at (nodesL_srt wss).nodup f1 f2
end Go.Proofs.YtbldfgaogmfoaaaGreat

namespace Go.Proofs.YtbldfgaogmfoaaaGreat
open Go.RowKit Go.Sort

/-- The node behind so many bytes of a block; the hits told of them. -/
def prZ (fold : Bool) (wss : List (List Int)) (bs : List Int) (d : Nat) : Nat := feedZ fold wss 0 (bs.take d)
def prH (fold : Bool) (wss : List (List Int)) (st wm : Int) (bs : List Int) (d : Nat) : List HitP := ownB20 st (scanH fold wss 0 (st - wm) (bs.take d))
section
variable {fold : Bool} {wss : List (List Int)} {st wm : Int} {bs : List Int}
theorem take_slc {d : Nat} {m : Int} (hd : d ≤ bs.length) : bs.take (d + takeN bs.length d m) = bs.take d ++ slcF bs d m := by
 unfold slcF
 rw [Int.toNat_natCast, List.take_add]
theorem prZ_lt (h : prbD fold wss st wm bs.length 0 0 = true) (d : Nat) : prZ fold wss bs d < (nodesL wss).length := feedZ_lt (by have := (prbD_parts h).2.2.1; omega) _
theorem prb_ok (h : prbD fold wss st wm bs.length 0 0 = true) {d : Nat} (hd : d ≤ bs.length) : prbD fold wss st wm bs.length (prZ fold wss bs d) d = true := by
 obtain ⟨h1, h2, _⟩ := prbD_parts h
 have h3 := prZ_lt h d
 unfold prbD scanR
 rw [h1, h2, decide_eq_true (show (0 : Int) ≤ (d : Int) ∧ (d : Int) ≤ (bs.length : Int) by omega), decide_eq_true (show ((0 : Int) ≤ (prZ fold wss bs d : Int) ∧ (prZ fold wss bs d : Int) < ((nodesL wss).length : Int)) ∧ (0 : Int) ≤ 0 ∧ (0 : Int) ≤ 4611686020574871551 by omega)]
 rfl
theorem prb_step (h : prbD fold wss st wm bs.length 0 0 = true) {d : Nat} (hd : d ≤ bs.length) (m : Int) :
  slZ fold wss st wm bs (prZ fold wss bs d) d m = (prZ fold wss bs (d + takeN bs.length d m) : Nat) ∧ slD fold wss st wm bs (prZ fold wss bs d) d m = ((d + takeN bs.length d m : Nat) : Int) ∧
  prH fold wss st wm bs d ++ slH fold wss st wm bs (prZ fold wss bs d) d m = prH fold wss st wm bs (d + takeN bs.length d m) ∧ slO fold wss st wm bs (prZ fold wss bs d) d m = (((d + takeN bs.length d m : Nat) : Int) == (bs.length : Int)) ∧ d + takeN bs.length d m ≤ bs.length := by
 have hp := prb_ok h hd
 have ht := takeN_le (n := bs.length) (d := (d : Int)) (m := m) (by omega) (by omega)
 rw [Int.toNat_natCast] at ht
 unfold slZ slD slH slO
 rw [if_pos hp, if_pos hp, if_pos hp, if_pos hp]
 refine ⟨?_, by omega, ?_, ?_, ht⟩
 ·
  unfold prZ
  rw [take_slc hd, feedZ_append, Int.toNat_natCast]
 ·
  unfold prH slcH
  rw [take_slc hd, scanH_append, ownB20_append, List.length_take, Nat.min_eq_left hd, Int.toNat_natCast]
  rfl
 ·
  rw [show (d : Int) + ((takeN bs.length d m : Nat) : Int) = ((d + takeN bs.length d m : Nat) : Int) by omega]
  rfl
theorem prb_whole (h : prbD fold wss st wm bs.length 0 0 = true) : whH fold wss st wm bs = prH fold wss st wm bs bs.length := by
 have h3 := (prb_step h (Nat.zero_le _) (bs.length : Int)).2.2.1
 have ht : takeN bs.length ((0 : Nat) : Int) (bs.length : Int) = bs.length := by unfold takeN; omega
 rw [ht, Nat.zero_add] at h3
 rw [← h3]
 rfl
end
end Go.Proofs.YtbldfgaogmfoaaaGreat

namespace Go.Proofs.YtbldfgaogmfoaaaGreat
open Go.RowKit Go.Sort

section
variable {fold : Bool} {wss : List (List Int)}
theorem mayP_right {frm : Int} (hr : rightP fold wss = true) (h0 : 0 ≤ frm) (h1 : frm ≤ 4611686018427387904) : mayP fold wss frm = true := by
 unfold mayP
 rw [hr, decide_eq_true ⟨h0, h1⟩]
 rfl
theorem occ_scan (hr : rightP fold wss = true) (frm : Int) (text : List Int) : occD fold wss frm text = scanH fold wss 0 frm text := by
 rw [occ_goes (right_nodup hr).1 (fun y hy => ((right_spec hr).2.2.1 y hy).1) (right_nodup hr).2 frm text, scanH_zero hr]
theorem longL_max (hr : rightP fold wss = true) : ∃ M : Nat, longL wss = (M : Int) ∧ (∀ y ∈ wss, y.length ≤ M) ∧ 1 ≤ M ∧ M ≤ 32 := by
 obtain ⟨M, h1, h2, h3⟩ := longL_spec wss
 refine ⟨M, h1, h2, ?_, h3 32 (fun v hv => ((right_spec hr).2.2.1 v hv).2)⟩
 obtain ⟨_, h4, h5, _⟩ := right_spec hr
 obtain ⟨v, hv⟩ := List.exists_mem_of_ne_nil _ h4
 have := (h5 v hv).1
 have := h2 v hv
 omega
/-- A block of a text: of the warm-up's length, at a place, of so many own bytes. -/
theorem block_law (hr : rightP fold wss = true) (frm : Int) (text : List Int) (at_ own : Nat) (k M : Nat) (hM : ∀ y ∈ wss, y.length ≤ M) (hat : at_ + own ≤ text.length) (hk : k ≤ at_) (hkm : k = 0 ∨ M ≤ at_ - k + 1) :
  ownB20 (frm + at_) (scanH fold wss 0 (frm + k) ((text.drop k).take (at_ - k + own))) = betwH (frm + at_) (frm + at_ + own) (occD fold wss frm text) := by
 have hA : (text.take at_).length = at_ := by rw [List.length_take]; omega
 have hBl : ((text.drop at_).take own).length = own := by rw [List.length_take, List.length_drop]; omega
 have hw := (warm_law hr hM frm (text.take at_) ((text.drop at_).take own) k (by rw [hA]; exact hk) (by rw [hA]; exact hkm)).1
 rw [hA, hBl] at hw
 have e1 : (text.take at_).drop k ++ (text.drop at_).take own = (text.drop k).take (at_ - k + own) := by
  rw [List.take_add, List.drop_take, List.drop_drop, show k + (at_ - k) = at_ by omega]
 have e2 : text.take at_ ++ (text.drop at_).take own = text.take (at_ + own) := by rw [List.take_add]
 rw [e1, e2] at hw
 have hx : (text.drop k).take (at_ - k + own) = (text.drop k).take (at_ - k + own) := rfl
 have hl : ((text.drop k).take (at_ - k + own)).length = at_ - k + own := by rw [List.length_take, List.length_drop]; omega
 have hp : 0 < (nodesL wss).length := (List.getElem?_eq_some_iff.1 (nodesL_head wss)).1
 have e3 : ownB20 (frm + at_) (scanH fold wss 0 (frm + k) ((text.drop k).take (at_ - k + own))) = betwH (frm + at_) (frm + at_ + own) (scanH fold wss 0 (frm + k) ((text.drop k).take (at_ - k + own))) := by
  unfold ownB20 betwH
  refine List.filter_congr fun h hh => ?_
  have hb := (scanH_bd (right_nodup hr).1 (fun x hx => ((right_spec hr).2.2.1 x hx).1) _ 0 (frm + k) hp h hh).1
  rw [hl] at hb
  rw [Bool.eq_iff_iff]
  simp
  omega
 rw [e3, ← hw, occ_scan hr]
 conv => rhs; rw [← List.take_append_drop (at_ + own) text, scanH_append]
 unfold betwH
 rw [List.filter_append]
 have e4 : (scanH fold wss (feedZ fold wss 0 (text.take (at_ + own))) (frm + ((text.take (at_ + own)).length : Int)) (text.drop (at_ + own))).filter (fun h => decide (frm + (at_ : Int) < h.1) && decide (h.1 ≤ frm + (at_ : Int) + (own : Int))) = [] := by
  rw [List.filter_eq_nil_iff]
  intro h hh
  have hb := (scanH_bd (right_nodup hr).1 (fun x hx => ((right_spec hr).2.2.1 x hx).1) _ _ _ (feedZ_lt hp _) h hh).1
  have hl2 : (text.take (at_ + own)).length = at_ + own := by rw [List.length_take]; omega
  rw [hl2] at hb
  simp
  omega
 rw [e4, List.append_nil]
/-- What a block tells as a whole. -/
theorem whH_block (hr : rightP fold wss = true) (frm : Int) (text : List Int) (at_ own k M : Nat) (hML : longL wss = (M : Int)) (hM : ∀ y ∈ wss, y.length ≤ M) (hat : at_ + own ≤ text.length) (hk : k ≤ at_) (hkm : k = 0 ∨ M ≤ at_ - k + 1) (hkM : at_ - k + 1 ≤ M) (ho : 1 ≤ own) (ho2 : own ≤ 256) (hf : 0 ≤ frm) (hf2 : frm + at_ ≤ 4611686020574871551) :
  whH fold wss (frm + at_) ((at_ - k : Nat) : Int) ((text.drop k).take (at_ - k + own)) = betwH (frm + at_) (frm + at_ + own) (occD fold wss frm text) := by
 have hl : ((text.drop k).take (at_ - k + own)).length = at_ - k + own := by rw [List.length_take, List.length_drop]; omega
 have hp : 0 < (nodesL wss).length := (List.getElem?_eq_some_iff.1 (nodesL_head wss)).1
 have h0 : prbD fold wss (frm + at_) ((at_ - k : Nat) : Int) ((text.drop k).take (at_ - k + own)).length 0 0 = true := by
  rw [hl]
  unfold prbD scanR scnP
  rw [hr, hML, decide_eq_true (show ((0 : Int) ≤ 0 ∧ (0 : Int) < ((nodesL wss).length : Int)) ∧ (0 : Int) ≤ 0 ∧ (0 : Int) ≤ 4611686020574871551 by omega), decide_eq_true (show 0 ≤ frm + (at_ : Int) ∧ frm + (at_ : Int) ≤ 4611686020574871551 ∧ 0 ≤ ((at_ - k : Nat) : Int) ∧ ((at_ - k : Nat) : Int) ≤ (M : Int) - 1 ∧ ((at_ - k : Nat) : Int) ≤ frm + (at_ : Int) ∧ 1 ≤ ((at_ - k + own : Nat) : Int) - ((at_ - k : Nat) : Int) ∧ ((at_ - k + own : Nat) : Int) - ((at_ - k : Nat) : Int) ≤ 256 by omega), decide_eq_true (show (0 : Int) ≤ 0 ∧ (0 : Int) ≤ ((at_ - k + own : Nat) : Int) by omega)]
  rfl
 rw [prb_whole h0]
 unfold prH
 rw [List.take_of_length_le (Nat.le_refl _), show frm + (at_ : Int) - ((at_ - k : Nat) : Int) = frm + (k : Int) by omega]
 exact block_law hr frm text at_ own k M hM hat hk hkm
theorem betw_rise (low high : Int) {l : List HitP} (h : riseH wss l = true) : riseH wss (betwH low high l) = true := by
 rw [riseH_pairwise] at h ⊢
 unfold betwH
 exact h.filter _
theorem occ_rise (frm : Int) (text : List Int) : riseH wss (occD fold wss frm text) = true := by
 rw [riseH_pairwise]
 exact occTo_rises fold wss frm text _
theorem occ_le (hr : rightP fold wss = true) (frm : Int) (text : List Int) : (occD fold wss frm text).length ≤ 400 * text.length := by
 rw [occ_scan hr]
 have h4 : (nodesL wss).length ≤ 400 := read_n (readP_iff.2 ⟨right_false hr, rfl, rfl⟩)
 have hp : 0 < (nodesL wss).length := (List.getElem?_eq_some_iff.1 (nodesL_head wss)).1
 exact Nat.le_trans (scanH_len _ _ _ hp) (Nat.mul_le_mul_right _ h4)
end
end Go.Proofs.YtbldfgaogmfoaaaGreat

namespace Go.Proofs.YtbldfgaogmfoaaaGreat
open Go.RowKit Go.Sort

set_option maxHeartbeats 2000000 in
theorem rrise6_any (fold : Bool) (a b : Option Addr) (la ca lb cb : Nat) (l : List HitP) (wss : List (List Int)) (w : World) (hA : Wds w a la wss) (hL : Hts w b lb l) (hla : la ≤ 1000000) (hlb : lb ≤ 4611686018427387904) :
  Calls Tryz.prog 43 #[.agg (setV fold a la ca), .slice b lb cb] w fun e w' => e = .returned (.bool (riseH wss l)) ∧ Below w.heap.size w w' := by
 have hB0 : Below w.heap.size w (w.alloc (.cells (setV fold a la ca) 24)) := (Below.refl _ _).alloc (Nat.le_refl _) _
 have hnew := World.alloc_heap_new w (.cells (setV fold a la ca) 24)
 have HLN := Lib.hid hL.len
 go_enter Tryz.func43, Tryz.ntmps43
 go_wp2
 go_loopw [5] (fun i wr => ∃ k : Nat, (k = 0 ∨ k < lb) ∧ i = .int .i64 ((k : Int) + 1) ∧ Hid (riseH wss (l.take (k + 1)) = true) ∧ Below w.heap.size w wr ∧ wr.heap[w.heap.size]? = some (.cells (setV fold a la ca) 24 (0, 0))) (fun i _ => lb - (intOf i).toNat)
 case atStart =>
  refine ⟨0, .inl rfl, rfl, ?_, hB0, hnew⟩
  cases l <;> simp [Hid, riseH]
 case round =>
  obtain ⟨k, hk, rfl, HK, hBe, hsr⟩ := hrel
  by_cases hlt : k + 1 < lb
  ·
   have hLr := hL.below hBe
   obtain ⟨bb, off, x, rfl, hbl, cx0, cx1, hx, _, _⟩ := hLr.at_ (show k < lb by omega)
   obtain ⟨_, _, y, e, _, cy0, cy1, hy, _, _⟩ := hLr.at_ hlt
   injection e with e
   injection e with e1 e2
   subst e1 e2
   clear hk
   have HS : Hid (riseH wss (l.take (k + 1 + 1)) = lessH wss x y) := by
    have := riseH_take (wss := wss) hx hy
    rw [HK.out, Bool.true_and] at this
    exact this
   have hAr := hA.below hBe
   clear hx hy hLr
   have hszr : w.heap.size < wr.heap.size := (Array.getElem?_eq_some_iff.1 hsr).1
   have s0 : ∀ d os, (grow (redrawn wr d) os).cell? ⟨w.heap.size, 0, none⟩ = some (.bool fold) := fun d os => ((below_regrown wr d os).cell (p := ⟨w.heap.size, 0, none⟩) hszr).trans (by simp [World.cell?, hsr])
   have s1 : ∀ d os, (grow (redrawn wr d) os).cell? ⟨w.heap.size, 1, none⟩ = some (.slice a la ca) := fun d os => ((below_regrown wr d os).cell (p := ⟨w.heap.size, 1, none⟩) hszr).trans (by simp [World.cell?, hsr])
   have x0 : ∀ d os, (grow (redrawn wr d) os).cell? ⟨bb, off + k * 2, none⟩ = some (.int .i64 x.1) := fun d os => ((below_regrown wr d os).cell (p := ⟨bb, off + k * 2, none⟩) hbl).trans cx0
   have x1 : ∀ d os, (grow (redrawn wr d) os).cell? ⟨bb, off + k * 2 + 1, none⟩ = some (.int .i64 x.2) := fun d os => ((below_regrown wr d os).cell (p := ⟨bb, off + k * 2 + 1, none⟩) hbl).trans cx1
   have y0 : ∀ d os, (grow (redrawn wr d) os).cell? ⟨bb, off + (k + 1) * 2, none⟩ = some (.int .i64 y.1) := fun d os => ((below_regrown wr d os).cell (p := ⟨bb, off + (k + 1) * 2, none⟩) hbl).trans cy0
   have y1 : ∀ d os, (grow (redrawn wr d) os).cell? ⟨bb, off + (k + 1) * 2 + 1, none⟩ = some (.int .i64 y.2) := fun d os => ((below_regrown wr d os).cell (p := ⟨bb, off + (k + 1) * 2 + 1, none⟩) hbl).trans cy1
   have hA2 : ∀ d os, Wds (grow (redrawn wr d) os) a la wss := fun d os => hAr.below (below_regrown wr d os)
   clear cx0 cx1 cy0 cy1
   have hd : decide ((k : Int) + 1 < lb) = true := by simp; omega
   go_wp2
   refine wp_region_quiet_below mixed (by kernel_rfl) ?_
   repeat (go_big_quiet_step (exact grown_below (rless6_any fold a la ca x y wss _ (hA2 _ _) hla)))
   refine wpQuiet_nil ?_
   rintro _ ⟨⟨dq, osq⟩, rfl⟩
   have hBq := below_regrown wr dq osq
   have hB1 : Below w.heap.size w (grow (redrawn wr dq) osq) := hBe.trans (hBq.mono hBe.size)
   have hs1 : (grow (redrawn wr dq) osq).heap[w.heap.size]? = _ := (hBq.block _ hszr).trans hsr
   clear s0 s1 x0 x1 y0 y1 hA2
   cases e : lessH wss x y with
   | true =>
    rw [e] at HS
    go_wp2
    go_roundw
    case rel => exact ⟨k + 1, by omega, by go_num, HS, hB1, hs1⟩
    case measure => simp [intOf]; omega
   | false =>
    rw [e] at HS
    have HN := Lib.hid (riseH_no HS.out)
    go_wp2
    go_ret
    exact ⟨by rw [HN.out]; rfl, hB1⟩
  ·
   have HN : Hid (riseH wss l = true) := by
    have h := HK.out
    rwa [List.take_of_length_le (by rw [HLN.out]; omega)] at h
   go_wp2
   go_ret
   exact ⟨by rw [HN.out]; rfl, hBe⟩

set_option maxRecDepth 100000 in
set_option maxHeartbeats 2000000 in
theorem rbetween6_h (low high : Int) (a : Option Addr) (la ca : Nat) (l : List HitP) (w : World) (hL : Hts w a la l) (hla : la ≤ 1000000000000) :
  Calls Tryz.prog 44 #[.int .i64 low, .int .i64 high, .slice a la ca] w fun e w' => ∃ v, e = .returned v ∧ OwnH w' w.heap.size v (betwH low high l) ∧ Below w.heap.size w w' := by
 obtain ⟨i0, hi, hz0, hz1, hz2⟩ := info_parts hit_info
 have HLN := Lib.hid hL.len
 go_enter Tryz.func44, Tryz.ntmps44
 go_wp2
 go_loopw [7, 8] (fun v i wr => ∃ k : Nat, k ≤ la ∧ i = .int .i64 k ∧ Below w.heap.size w wr ∧ OwnH wr w.heap.size v (betwH low high (l.take k))) (fun _ i _ => la - (intOf i).toNat)
 case atStart => exact ⟨0, Nat.zero_le _, rfl, Below.refl _ _, by simpa [OwnH, betwH, hcells] using World.ownsRow_nil w w.heap.size 87 2⟩
 case round =>
  obtain ⟨k, hk, rfl, hBe, hown⟩ := hrel
  by_cases hlt : k < la
  ·
   obtain ⟨b, off, x, rfl, hbl, c0, c1, hx, hxb⟩ := (hL.below hBe).at_ hlt
   have HX := Lib.hid hx
   clear hx
   have hlen : (betwH low high (l.take k)).length ≤ k := by
    have h1 := List.length_filter_le (fun h : HitP => decide (low < h.1) && decide (h.1 ≤ high)) (l.take k)
    have h2 := List.length_take_le k l
    unfold betwH
    omega
   have HSN := Lib.hid (betwH_snoc low high (l.take k) x)
   have HTK := Lib.hid (take_step HX.out)
   by_cases h1 : low < x.1
   ·
    by_cases h2 : x.1 ≤ high
    ·
     obtain ⟨m, hm⟩ : ∃ m, (betwH low high (l.take k)).length = m := ⟨_, rfl⟩
     unfold OwnH at hown
     rw [hm] at hown hlen
     have HM := Lib.hid hm
     clear hm
     go_wp2_with (at_builtin; refine wpList_append_own _ rfl _ _ 67 rfl w.heap.size 87 i0 (.agg #[.int .i64 0, .int .i64 0]) 2 16 Tryz.underlying67 hi hz0 hz1 hz2 rfl (by decide) _ _ _ rfl (hown.alloc _) ⟨wr.heap.size, 0, none⟩ 1 1 [.int .i64 x.1, .int .i64 x.2] rfl rfl (cells_new _ _ (by simp)) (by simp [Value.oneCell']) (by unfold maxLen; omega) (by omega) (by have := hBe.size; simp; omega) ?_; intro v' w5 hown' hgrow hnil)
     have hB5 : Below w.heap.size w w5 := (hBe.alloc hBe.size _).grown hgrow (by have := hBe.size; simp; omega) (fun j hj => (hown.lt j hj).1)
     go_roundw
     case rel =>
      refine ⟨k + 1, by omega, by go_num, hB5, ?_⟩
      unfold OwnH
      rw [HTK.out, HSN.out, if_pos ⟨h1, h2⟩, List.length_append, HM.out, hcells_snoc]
      exact hown'
     case measure => simp [intOf]; omega
    ·
     go_wp2
     go_roundw
     case rel =>
      refine ⟨k + 1, by omega, by go_num, hBe, ?_⟩
      rw [HTK.out, HSN.out, if_neg (by omega)]
      exact hown
     case measure => simp [intOf]; omega
   ·
    go_wp2
    go_roundw
    case rel =>
     refine ⟨k + 1, by omega, by go_num, hBe, ?_⟩
     rw [HTK.out, HSN.out, if_neg (by omega)]
     exact hown
    case measure => simp [intOf]; omega
  ·
   obtain rfl : k = la := by omega
   have HF : Hid (l.take k = l) := List.take_of_length_le (by rw [HLN.out]; exact Nat.le_refl _)
   rw [HF.out] at hown
   go_wp2
   go_ret
   exact ⟨_, rfl, hown, hBe⟩

end Go.Proofs.YtbldfgaogmfoaaaGreat

namespace Go.Proofs.YtbldfgaogmfoaaaGreat
open Go.RowKit Go.Sort

theorem betw20 (low high : Int) (a : Option Addr) (la ca n : Nat) (l D : List HitP) (w : World) (hL : Hts w a la l) (hla : la ≤ 1000000000000) (hD : betwH low high l = D) (hn : D.length = n) :
  Calls Tryz.prog 44 #[.int .i64 low, .int .i64 high, .slice a la ca] w fun e w' => ∃ (a1 : Option Addr) (c1 : Nat), e = .returned (.slice a1 n c1) ∧ Hts w' a1 n D ∧ Below w.heap.size w w' := by
 refine (rbetween6_h low high a la ca l w hL hla).mono ?_
 rintro e w' ⟨v, rfl, ho, hb⟩
 rw [hD] at ho
 obtain ⟨a1, c1, rfl, _, hs⟩ := ho.hts (fun h hh => by
  rw [← hD] at hh
  exact hL.2 h (by unfold betwH at hh; exact (List.mem_filter.1 hh).1))
 rw [hn] at hs ⊢
 exact ⟨a1, c1, rfl, hs, hb⟩

set_option maxRecDepth 100000 in
set_option maxHeartbeats 16000000 in
theorem probeOwn_walk (fold : Bool) (a : Option Addr) (la ca : Nat) (b : Option Addr) (lb cb : Nat) (at_ : Int) (wss : List (List Int)) (text : List Int) (w : World)
  (hA : Wds w a la wss) (hD : Bys w b lb text) (hcb : lb ≤ cb) :
  Calls Tryz.prog 10 #[.agg (setV fold a la ca), .slice b lb cb, .int .i64 at_] w fun e w' => e = .returned (.bool true) ∧ Below w.heap.size w w' := by
 have HLEN := Lib.hid hA.len
 have HDL := Lib.hid hD.len
 obtain ⟨W, hW⟩ : ∃ W, W = w.alloc (.cells (setV fold a la ca) 24) := ⟨_, rfl⟩
 have hB : Below w.heap.size w W := by rw [hW]; exact below_alloc _ _
 have hO : Bx w.heap.size [.cells (setV fold a la ca) 24] W := by rw [hW]; exact (Bx.nil _ w).snoc _ rfl
 have K0 : Hid (∀ V, RowKit.Below W.heap.size W V → (V.cell? ⟨w.heap.size, 0, none⟩ = some (.bool fold) ∧ V.cell? ⟨w.heap.size, 1, none⟩ = some (.slice a la ca)) ∧ Wds V a la wss ∧ Bys V b lb text ∧ RowKit.Below w.heap.size w V) := fun V hV => by
   have h := hO.below hV
   have h1 := hB.trans (hV.mono hB.size)
   exact ⟨⟨h.cell (i := 0) rfl rfl, h.cell (i := 0) rfl rfl⟩, hA.below h1, hD.below h1, h1⟩
 obtain ⟨f_set, f_A, f_D, f_bw⟩ := K0.out W (Below.refl _ _)
 obtain ⟨s0, s1⟩ := f_set
 obtain ⟨G1, hG1⟩ : ∃ G, greatP wss = G := ⟨_, rfl⟩
 have HG1 := great5_any fold a la ca wss W f_A
 rw [hG1] at HG1
 have HG1 := Lib.hid HG1
 clear f_A f_D f_bw hO hB hA hD
 go_enter Tryz.func10, Tryz.ntmps10
 go_upto_region 1 with fail
 rw [← hW]
 clear hW
 go_wp2_with fail
 refine HG1.out.mono ?_
 rintro e w1 ⟨rfl, hb1⟩
 clear HG1 s0 s1
 have K1 : Hid (∀ V, RowKit.Below w1.heap.size w1 V → (V.cell? ⟨w.heap.size, 0, none⟩ = some (.bool fold) ∧ V.cell? ⟨w.heap.size, 1, none⟩ = some (.slice a la ca)) ∧ Wds V a la wss ∧ Bys V b lb text ∧ RowKit.Below w.heap.size w V) := fun V hV => by
  obtain ⟨f_set, f_A, f_D, f_bw⟩ := K0.out V (hb1.trans (hV.mono hb1.size))
  exact ⟨f_set, f_A, f_D, f_bw⟩
 clear hb1 K0
 cases G1 with
 | true =>
  obtain ⟨f_set, f_A, f_D, f_bw⟩ := K1.out w1 (Below.refl _ _)
  have HBW := Lib.hid f_bw
  clear f_set f_A f_D f_bw
  go_wp2_with fail
  refine (wakes20 _).mono ?_
  rintro e w9 ⟨rfl, hb9⟩
  go_wp2
  go_ret
  exact ⟨rfl, HBW.out.trans (hb9.mono HBW.out.size)⟩
 | false =>
  obtain ⟨gg1, gg2, gg3⟩ := gr8_bd hG1 fold
  rw [HLEN.out] at gg1
  have hM : ∀ x ∈ wss, x.length ≤ 1000000 := fun x hx => by have := gg2 x hx; omega
  have hbg : (begL fold wss).length ≤ 1000000 := by omega
  have HML := Lib.hid hM
  have HBG := Lib.hid hbg
  have hla9 : la ≤ 1000 := by omega
  obtain ⟨R, hR⟩ : ∃ R, rightP fold wss = R := ⟨_, rfl⟩
  obtain ⟨f_set, f_A, f_D, f_bw⟩ := K1.out w1 (Below.refl _ _)
  obtain ⟨s0, s1⟩ := f_set
  have HC := rright_any fold a la ca wss w1 f_A (by omega) hM
  rw [← right_eq, hR] at HC
  have HC := Lib.hid HC
  clear f_A f_D f_bw gg1 gg2 gg3 hM hbg hG1
  go_wp2_with fail
  refine HC.out.mono ?_
  rintro e w2 ⟨rfl, hb2⟩
  clear HC s0 s1
  have K2 : Hid (∀ V, RowKit.Below w2.heap.size w2 V → (V.cell? ⟨w.heap.size, 0, none⟩ = some (.bool fold) ∧ V.cell? ⟨w.heap.size, 1, none⟩ = some (.slice a la ca)) ∧ Wds V a la wss ∧ Bys V b lb text ∧ RowKit.Below w.heap.size w V) := fun V hV => by
   obtain ⟨f_set, f_A, f_D, f_bw⟩ := K1.out V (hb2.trans (hV.mono hb2.size))
   exact ⟨f_set, f_A, f_D, f_bw⟩
  clear hb2 K1
  cases R with
  | false =>
   obtain ⟨f_set, f_A, f_D, f_bw⟩ := K2.out w2 (Below.refl _ _)
   have HBW := Lib.hid f_bw
   clear f_set f_A f_D f_bw
   go_wp2_with fail
   refine (wakes20 _).mono ?_
   rintro e w9 ⟨rfl, hb9⟩
   go_wp2
   go_ret
   exact ⟨rfl, HBW.out.trans (hb9.mono HBW.out.size)⟩
  | true =>
   have HR := Lib.hid hR
   clear hR
   by_cases hl0 : lb = 0
   case pos =>
    have d1 : ((lb : Int) == 0) = true := by simp [hl0]
    obtain ⟨f_set, f_A, f_D, f_bw⟩ := K2.out w2 (Below.refl _ _)
    have HBW := Lib.hid f_bw
    clear f_set f_A f_D f_bw
    go_wp2_with fail
    refine (wakes20 _).mono ?_
    rintro e w9 ⟨rfl, hb9⟩
    go_wp2
    go_ret
    exact ⟨rfl, HBW.out.trans (hb9.mono HBW.out.size)⟩
   have d1 : ((lb : Int) == 0) = false := by simpa using hl0
   by_cases hl2 : 200 < lb
   case pos =>
    have d2 : decide ((200 : Int) < (lb : Int)) = true := by simp; omega
    obtain ⟨f_set, f_A, f_D, f_bw⟩ := K2.out w2 (Below.refl _ _)
    have HBW := Lib.hid f_bw
    clear f_set f_A f_D f_bw
    go_wp2_with fail
    refine (wakes20 _).mono ?_
    rintro e w9 ⟨rfl, hb9⟩
    go_wp2
    go_ret
    exact ⟨rfl, HBW.out.trans (hb9.mono HBW.out.size)⟩
   have d2 : decide ((200 : Int) < (lb : Int)) = false := by simp; omega
   obtain ⟨M, hML2, hMb, hM1, hM32⟩ := longL_max HR.out
   obtain ⟨AT, hAT⟩ : ∃ k : Nat, min (max at_ 0) ((lb : Int) - 1) = (k : Int) := ⟨(min (max at_ 0) ((lb : Int) - 1)).toNat, by omega⟩
   have hATl : AT < lb := by omega
   obtain ⟨WM, hWM⟩ : ∃ k : Nat, min ((M : Int) - 1) (AT : Int) = (k : Int) := ⟨(min ((M : Int) - 1) (AT : Int)).toNat, by omega⟩
   have hWA : WM ≤ AT := by omega
   have hWM1 : WM + 1 ≤ M := by omega
   obtain ⟨K, hK⟩ : ∃ k : Nat, AT - WM = k := ⟨_, rfl⟩
   have hKW : AT - K = WM := by omega
   have eD : text.length = lb := HDL.out
   have hblk := whH_block HR.out 0 text AT (lb - AT) K M hML2 hMb (by omega) (by omega) (by omega) (by omega) (by omega) (by omega) (by omega) (by omega)
   rw [hKW, show WM + (lb - AT) = lb - K by omega, List.take_of_length_le (by rw [List.length_drop, eD]; omega), Int.zero_add, show (AT : Int) + ((lb - AT : Nat) : Int) = (lb : Int) by omega] at hblk
   obtain ⟨E, hE⟩ : ∃ E, occD fold wss 0 text = E := ⟨_, rfl⟩
   have hEl := occ_le HR.out 0 text
   have hEb : ∀ h ∈ E, I64 h.1 ∧ I64 h.2 := fun h hh => by
    rw [← hE] at hh
    obtain ⟨_, e1, e2, e3, e4⟩ := occD_mem hh
    have := HLEN.out
    unfold I64
    omega
   have hEr := occ_rise (fold := fold) (wss := wss) 0 text
   rw [hE] at hblk hEl hEr
   rw [eD] at hEl
   obtain ⟨D, hDe⟩ : ∃ D, betwH (AT : Int) (lb : Int) E = D := ⟨_, rfl⟩
   have hDb : ∀ h ∈ D, I64 h.1 ∧ I64 h.2 := fun h hh => by rw [← hDe] at hh; unfold betwH at hh; exact hEb h (List.mem_filter.1 hh).1
   have hDi : ∀ h ∈ D, (AT : Int) < h.1 ∧ h.1 ≤ (lb : Int) := fun h hh => by
    rw [← hDe] at hh
    unfold betwH at hh
    have h2 := (List.mem_filter.1 hh).2
    rw [Bool.and_eq_true] at h2
    exact ⟨of_decide_eq_true h2.1, of_decide_eq_true h2.2⟩
   have hDr := betw_rise (AT : Int) (lb : Int) hEr
   have hDl : (betwH (AT : Int) (lb : Int) E).length ≤ E.length := by unfold betwH; exact List.length_filter_le _ _
   rw [hDe] at hblk hDr hDl
   obtain ⟨kd, hkd⟩ : ∃ k, D.length = k := ⟨_, rfl⟩
   obtain ⟨ke, hke⟩ : ∃ k, E.length = k := ⟨_, rfl⟩
   rw [hkd] at hDl
   rw [hke] at hEl hDl
   have hkel : ke ≤ 80000 := by omega
   have hkdl : kd ≤ 80000 := by omega
   have HBLK := Lib.hid hblk
   have HEB := Lib.hid hEb
   have HDB := Lib.hid hDb
   have HDI := Lib.hid hDi
   have HDR := Lib.hid hDr
   have HKD := Lib.hid hkd
   have HKE := Lib.hid hke
   have HDE := Lib.hid hDe
   have HEE := Lib.hid hE
   have HAT := Lib.hid hAT
   have HWM := Lib.hid hWM
   have HML2 := Lib.hid hML2
   have hKAT : (AT : Int) - (WM : Int) = (K : Int) := by omega
   have HKA := Lib.hid hKAT
   have hKl : K < lb := by omega
   clear hblk hEl hEb hEr hDb hDi hDr hDl hkd hke hDe hE hMb hAT hWM hK hKW eD hML2 hKAT
   obtain ⟨f_set, f_A, f_D, f_bw⟩ := K2.out w2 (Below.refl _ _)
   obtain ⟨s0, s1⟩ := f_set
   have HC := longest_any fold a la ca wss w2 f_A (by omega)
   rw [HML2.out] at HC
   have HC := Lib.hid HC
   clear f_A f_D f_bw
   go_upto_region 4 with fail
   rw [HAT.out]
   have kw : IntKind.i64.wrap ((M : Int) - 1) = (M : Int) - 1 := by rw [IntKind.wrap_i64]; omega
   clear d1 d2
   go_upto_region 5 with (go_at_call 41; refine HC.out.mono ?_; rintro e w3 ⟨rfl, hb3⟩)
   rw [HWM.out]
   clear HC kw s0 s1
   have K3 : Hid (∀ V, RowKit.Below w3.heap.size w3 V → (V.cell? ⟨w.heap.size, 0, none⟩ = some (.bool fold) ∧ V.cell? ⟨w.heap.size, 1, none⟩ = some (.slice a la ca)) ∧ Wds V a la wss ∧ Bys V b lb text ∧ RowKit.Below w.heap.size w V) := fun V hV => by
    obtain ⟨f_set, f_A, f_D, f_bw⟩ := K2.out V (hb3.trans (hV.mono hb3.size))
    exact ⟨f_set, f_A, f_D, f_bw⟩
   clear hb3 K2
   obtain ⟨f_set, f_A, f_D, f_bw⟩ := K3.out w3 (Below.refl _ _)
   obtain ⟨s0, s1⟩ := f_set
   have HC := Lib.hid (compile13_use fold a la ca wss w3 f_A (by omega) HML.out HBG.out HR.out)
   clear f_A f_D f_bw
   go_upto_region 6 with (go_at_call 30; refine HC.out.mono ?_; rintro e w4 ⟨B, rfl, hU⟩)
   have hm20 := mach20_use hU HR.out
   have hb4 := hU.bel
   clear HC hU s0 s1
   have K4 : Hid (∀ V, RowKit.Below w4.heap.size w4 V → (V.cell? ⟨w.heap.size, 0, none⟩ = some (.bool fold) ∧ V.cell? ⟨w.heap.size, 1, none⟩ = some (.slice a la ca)) ∧ Wds V a la wss ∧ Bys V b lb text ∧ RowKit.Below w.heap.size w V ∧ (Mach20 w4 (some ⟨B, 0, none⟩) fold wss ∧ RowKit.Below w4.heap.size w4 V)) := fun V hV => by
    obtain ⟨f_set, f_A, f_D, f_bw⟩ := K3.out V (hb4.trans (hV.mono hb4.size))
    exact ⟨f_set, f_A, f_D, f_bw, ⟨hm20, hV⟩⟩
   clear hb4 K3
   clear hm20
   obtain ⟨f_set, f_A, f_D, f_bw, f_m⟩ := K4.out w4 (Below.refl _ _)
   have HC := Lib.hid (he_whole f_m.1 f_m.2 0 (AT : Int) (WM : Int) (Option.map (fun z => z.add K) b) (lb - K) (cb - K) (text.drop K) (f_D.drop (by omega)) (by omega) HBLK.out HDB.out HKD.out)
   have kw : IntKind.i64.wrap ((AT : Int) - (WM : Int)) = (K : Int) := by rw [HKA.out, IntKind.wrap_i64]; omega
   have kw2 : (AT : Int) - (WM : Int) = (K : Int) := HKA.out
   have hck : ¬ cb = K := by omega
   clear f_set f_A f_D f_bw f_m
   go_upto_region 7 with (go_at_call 37; refine HC.out.mono ?_; rintro e u5 ⟨a5, c5, rfl, hs5, hb5⟩)
   clear HC kw kw2 hck
   have K5 : Hid (∀ V, RowKit.Below u5.heap.size u5 V → (V.cell? ⟨w.heap.size, 0, none⟩ = some (.bool fold) ∧ V.cell? ⟨w.heap.size, 1, none⟩ = some (.slice a la ca)) ∧ Wds V a la wss ∧ Bys V b lb text ∧ RowKit.Below w.heap.size w V ∧ (Mach20 w4 (some ⟨B, 0, none⟩) fold wss ∧ RowKit.Below w4.heap.size w4 V) ∧ Hts V a5 kd D) := fun V hV => by
    obtain ⟨f_set, f_A, f_D, f_bw, f_m⟩ := K4.out V (hb5.trans (hV.mono hb5.size))
    exact ⟨f_set, f_A, f_D, f_bw, f_m, hs5.below hV⟩
   clear hb5 K4
   clear hs5
   obtain ⟨f_set, f_A, f_D, f_bw, f_m, f_s5⟩ := K5.out u5 (Below.refl _ _)
   obtain ⟨s0, s1⟩ := f_set
   have HC := rocc_yes fold a b la ca lb cb 0 text wss u5 f_A f_D hla9 (by omega) hcb HML.out (mayP_right HR.out (by decide) (by decide))
   rw [HEE.out] at HC
   have HC := Lib.hid HC
   clear f_A f_D f_bw f_m f_s5
   go_upto_region 8 with (go_at_call 42; refine HC.out.mono ?_; rintro e u6 ⟨v6, rfl, ho6, hb6⟩)
   obtain ⟨a6, c6, rfl, _, hs6⟩ := OwnH.hts ho6 HEB.out
   rw [HKE.out] at hs6
   rw [HKE.out]
   clear HC ho6 s0 s1
   have K6 : Hid (∀ V, RowKit.Below u6.heap.size u6 V → (V.cell? ⟨w.heap.size, 0, none⟩ = some (.bool fold) ∧ V.cell? ⟨w.heap.size, 1, none⟩ = some (.slice a la ca)) ∧ Wds V a la wss ∧ Bys V b lb text ∧ RowKit.Below w.heap.size w V ∧ (Mach20 w4 (some ⟨B, 0, none⟩) fold wss ∧ RowKit.Below w4.heap.size w4 V) ∧ Hts V a5 kd D ∧ Hts V a6 ke E) := fun V hV => by
    obtain ⟨f_set, f_A, f_D, f_bw, f_m, f_s5⟩ := K5.out V (hb6.trans (hV.mono hb6.size))
    exact ⟨f_set, f_A, f_D, f_bw, f_m, f_s5, hs6.below hV⟩
   clear hb6 K5
   clear hs6
   go_wp2_with fail
   go_loopw [13] (fun s13 wr => ∃ i : Nat, i ≤ kd ∧ s13 = .int .i64 (i : Int) ∧ Hid (RowKit.Below u6.heap.size u6 wr)) (fun s _ => kd - (intOf s).toNat)
   case atStart => exact ⟨0, Nat.zero_le _, rfl, Below.refl _ _⟩
   case round =>
    obtain ⟨i, hil, rfl, HBr⟩ := hrel
    by_cases hin : i < kd
    ·
     have hd : decide ((i : Int) < (kd : Int)) = true := by simp; omega
     obtain ⟨f_set, f_A, f_D, f_bw, f_m, f_s5, f_s6⟩ := K6.out wr HBr.out
     obtain ⟨bh, oh, hit, e4, hbh, k0, k1, hhit, hb0', hb1'⟩ := f_s5.at_ hin
     subst e4
     obtain ⟨l1, l2⟩ := HDI.out hit (List.mem_of_getElem? hhit)
     have q1 : (0 : Int) ≤ (i : Int) := by omega
     have q2 : (i : Int) < (kd : Int) := by omega
     have d1 : decide (hit.1 ≤ (AT : Int)) = false := by simp; omega
     have d2 : decide ((lb : Int) < hit.1) = false := by simp; omega
     clear f_set f_A f_D f_bw f_m f_s5 f_s6 hhit
     go_wp2_with fail
     go_roundw
     case rel => exact ⟨i + 1, by omega, by go_num, HBr⟩
     case measure => simp [intOf]; omega
    ·
     obtain rfl : kd = i := by omega
     have hd : decide ((kd : Int) < (kd : Int)) = false := by simp
     obtain ⟨f_set, f_A, f_D, f_bw, f_m, f_s5, f_s6⟩ := K6.out wr HBr.out
     obtain ⟨s0, s1⟩ := f_set
     have J0 : Hid (∀ V, RowKit.Below wr.heap.size wr V → (V.cell? ⟨w.heap.size, 0, none⟩ = some (.bool fold) ∧ V.cell? ⟨w.heap.size, 1, none⟩ = some (.slice a la ca)) ∧ Wds V a la wss ∧ Bys V b lb text ∧ RowKit.Below w.heap.size w V ∧ (Mach20 w4 (some ⟨B, 0, none⟩) fold wss ∧ RowKit.Below w4.heap.size w4 V) ∧ Hts V a5 kd D ∧ Hts V a6 ke E) := fun V hV => K6.out V (HBr.out.trans (hV.mono HBr.out.size))
     have HC := rrise6_any fold a a5 la ca kd c5 D wss wr f_A f_s5 (by omega) (by omega)
     rw [HDR.out] at HC
     have HC := Lib.hid HC
     clear f_A f_D f_bw f_m f_s5 f_s6
     go_wp2_with fail
     refine HC.out.mono ?_
     rintro e u7 ⟨rfl, hb7⟩
     clear HC hd s0 s1
     have J1 : Hid (∀ V, RowKit.Below u7.heap.size u7 V → (V.cell? ⟨w.heap.size, 0, none⟩ = some (.bool fold) ∧ V.cell? ⟨w.heap.size, 1, none⟩ = some (.slice a la ca)) ∧ Wds V a la wss ∧ Bys V b lb text ∧ RowKit.Below w.heap.size w V ∧ (Mach20 w4 (some ⟨B, 0, none⟩) fold wss ∧ RowKit.Below w4.heap.size w4 V) ∧ Hts V a5 kd D ∧ Hts V a6 ke E) := fun V hV => by
      obtain ⟨f_set, f_A, f_D, f_bw, f_m, f_s5, f_s6⟩ := J0.out V (hb7.trans (hV.mono hb7.size))
      exact ⟨f_set, f_A, f_D, f_bw, f_m, f_s5, f_s6⟩
     clear hb7 J0
     obtain ⟨f_set, f_A, f_D, f_bw, f_m, f_s5, f_s6⟩ := J1.out u7 (Below.refl _ _)
     have HC := Lib.hid (betw20 (AT : Int) (lb : Int) a6 ke c6 kd E D u7 f_s6 (by omega) HDE.out HKD.out)
     clear f_set f_A f_D f_bw f_m f_s5 f_s6
     go_wp2_with fail
     refine HC.out.mono ?_
     rintro e u8 ⟨a8, c8, rfl, hs8, hb8⟩
     clear HC
     have J2 : Hid (∀ V, RowKit.Below u8.heap.size u8 V → (V.cell? ⟨w.heap.size, 0, none⟩ = some (.bool fold) ∧ V.cell? ⟨w.heap.size, 1, none⟩ = some (.slice a la ca)) ∧ Wds V a la wss ∧ Bys V b lb text ∧ RowKit.Below w.heap.size w V ∧ (Mach20 w4 (some ⟨B, 0, none⟩) fold wss ∧ RowKit.Below w4.heap.size w4 V) ∧ Hts V a5 kd D ∧ Hts V a6 ke E ∧ Hts V a8 kd D) := fun V hV => by
      obtain ⟨f_set, f_A, f_D, f_bw, f_m, f_s5, f_s6⟩ := J1.out V (hb8.trans (hV.mono hb8.size))
      exact ⟨f_set, f_A, f_D, f_bw, f_m, f_s5, f_s6, hs8.below hV⟩
     clear hb8 J1
     clear hs8
     obtain ⟨f_set, f_A, f_D, f_bw, f_m, f_s5, f_s6, f_s8⟩ := J2.out u8 (Below.refl _ _)
     have HC := rsame6_any a5 a8 kd c5 kd c8 D D u8 f_s5 f_s8 (by omega)
     rw [decide_eq_true rfl] at HC
     have HC := Lib.hid HC
     clear f_set f_A f_D f_bw f_m f_s5 f_s6 f_s8
     go_wp2_with fail
     refine HC.out.mono ?_
     rintro e u9 ⟨rfl, hb9⟩
     clear HC
     have J3 : Hid (∀ V, RowKit.Below u9.heap.size u9 V → (V.cell? ⟨w.heap.size, 0, none⟩ = some (.bool fold) ∧ V.cell? ⟨w.heap.size, 1, none⟩ = some (.slice a la ca)) ∧ Wds V a la wss ∧ Bys V b lb text ∧ RowKit.Below w.heap.size w V ∧ (Mach20 w4 (some ⟨B, 0, none⟩) fold wss ∧ RowKit.Below w4.heap.size w4 V) ∧ Hts V a5 kd D ∧ Hts V a6 ke E ∧ Hts V a8 kd D) := fun V hV => by
      obtain ⟨f_set, f_A, f_D, f_bw, f_m, f_s5, f_s6, f_s8⟩ := J2.out V (hb9.trans (hV.mono hb9.size))
      exact ⟨f_set, f_A, f_D, f_bw, f_m, f_s5, f_s6, f_s8⟩
     clear hb9 J2
     obtain ⟨f_set, f_A, f_D, f_bw, f_m, f_s5, f_s6, f_s8⟩ := J3.out u9 (Below.refl _ _)
     have HBW := Lib.hid f_bw
     clear f_set f_A f_D f_bw f_m f_s5 f_s6 f_s8
     go_wp2_with fail
     refine (wakes20 _).mono ?_
     rintro e w9 ⟨rfl, hb9⟩
     go_wp2
     go_ret
     exact ⟨rfl, HBW.out.trans (hb9.mono HBW.out.size)⟩
end Go.Proofs.YtbldfgaogmfoaaaGreat
