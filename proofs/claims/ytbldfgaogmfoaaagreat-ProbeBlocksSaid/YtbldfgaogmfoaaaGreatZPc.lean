/- What the law's walk takes besides: Op, Fs, Oq, EH, QD, QH, QI, QK, QL, QM. -/
import Derived.Deep.Matrix
import Derived.Lib.MinMax
import Derived.Test.YtbldfgaogmfoaaaGreatZP1
import Derived.Test.YtbldfgaogmfoaaaGreatZP2
import Derived.Test.YtbldfgaogmfoaaaGreatZP3
import Derived.Test.YtbldfgaogmfoaaaGreatZP4
import Derived.Test.YtbldfgaogmfoaaaGreatZP5
import Derived.Test.YtbldfgaogmfoaaaGreatZP6
import Derived.Test.YtbldfgaogmfoaaaGreatZP7
import Derived.Test.YtbldfgaogmfoaaaGreatZP8
import Derived.Test.YtbldfgaogmfoaaaGreatZP9
import Derived.Test.YtbldfgaogmfoaaaGreatZP10
import Derived.Test.YtbldfgaogmfoaaaGreatZP11
import Derived.Test.YtbldfgaogmfoaaaGreatZP12
import Derived.Test.YtbldfgaogmfoaaaGreatZP13
import Derived.Test.YtbldfgaogmfoaaaGreatZP14
import Derived.Test.YtbldfgaogmfoaaaGreatZP15
import Derived.Test.YtbldfgaogmfoaaaGreatZP16
import Derived.Test.YtbldfgaogmfoaaaGreatZP17
import Derived.Test.YtbldfgaogmfoaaaGreatZP18
set_option linter.unusedVariables false
set_option linter.unusedSimpArgs false

namespace Go.Proofs.YtbldfgaogmfoaaaGreat

/-- Hits between two places. -/
def betwH (low high : Int) (l : List HitP) : List HitP := l.filter fun h => decide (low < h.1) && decide (h.1 ≤ high)
/-- A hit stands in a text. -/
def standsH (fold : Bool) (wss : List (List Int)) (frm : Int) (text : List Int) (h : HitP) : Bool :=
 decide (0 ≤ h.2 ∧ h.2 < wss.length ∧ frm ≤ h.1 ∧ h.1 - frm ≤ text.length) && stands fold wss text (h.1 - frm).toNat h.2.toNat

end Go.Proofs.YtbldfgaogmfoaaaGreat

namespace Go.Proofs.YtbldfgaogmfoaaaGreat
open Go.ChangeShapes Go.WideShapes Go.ChangeAt Go.RowKit Go.Joins Go.Deep
set_option maxRecDepth 100000

section
variable {H : Type} {enc : TypeId × Value → H} {W : World} {r : Reach} {base : Nat} {d : DataW H} {p : List MemPlace} {v : Value}

theorem open_sl_u8 (hv : Value.okWide Tryz.prog W r base 25 v) (h : DataW.Trod enc Tryz.prog W 0 (fun _ => true) true 25 v d p) :
  ∃ (a : Option Addr) (len cap : Nat) (zs : List Int), v = .slice a len cap ∧ Bys W a len zs ∧ len ≤ cap ∧ cap ≤ maxLen := by
 obtain ⟨a, len, cap, rfl⟩ := okWide_slice Tryz.underlying25 hv
 obtain ⟨fuel, hf⟩ := h
 rcases open_ints Tryz.underlying25 Tryz.underlying5 (by kernel_rfl) hf with ⟨hcs, _⟩ | ⟨x, l, c, zs, hcs, _, hl, hm, hz, _, hcell, hwz⟩
 ·
  simp [Value.cells] at hcs
  obtain ⟨rfl, rfl, rfl⟩ := hcs
  exact ⟨none, 0, 0, [], rfl, Bys.nil _ _, Nat.le_refl _, by unfold maxLen; omega⟩
 ·
  simp [Value.cells] at hcs
  obtain ⟨rfl, rfl, rfl⟩ := hcs
  have hz' : zs.length = cap := by simpa using hz
  refine ⟨_, len, _, zs.take len, rfl, ⟨⟨by simp; omega, ?_⟩, fun n hn => wf_u8 (hwz n (List.mem_of_mem_take hn))⟩, hl, hm⟩
  by_cases h0 : len = 0
  · exact .inl h0
  ·
   right
   obtain ⟨b, off, spot⟩ := x
   have hc := hcell 0 (by omega)
   obtain rfl : spot = none := by simpa [Addr.add] using World.cell?_spot hc
   refine ⟨b, off, rfl, ?_, fun i u hu => ?_⟩
   ·
    have := World.block_lt_of_cell? W _ hc
    rwa [add_plain] at this
   ·
    have hi : i < len := by have := (List.getElem?_eq_some_iff.1 hu).1; simp at this; omega
    have h1 := hcell i (by omega)
    rw [add_plain] at h1
    rw [h1]
    rw [List.getElem?_take, if_pos hi] at hu
    simp [hu]

end

end Go.Proofs.YtbldfgaogmfoaaaGreat

namespace Go.Proofs.YtbldfgaogmfoaaaGreat

theorem occD_mem {fold : Bool} {wss : List (List Int)} {frm : Int} {text : List Int} {h : HitP} (hm : h ∈ occD fold wss frm text) : standsH fold wss frm text h = true ∧ frm ≤ h.1 ∧ h.1 ≤ frm + text.length ∧ 0 ≤ h.2 ∧ h.2 < wss.length := by
 obtain ⟨p, k, h1, h2, h3, rfl⟩ := mem_occTo.1 hm
 unfold standsH
 dsimp only
 have e1 : (frm + (p : Int) - frm).toNat = p := by omega
 rw [e1, Int.toNat_natCast, h3, decide_eq_true (by omega)]
 exact ⟨rfl, by omega, by omega, by omega, by omega⟩

end Go.Proofs.YtbldfgaogmfoaaaGreat

namespace Go.Proofs.YtbldfgaogmfoaaaGreat
open Go.RowKit Go.Sort

theorem lsf_pre {N : List (List Int)} {M : Nat} (h0 : [] ∈ N) (hM : ∀ y ∈ N, y.length ≤ M) (p x : List Int) (hx : M ≤ x.length) : lsf N (p ++ x) = lsf N x := by
 rw [← lsf_drop h0 hM (p ++ x), ← lsf_drop h0 hM x, List.length_append, List.drop_append, List.drop_eq_nil_of_le (by omega), List.nil_append]
 congr 2
 omega
theorem sufW_pre {ws : List (List Int)} {M : Nat} (hM : ∀ y ∈ ws, y.length ≤ M) (x : List Int) (hx : M ≤ x.length) : ∀ p, sufW ws (p ++ x) = sufW ws x
 | [] => rfl
 | d :: p => by
  rw [List.cons_append, sufW_cons, if_neg, List.nil_append, sufW_pre hM x hx p]
  intro hm
  have := hM _ hm
  simp only [List.length_cons, List.length_append] at this
  omega
theorem goesH_pre {ws : List (List Int)} {M : Nat} (hM : ∀ y ∈ ws, y.length ≤ M) (p : List Int) : ∀ (b x : List Int) (at_ : Int), (p = [] ∨ M ≤ x.length + 1) → goesH ws (p ++ x) at_ b = goesH ws x at_ b
 | [], _, _, _ => rfl
 | c :: b, x, at_, h => by
  rcases h with rfl | h
  · rfl
  ·
   show (sufW ws (p ++ x ++ [c])).map _ ++ goesH ws (p ++ x ++ [c]) (at_ + 1) b = (sufW ws (x ++ [c])).map _ ++ goesH ws (x ++ [c]) (at_ + 1) b
   rw [List.append_assoc, sufW_pre hM (x ++ [c]) (by simp; omega) p, goesH_pre hM p b (x ++ [c]) (at_ + 1) (.inr (by simp; omega))]
theorem goesH_ends {ws : List (List Int)} : ∀ (b x : List Int) (at_ : Int), ∀ h ∈ goesH ws x at_ b, at_ < h.1 ∧ h.1 ≤ at_ + b.length
 | [], _, _, h, hh => by cases hh
 | c :: b, x, at_, h, hh => by
  rcases List.mem_append.1 hh with h1 | h1
  ·
   obtain ⟨v, _, rfl⟩ := List.mem_map.1 h1
   simp only [List.length_cons]
   omega
  ·
   have := goesH_ends b _ _ h h1
   simp only [List.length_cons]
   omega
theorem betw_goes {ws : List (List Int)} (frm : Int) (A B : List Int) : betwH (frm + A.length) (frm + A.length + B.length) (goesH ws [] frm (A ++ B)) = goesH ws A (frm + A.length) B := by
 rw [goesH_append, List.nil_append]
 unfold betwH
 rw [List.filter_append, List.filter_eq_nil_iff.2, List.filter_eq_self.2, List.nil_append]
 ·
  intro h hh
  have := goesH_ends B A _ h hh
  simp; omega
 ·
  intro h hh
  have := goesH_ends A [] frm h hh
  simp; omega

theorem scanH_zero {fold : Bool} {wss : List (List Int)} (hr : rightP fold wss = true) (frm : Int) (F : List Int) : scanH fold wss 0 frm F = goesH wss [] frm (foldL fold F) :=
 scanH_goes (fun y hy => ((right_spec hr).2.2.1 y hy).1) F frm (nodesL_head wss)
theorem foldL_app (fold : Bool) (A B : List Int) : foldL fold (A ++ B) = foldL fold A ++ foldL fold B := by simp only [foldL_map, List.map_append]
theorem foldL_dr (fold : Bool) (A : List Int) (k : Nat) : foldL fold (A.drop k) = (foldL fold A).drop k := by simp only [foldL_map, List.map_drop]

theorem warm_law {fold : Bool} {wss : List (List Int)} (hr : rightP fold wss = true) {M : Nat} (hM : ∀ y ∈ wss, y.length ≤ M) (frm : Int) (A B : List Int) (k : Nat) (hk : k ≤ A.length) (hkm : k = 0 ∨ M ≤ A.length - k + 1) :
  betwH (frm + A.length) (frm + A.length + B.length) (scanH fold wss 0 frm (A ++ B)) = betwH (frm + A.length) (frm + A.length + B.length) (scanH fold wss 0 (frm + k) (A.drop k ++ B)) ∧
  (B.length ≠ 0 → feedZ fold wss 0 (A.drop k ++ B) = feedZ fold wss 0 (A ++ B)) := by
 have hl : ∀ X : List Int, (foldL fold X).length = X.length := fun X => by simp [foldL_map]
 have e1 : foldL fold A = (foldL fold A).take k ++ foldL fold (A.drop k) := by rw [foldL_dr, List.take_append_drop]
 have hd : (A.drop k).length = A.length - k := by simp
 have hpx : (foldL fold A).take k = [] ∨ M ≤ (foldL fold (A.drop k)).length + 1 := by
  rcases hkm with rfl | h
  · exact .inl rfl
  · right; rw [hl, hd]; exact h
 constructor
 ·
  have g1 := betw_goes (ws := wss) frm (foldL fold A) (foldL fold B)
  have g2 := betw_goes (ws := wss) (frm + k) (foldL fold (A.drop k)) (foldL fold B)
  rw [hl, hl] at g1 g2
  rw [hd, show frm + (k : Int) + ((A.length - k : Nat) : Int) = frm + A.length by omega] at g2
  rw [scanH_zero hr, scanH_zero hr, foldL_app, foldL_app, g1, g2]
  conv => lhs; rw [e1]
  exact goesH_pre hM _ _ _ _ hpx
 ·
  intro hb
  have hh := nodesL_head wss
  have f1 := feedZ_at (fold := fold) hh (A.drop k ++ B)
  have f2 := feedZ_at (fold := fold) hh (A ++ B)
  have h0 : [] ∈ nodesL wss := List.mem_of_getElem? hh
  have hN : ∀ y ∈ nodesL wss, y.length ≤ M := fun y hy => by
   rcases (mem_nodesL wss).1 hy with rfl | ⟨w, hw, n, _, hn, rfl⟩
   · simp
   ·
    rw [List.length_take]
    have := hM w hw
    omega
  have e2 : lsf (nodesL wss) (foldL fold (A ++ B)) = lsf (nodesL wss) (foldL fold (A.drop k ++ B)) := by
   rw [foldL_app, foldL_app]
   conv => lhs; rw [e1]
   rcases hkm with rfl | h
   · rfl
   ·
    rw [List.append_assoc]
    exact lsf_pre h0 hN _ _ (by rw [List.length_append, hl, hl, hd]; omega)
  rw [List.nil_append] at f1 f2
  rw [← e2] at f1
  exact nodup_at (nodesL_srt wss).nodup f1 f2
end Go.Proofs.YtbldfgaogmfoaaaGreat

namespace Go.Proofs.YtbldfgaogmfoaaaGreat
open Go.RowKit Go.Sort

theorem bcells_append (l m : List BlkP) : bcells (l ++ m) = bcells l ++ bcells m := by simp [bcells]
end Go.Proofs.YtbldfgaogmfoaaaGreat

namespace Go.Proofs.YtbldfgaogmfoaaaGreat
open Go.RowKit Go.Sort

/-- The node behind so many bytes of a block; the hits told of them. -/
def prZ (fold : Bool) (wss : List (List Int)) (bs : List Int) (d : Nat) : Nat := feedZ fold wss 0 (bs.take d)
def prH (fold : Bool) (wss : List (List Int)) (st wm : Int) (bs : List Int) (d : Nat) : List HitP := ownB20 st (scanH fold wss 0 (st - wm) (bs.take d))
section
variable {fold : Bool} {wss : List (List Int)} {st wm : Int} {bs : List Int}
theorem take_slc {d : Nat} {m : Int} (hd : d ≤ bs.length) : bs.take (d + takeN bs.length d m) = bs.take d ++ slcF bs d m := by
 unfold slcF
 rw [Int.toNat_natCast, List.take_add]
theorem prZ_lt (h : prbD fold wss st wm bs.length 0 0 = true) (d : Nat) : prZ fold wss bs d < (nodesL wss).length := feedZ_lt (by have := (prbD_parts h).2.2.1; omega) _
theorem prb_ok (h : prbD fold wss st wm bs.length 0 0 = true) {d : Nat} (hd : d ≤ bs.length) : prbD fold wss st wm bs.length (prZ fold wss bs d) d = true := by
 obtain ⟨h1, h2, _⟩ := prbD_parts h
 have h3 := prZ_lt h d
 unfold prbD scanR
 rw [h1, h2, decide_eq_true (show (0 : Int) ≤ (d : Int) ∧ (d : Int) ≤ (bs.length : Int) by omega), decide_eq_true (show ((0 : Int) ≤ (prZ fold wss bs d : Int) ∧ (prZ fold wss bs d : Int) < ((nodesL wss).length : Int)) ∧ (0 : Int) ≤ 0 ∧ (0 : Int) ≤ 4611686020574871551 by omega)]
 rfl
theorem prb_step (h : prbD fold wss st wm bs.length 0 0 = true) {d : Nat} (hd : d ≤ bs.length) (m : Int) :
  slZ fold wss st wm bs (prZ fold wss bs d) d m = (prZ fold wss bs (d + takeN bs.length d m) : Nat) ∧ slD fold wss st wm bs (prZ fold wss bs d) d m = ((d + takeN bs.length d m : Nat) : Int) ∧
  prH fold wss st wm bs d ++ slH fold wss st wm bs (prZ fold wss bs d) d m = prH fold wss st wm bs (d + takeN bs.length d m) ∧ slO fold wss st wm bs (prZ fold wss bs d) d m = (((d + takeN bs.length d m : Nat) : Int) == (bs.length : Int)) ∧ d + takeN bs.length d m ≤ bs.length := by
 have hp := prb_ok h hd
 have ht := takeN_le (n := bs.length) (d := (d : Int)) (m := m) (by omega) (by omega)
 rw [Int.toNat_natCast] at ht
 unfold slZ slD slH slO
 rw [if_pos hp, if_pos hp, if_pos hp, if_pos hp]
 refine ⟨?_, by omega, ?_, ?_, ht⟩
 ·
  unfold prZ
  rw [take_slc hd, feedZ_append, Int.toNat_natCast]
 ·
  unfold prH slcH
  rw [take_slc hd, scanH_append, ownB20_append, List.length_take, Nat.min_eq_left hd, Int.toNat_natCast]
  rfl
 ·
  rw [show (d : Int) + ((takeN bs.length d m : Nat) : Int) = ((d + takeN bs.length d m : Nat) : Int) by omega]
  rfl
theorem prb_whole (h : prbD fold wss st wm bs.length 0 0 = true) : whH fold wss st wm bs = prH fold wss st wm bs bs.length := by
 have h3 := (prb_step h (Nat.zero_le _) (bs.length : Int)).2.2.1
 have ht : takeN bs.length ((0 : Nat) : Int) (bs.length : Int) = bs.length := by unfold takeN; omega
 rw [ht, Nat.zero_add] at h3
 rw [← h3]
 rfl
end
end Go.Proofs.YtbldfgaogmfoaaaGreat

namespace Go.Proofs.YtbldfgaogmfoaaaGreat
open Go.RowKit Go.Sort

section
variable {fold : Bool} {wss : List (List Int)}
theorem mayP_right {frm : Int} (hr : rightP fold wss = true) (h0 : 0 ≤ frm) (h1 : frm ≤ 4611686018427387904) : mayP fold wss frm = true := by
 unfold mayP
 rw [hr, decide_eq_true ⟨h0, h1⟩]
 rfl
theorem occ_scan (hr : rightP fold wss = true) (frm : Int) (text : List Int) : occD fold wss frm text = scanH fold wss 0 frm text := by
 rw [occ_goes (right_nodup hr).1 (fun y hy => ((right_spec hr).2.2.1 y hy).1) (right_nodup hr).2 frm text, scanH_zero hr]
theorem longL_max (hr : rightP fold wss = true) : ∃ M : Nat, longL wss = (M : Int) ∧ (∀ y ∈ wss, y.length ≤ M) ∧ 1 ≤ M ∧ M ≤ 32 := by
 obtain ⟨M, h1, h2, h3⟩ := longL_spec wss
 refine ⟨M, h1, h2, ?_, h3 32 (fun v hv => ((right_spec hr).2.2.1 v hv).2)⟩
 obtain ⟨_, h4, h5, _⟩ := right_spec hr
 obtain ⟨v, hv⟩ := List.exists_mem_of_ne_nil _ h4
 have := (h5 v hv).1
 have := h2 v hv
 omega
/-- A block of a text: of the warm-up's length, at a place, of so many own bytes. -/
theorem block_law (hr : rightP fold wss = true) (frm : Int) (text : List Int) (at_ own : Nat) (k M : Nat) (hM : ∀ y ∈ wss, y.length ≤ M) (hat : at_ + own ≤ text.length) (hk : k ≤ at_) (hkm : k = 0 ∨ M ≤ at_ - k + 1) :
  ownB20 (frm + at_) (scanH fold wss 0 (frm + k) ((text.drop k).take (at_ - k + own))) = betwH (frm + at_) (frm + at_ + own) (occD fold wss frm text) := by
 have hA : (text.take at_).length = at_ := by rw [List.length_take]; omega
 have hBl : ((text.drop at_).take own).length = own := by rw [List.length_take, List.length_drop]; omega
 have hw := (warm_law hr hM frm (text.take at_) ((text.drop at_).take own) k (by rw [hA]; exact hk) (by rw [hA]; exact hkm)).1
 rw [hA, hBl] at hw
 have e1 : (text.take at_).drop k ++ (text.drop at_).take own = (text.drop k).take (at_ - k + own) := by
  rw [List.take_add, List.drop_take, List.drop_drop, show k + (at_ - k) = at_ by omega]
 have e2 : text.take at_ ++ (text.drop at_).take own = text.take (at_ + own) := by rw [List.take_add]
 rw [e1, e2] at hw
 have hx : (text.drop k).take (at_ - k + own) = (text.drop k).take (at_ - k + own) := rfl
 have hl : ((text.drop k).take (at_ - k + own)).length = at_ - k + own := by rw [List.length_take, List.length_drop]; omega
 have hp : 0 < (nodesL wss).length := (List.getElem?_eq_some_iff.1 (nodesL_head wss)).1
 have e3 : ownB20 (frm + at_) (scanH fold wss 0 (frm + k) ((text.drop k).take (at_ - k + own))) = betwH (frm + at_) (frm + at_ + own) (scanH fold wss 0 (frm + k) ((text.drop k).take (at_ - k + own))) := by
  unfold ownB20 betwH
  refine List.filter_congr fun h hh => ?_
  have hb := (scanH_bd (right_nodup hr).1 (fun x hx => ((right_spec hr).2.2.1 x hx).1) _ 0 (frm + k) hp h hh).1
  rw [hl] at hb
  rw [Bool.eq_iff_iff]
  simp
  omega
 rw [e3, ← hw, occ_scan hr]
 conv => rhs; rw [← List.take_append_drop (at_ + own) text, scanH_append]
 unfold betwH
 rw [List.filter_append]
 have e4 : (scanH fold wss (feedZ fold wss 0 (text.take (at_ + own))) (frm + ((text.take (at_ + own)).length : Int)) (text.drop (at_ + own))).filter (fun h => decide (frm + (at_ : Int) < h.1) && decide (h.1 ≤ frm + (at_ : Int) + (own : Int))) = [] := by
  rw [List.filter_eq_nil_iff]
  intro h hh
  have hb := (scanH_bd (right_nodup hr).1 (fun x hx => ((right_spec hr).2.2.1 x hx).1) _ _ _ (feedZ_lt hp _) h hh).1
  have hl2 : (text.take (at_ + own)).length = at_ + own := by rw [List.length_take]; omega
  rw [hl2] at hb
  simp
  omega
 rw [e4, List.append_nil]
/-- What a block tells as a whole. -/
theorem whH_block (hr : rightP fold wss = true) (frm : Int) (text : List Int) (at_ own k M : Nat) (hML : longL wss = (M : Int)) (hM : ∀ y ∈ wss, y.length ≤ M) (hat : at_ + own ≤ text.length) (hk : k ≤ at_) (hkm : k = 0 ∨ M ≤ at_ - k + 1) (hkM : at_ - k + 1 ≤ M) (ho : 1 ≤ own) (ho2 : own ≤ 256) (hf : 0 ≤ frm) (hf2 : frm + at_ ≤ 4611686020574871551) :
  whH fold wss (frm + at_) ((at_ - k : Nat) : Int) ((text.drop k).take (at_ - k + own)) = betwH (frm + at_) (frm + at_ + own) (occD fold wss frm text) := by
 have hl : ((text.drop k).take (at_ - k + own)).length = at_ - k + own := by rw [List.length_take, List.length_drop]; omega
 have hp : 0 < (nodesL wss).length := (List.getElem?_eq_some_iff.1 (nodesL_head wss)).1
 have h0 : prbD fold wss (frm + at_) ((at_ - k : Nat) : Int) ((text.drop k).take (at_ - k + own)).length 0 0 = true := by
  rw [hl]
  unfold prbD scanR scnP
  rw [hr, hML, decide_eq_true (show ((0 : Int) ≤ 0 ∧ (0 : Int) < ((nodesL wss).length : Int)) ∧ (0 : Int) ≤ 0 ∧ (0 : Int) ≤ 4611686020574871551 by omega), decide_eq_true (show 0 ≤ frm + (at_ : Int) ∧ frm + (at_ : Int) ≤ 4611686020574871551 ∧ 0 ≤ ((at_ - k : Nat) : Int) ∧ ((at_ - k : Nat) : Int) ≤ (M : Int) - 1 ∧ ((at_ - k : Nat) : Int) ≤ frm + (at_ : Int) ∧ 1 ≤ ((at_ - k + own : Nat) : Int) - ((at_ - k : Nat) : Int) ∧ ((at_ - k + own : Nat) : Int) - ((at_ - k : Nat) : Int) ≤ 256 by omega), decide_eq_true (show (0 : Int) ≤ 0 ∧ (0 : Int) ≤ ((at_ - k + own : Nat) : Int) by omega)]
  rfl
 rw [prb_whole h0]
 unfold prH
 rw [List.take_of_length_le (Nat.le_refl _), show frm + (at_ : Int) - ((at_ - k : Nat) : Int) = frm + (k : Int) by omega]
 exact block_law hr frm text at_ own k M hM hat hk hkm
theorem occ_le (hr : rightP fold wss = true) (frm : Int) (text : List Int) : (occD fold wss frm text).length ≤ 400 * text.length := by
 rw [occ_scan hr]
 have h4 : (nodesL wss).length ≤ 400 := read_n (readP_iff.2 ⟨right_false hr, rfl, rfl⟩)
 have hp : 0 < (nodesL wss).length := (List.getElem?_eq_some_iff.1 (nodesL_head wss)).1
 exact Nat.le_trans (scanH_len _ _ _ hp) (Nat.mul_le_mul_right _ h4)
end
end Go.Proofs.YtbldfgaogmfoaaaGreat

namespace Go.Proofs.YtbldfgaogmfoaaaGreat
open Go.RowKit Go.Sort

/-- May a cutting be? -/
def mayB (s L frm : Int) : Bool := decide ((1 ≤ s ∧ s ≤ 256) ∧ (1 ≤ L ∧ L ≤ 32) ∧ 0 ≤ frm ∧ frm ≤ 4611686018427387904)

set_option maxRecDepth 100000 in
set_option maxHeartbeats 4000000 in
theorem may19_any (s L frm : Int) (w : World) : Calls Tryz.prog 78 #[.int .i64 s, .int .i64 L, .int .i64 frm] w fun e w' => e = .returned (.bool (mayB s L frm)) ∧ w = w' := by
 obtain ⟨R, hR⟩ : ∃ R, mayB s L frm = R := ⟨_, rfl⟩
 rw [hR]
 unfold mayB at hR
 by_cases h1 : 1 ≤ s
 case neg =>
  have e : false = R := by rw [← hR]; exact (decide_eq_false (by omega)).symm
  have d1 : decide ((1 : Int) ≤ s) = false := by simpa using h1
  subst e
  clear hR h1
  go_enter Tryz.func78, Tryz.ntmps78
  go_wp2
  go_ret
  exact ⟨rfl, rfl⟩
 have d1 : decide ((1 : Int) ≤ s) = true := by simpa using h1
 by_cases h2 : s ≤ 256
 case neg =>
  have e : false = R := by rw [← hR]; exact (decide_eq_false (by omega)).symm
  have d2 : decide (s ≤ (256 : Int)) = false := by simpa using h2
  subst e
  clear hR h1 h2
  go_enter Tryz.func78, Tryz.ntmps78
  go_wp2
  go_ret
  exact ⟨rfl, rfl⟩
 have d2 : decide (s ≤ (256 : Int)) = true := by simpa using h2
 by_cases h3 : 1 ≤ L
 case neg =>
  have e : false = R := by rw [← hR]; exact (decide_eq_false (by omega)).symm
  have d3 : decide ((1 : Int) ≤ L) = false := by simpa using h3
  subst e
  clear hR h1 h2 h3
  go_enter Tryz.func78, Tryz.ntmps78
  go_wp2
  go_ret
  exact ⟨rfl, rfl⟩
 have d3 : decide ((1 : Int) ≤ L) = true := by simpa using h3
 by_cases h4 : L ≤ 32
 case neg =>
  have e : false = R := by rw [← hR]; exact (decide_eq_false (by omega)).symm
  have d4 : decide (L ≤ (32 : Int)) = false := by simpa using h4
  subst e
  clear hR h1 h2 h3 h4
  go_enter Tryz.func78, Tryz.ntmps78
  go_wp2
  go_ret
  exact ⟨rfl, rfl⟩
 have d4 : decide (L ≤ (32 : Int)) = true := by simpa using h4
 by_cases h5 : 0 ≤ frm
 case neg =>
  have e : false = R := by rw [← hR]; exact (decide_eq_false (by omega)).symm
  have d5 : decide ((0 : Int) ≤ frm) = false := by simpa using h5
  subst e
  clear hR h1 h2 h3 h4 h5
  go_enter Tryz.func78, Tryz.ntmps78
  go_wp2
  go_ret
  exact ⟨rfl, rfl⟩
 have d5 : decide ((0 : Int) ≤ frm) = true := by simpa using h5
 have e : decide (frm ≤ (4611686018427387904 : Int)) = R := by rw [← hR]; exact decide_eq_decide.2 ⟨fun h => by omega, fun h => by omega⟩
 subst e
 clear hR h1 h2 h3 h4 h5
 go_enter Tryz.func78, Tryz.ntmps78
 go_wp2
 go_ret
 exact ⟨rfl, rfl⟩

theorem results_block {fn : Func} {p : Tmp} {tmps : Array Value} {W : World} {B : Nat} {x y z u : Value} (h : fn.results = #[.cell p 60]) (hp : tmps.getD p undef = .pointer (some ⟨B, 0, none⟩)) (hB : W.heap[B]? = some (.cells #[x, y, z, u] 60 (0, 0))) :
  (results fn tmps).run Tryz.prog W = .ok (.agg #[x, y, z, u]) W := by
 have hl : (loadVar 60 ⟨B, 0, none⟩).run Tryz.prog W = .ok (.agg #[x, y, z, u]) W := run_loadVar_row W B 60 60 #[x, y, z, u] (0, 0) _ hB Tryz.underlying60 rfl (by kernel_rfl)
 have hp' : tmps[p]?.getD undef = .pointer (some ⟨B, 0, none⟩) := by simpa using hp
 simp [results, h, hp', asAddr, hl, Result.andThen]

set_option maxRecDepth 100000 in
set_option maxHeartbeats 8000000 in
theorem one19_any (s L frm : Int) (b : Option Addr) (lb cb : Nat) (text : List Int) (i F E WM : Nat) (w : World) (hD : Bys w b lb text) (hcb : lb ≤ cb) (hlb : lb ≤ 1000) (hs : 1 ≤ s ∧ s ≤ 256) (hL : 1 ≤ L ∧ L ≤ 32) (hf : 0 ≤ frm ∧ frm ≤ 4611686018427387904) (hF : (i : Int) * s = (F : Int)) (hFl : F < lb)
  (hE : min ((F : Int) + s) (lb : Int) = (E : Int)) (hWM : min (L - 1) (F : Int) = (WM : Int)) :
  Calls Tryz.prog 79 #[.int .i64 s, .int .i64 L, .int .i64 frm, .slice b lb cb, .int .i64 (i : Int)] w fun e w' => ∃ (a1 : Option Addr) (c1 : Nat), e = .returned (.agg (blV i (frm + F) WM a1 (E - (F - WM)) c1)) ∧ OwnB w' w.heap.size (.slice a1 (E - (F - WM)) c1) (E - (F - WM)) ((text.drop (F - WM)).take (E - (F - WM))) ∧ Below w.heap.size w w' := by
 obtain ⟨i0, hi, hz0, hz1, hz2⟩ := info_parts u8_info
 obtain ⟨K, hK⟩ : ∃ K, F - WM = K := ⟨_, rfl⟩
 rw [hK]
 have hWF : WM ≤ F := by omega
 have hEl : E ≤ lb := by omega
 have hFE : F < E := by omega
 have hKF : (F : Int) - (WM : Int) = (K : Int) := by omega
 obtain ⟨W, hW⟩ : ∃ W, W = w.alloc (.cells #[.int .i64 0, .int .i64 0, .int .i64 0, .slice none 0 0] 60) := ⟨_, rfl⟩
 have hB : Below w.heap.size w W := by rw [hW]; exact below_alloc _ _
 have hz : W.heap[w.heap.size]? = some (.cells #[.int .i64 0, .int .i64 0, .int .i64 0, .slice none 0 0] 60 (0, 0)) := by rw [hW]; exact World.alloc_heap_new _ _
 have hbA := below_alloc W (.cells #[] 5)
 have hA1 : Bys (W.alloc (.cells #[] 5)) (Option.map (fun z => z.add K) b) (E - K) ((text.drop K).take (E - K)) := (((hD.below hB).below hbA).drop (m := K) (by omega)).take (by omega)
 have hown0 : OwnB (W.alloc (.cells #[] 5)) W.heap.size (.slice (some ⟨W.heap.size, 0, none⟩) 0 0) 0 [] := World.ownsRow_lit W #[] 0 (Nat.le_refl _) (Nat.zero_le _) rfl
 have hbd : ∀ x ∈ (text.drop K).take (E - K), 0 ≤ x ∧ x ≤ 255 := hA1.2
 obtain ⟨X, hX⟩ : ∃ X, (text.drop K).take (E - K) = X := ⟨_, rfl⟩
 rw [hX] at hA1 hbd ⊢
 have HE := Lib.hid hE
 have HWM := Lib.hid hWM
 have HB := Lib.hid hB
 have HZ := Lib.hid hz
 have kw1 : IntKind.i64.wrap ((i : Int) * s) = (F : Int) := by rw [hF, IntKind.wrap_i64]; omega
 have kw4 : IntKind.i64.wrap ((F : Int) - (WM : Int)) = (K : Int) := by rw [hKF, IntKind.wrap_i64]; omega
 have kw5 : IntKind.i64.wrap (frm + (F : Int)) = frm + (F : Int) := by rw [IntKind.wrap_i64]; omega
 have hck : ¬ cb = K := by omega
 have k0 : K ≤ E := by omega
 have k1 : E ≤ cb := by omega
 clear hD hE hWM hB hz hK hX
 go_enter Tryz.func79, Tryz.ntmps79
 go_upto_region 1 with fail
 rw [← hW]
 clear hW
 go_upto_region 2 with fail
 go_upto_region 3 with fail
 rw [HE.out]
 go_upto_region 4 with fail
 rw [HWM.out]
 have hsz : W.heap.size ≤ (W.alloc (.cells #[] 5)).heap.size := by simp
 have hzA : (W.alloc (.cells #[] 5)).heap[w.heap.size]? = _ := (hbA.block _ (Array.getElem?_eq_some_iff.1 HZ.out).1).trans HZ.out
 have hWl : w.heap.size < W.heap.size := (Array.getElem?_eq_some_iff.1 HZ.out).1
 have HAFT : Hid (∀ (w5 : World), (W.alloc (.cells #[] 5)).grownBy w5 (Value.slice (some ⟨W.heap.size, 0, none⟩) 0 0).ownBlock → w5.heap[w.heap.size]? = some (.cells #[.int .i64 0, .int .i64 0, .int .i64 0, .slice none 0 0] 60 (0, 0)) ∧ RowKit.Below w.heap.size w w5) := fun w5 hgrow =>
  ⟨(hgrow.block w.heap.size (by simp; omega) (fun e => by have h2 : w.heap.size = W.heap.size := Option.some.inj e; omega)).trans hzA,
   (HB.out.trans (hbA.mono HB.out.size)).grown hgrow (by have := HB.out.size; simp; omega) (fun j hj => by have h2 : W.heap.size = j := Option.some.inj hj; omega)⟩
 have HC4 : Hid (∀ (V : World), V.heap[w.heap.size]? = some (.cells #[.int .i64 0, .int .i64 0, .int .i64 0, .slice none 0 0] 60 (0, 0)) → (V.cell? ⟨w.heap.size, 0, none⟩ = some (.int .i64 0) ∧ V.cell? ⟨w.heap.size, 1, none⟩ = some (.int .i64 0) ∧ V.cell? ⟨w.heap.size, 2, none⟩ = some (.int .i64 0) ∧ V.cell? ⟨w.heap.size, 3, none⟩ = some (.slice none 0 0)) ∧ (V.frozen? ⟨w.heap.size, 0, none⟩ = false ∧ V.frozen? ⟨w.heap.size, 1, none⟩ = false ∧ V.frozen? ⟨w.heap.size, 2, none⟩ = false ∧ V.frozen? ⟨w.heap.size, 3, none⟩ = false)) := fun V h =>
  ⟨⟨by simp [World.cell?, h], by simp [World.cell?, h], by simp [World.cell?, h], by simp [World.cell?, h]⟩, ⟨by simp [World.frozen?, h], by simp [World.frozen?, h], by simp [World.frozen?, h], by simp [World.frozen?, h]⟩⟩
 clear hzA hbA
 go_wp2_with (at_builtin; refine wpList_append_sl1 rfl _ _ 25 rfl u8_one W.heap.size 5 i0 (.int .u8 0) 1 Tryz.underlying25 hi hz0 hz1 hz2 rfl (.slice (some ⟨W.heap.size, 0, none⟩) 0 0) 0 [] rfl hown0 (Option.map (fun z => z.add K) b) (E - K) (cb - K) X rfl hA1.1 (by unfold maxLen; omega) (by omega) hsz ?_; intro v' w5 hown' hgrow hat; rw [Nat.zero_add, List.nil_append] at hown'; obtain ⟨a1, c1, rfl, _, hBx⟩ := own_bys (xs := X) hown' hbd; obtain ⟨hz5, hB5⟩ := HAFT.out w5 hgrow; obtain ⟨⟨t0, t1, t2, t3⟩, ⟨f0, f1, f2, f3⟩⟩ := HC4.out w5 hz5; have HZ5 := Lib.hid hz5; have HB5 := Lib.hid hB5; have HBX := Lib.hid hBx; have HOW := Lib.hid hown'; clear hz5 hB5 hBx hown' hgrow hat hown0 hA1 hsz)
 obtain ⟨U1, hU1⟩ : ∃ U, U = w5.setCell ⟨w.heap.size, 0, none⟩ (.int .i64 (i : Int)) := ⟨_, rfl⟩
 obtain ⟨U2, hU2⟩ : ∃ U, U = U1.setCell ⟨w.heap.size, 1, none⟩ (.int .i64 (frm + (F : Int))) := ⟨_, rfl⟩
 obtain ⟨U3, hU3⟩ : ∃ U, U = U2.setCell ⟨w.heap.size, 2, none⟩ (.int .i64 (WM : Int)) := ⟨_, rfl⟩
 obtain ⟨U4, hU4⟩ : ∃ U, U = U3.setCell ⟨w.heap.size, 3, none⟩ (.slice a1 (E - K) c1) := ⟨_, rfl⟩
 rw [← hU1, ← hU2, ← hU3, ← hU4]
 have h4 := set_at (i := 3) (set_at (i := 2) (set_at (i := 1) (set_at (i := 0) HZ5.out (.int .i64 (i : Int))) (.int .i64 (frm + (F : Int)))) (.int .i64 (WM : Int))) (.slice a1 (E - K) c1)
 rw [← hU1, ← hU2, ← hU3, ← hU4] at h4
 have hfar : ∀ (V : World), V.ownsRow W.heap.size 5 1 (.slice a1 (E - K) c1) (E - K) (X.map (Value.int .u8)) → ∀ (j : Nat) (u : Value), (V.setCell ⟨w.heap.size, j, none⟩ u).ownsRow W.heap.size 5 1 (.slice a1 (E - K) c1) (E - K) (X.map (Value.int .u8)) := fun V h j u => h.kept (grown_set2 V w.heap.size j u) (.inr (fun e => by have := (row_lt h _ e).1; omega))
 have o4 := hfar _ (hfar _ (hfar _ (hfar _ HOW.out 0 (.int .i64 (i : Int))) 1 (.int .i64 (frm + (F : Int)))) 2 (.int .i64 (WM : Int))) 3 (.slice a1 (E - K) c1)
 rw [← hU1, ← hU2, ← hU3, ← hU4] at o4
 have b4 : RowKit.Below w.heap.size w U4 := by
  rw [hU4, hU3, hU2, hU1]
  exact (((HB5.out.setCell (Nat.le_refl _) _).setCell (Nat.le_refl _) _).setCell (Nat.le_refl _) _).setCell (Nat.le_refl _) _
 obtain ⟨a2, c2, e2, _, hBy⟩ := own_bys (xs := X) o4 hbd
 cases e2
 refine bodyPost_ret (results_block rfl rfl (by simpa using h4)) rfl ?_
 exact ⟨_, _, rfl, row_lower o4 HB.out.size, b4⟩

theorem blk_info : (Tryz.prog.info? 60).map (fun i => (i.zero, i.size, i.bytes)) = some (some (.agg #[.int .i64 0, .int .i64 0, .int .i64 0, .slice none 0 0]), 4, 48) := by kernel_rfl
theorem slk_blk (V : World) (x : BlkP) : SlK 4 (V.alloc (.cells #[.int .i64 x.nu, .int .i64 x.st, .int .i64 x.wm, .slice x.ad x.n x.c] 60)) (some ⟨V.heap.size, 0, none⟩) 1 (bcells [x]) := by
 refine ⟨rfl, .inr ⟨V.heap.size, 0, rfl, by simp, fun i u hu => ?_⟩⟩
 have := cells_new (w := V) #[.int .i64 x.nu, .int .i64 x.st, .int .i64 x.wm, .slice x.ad x.n x.c] 60 rfl i u (by exact hu)
 rwa [add_plain] at this
/-- The rows of two types of elements are two. -/
theorem rows_far {w : World} {b b' n n' s s' : Nat} {e e' : TypeId} {v v' : Value} {xs ys : List Value} (h : w.ownsRow b e s v n xs) (h' : w.ownsRow b' e' s' v' n' ys) (he : e ≠ e') : v.ownBlock = none ∨ v.ownBlock ≠ v'.ownBlock := by
 rcases h.2 with ⟨rfl, _⟩ | ⟨g, cap, cur, rfl, _, hh, _⟩
 · exact .inl rfl
 ·
  right
  rcases h'.2 with ⟨rfl, _⟩ | ⟨g', cap', cur', rfl, _, hh', _⟩
  · simp [Value.ownBlock]
  ·
   intro e2
   have e3 : g' = g := by simpa [Value.ownBlock, eq_comm] using e2
   rw [e3, hh] at hh'
   cases hh'
   exact he rfl
/-- The block of a number, as it is cut. -/
def cutX (S LN : Nat) (frm : Int) (text : List Int) (j : Nat) (x : BlkP) : Prop := j * S < text.length ∧ x.st = frm + ((j * S : Nat) : Int) ∧ x.wm = ((min (LN - 1) (j * S) : Nat) : Int) ∧ x.bs = (text.drop (j * S - min (LN - 1) (j * S))).take (min (j * S + S) text.length - (j * S - min (LN - 1) (j * S)))
/-- Blocks that the call makes, in a row of its own. -/
def OwnBl (w : World) (base : Nat) (v : Value) (l : List BlkP) : Prop := w.ownsRow base 60 4 v l.length (bcells l) ∧ ∀ x ∈ l, OwnB w base (.slice x.ad x.n x.c) x.n x.bs ∧ (∀ y ∈ x.bs, 0 ≤ y ∧ y ≤ 255) ∧ x.n ≤ 900000
theorem OwnBl.below {w w' : World} {base : Nat} {v : Value} {l : List BlkP} (h : OwnBl w base v l) (hb : Below w.heap.size w w') : OwnBl w' base v l := ⟨own_below_ h.1 hb, fun x hx => ⟨own_below_ (h.2 x hx).1 hb, (h.2 x hx).2⟩⟩
theorem OwnBl.bls {w : World} {base : Nat} {v : Value} {l : List BlkP} (h : OwnBl w base v l) : ∃ a c, v = .slice a l.length c ∧ Bls w a l.length l := by
 obtain ⟨a, c, rfl, _, hs⟩ := SlK.own h.1
 refine ⟨a, c, rfl, hs, fun x hx => ?_⟩
 obtain ⟨h1, h2, h3⟩ := h.2 x hx
 obtain ⟨a', c', e, _, hb⟩ := own_bys h1 h2
 cases e
 exact ⟨hb, h3⟩
theorem bcells_one (x : BlkP) : ∀ u ∈ bcells [x], u.oneCell' = true := by
 intro u hu
 simp only [bcells, List.flatMap_cons, List.flatMap_nil, List.append_nil, blE, List.mem_cons, List.not_mem_nil, or_false] at hu
 rcases hu with rfl | rfl | rfl | rfl <;> rfl

set_option maxRecDepth 100000 in
set_option maxHeartbeats 16000000 in
theorem of19_no (s L frm : Int) (b : Option Addr) (lb cb : Nat) (w : World) (hm : mayB s L frm = false) :
  Calls Tryz.prog 40 #[.int .i64 s, .int .i64 L, .int .i64 frm, .slice b lb cb] w fun e w' => e = .returned (.tuple #[.slice none 0 0, .int .i64 2]) ∧ Below w.heap.size w w' := by
 have HC := may19_any s L frm w
 rw [hm] at HC
 have HC := Lib.hid HC
 clear hm
 go_enter Tryz.func40, Tryz.ntmps40
 go_wp2_with fail
 refine HC.out.mono ?_
 rintro e w1 ⟨rfl, rfl⟩
 go_wp2
 go_ret2
 exact ⟨rfl, Below.refl _ _⟩

set_option maxRecDepth 100000 in
set_option maxHeartbeats 16000000 in
theorem of19_yes (S LN : Nat) (frm : Int) (b : Option Addr) (lb cb : Nat) (text : List Int) (w : World) (hD : Bys w b lb text) (hcb : lb ≤ cb) (hlb : lb ≤ 200) (hm : mayB S LN frm = true) :
  Calls Tryz.prog 40 #[.int .i64 (S : Int), .int .i64 (LN : Int), .int .i64 frm, .slice b lb cb] w fun e w' => ∃ v l, e = .returned (.tuple #[v, .int .i64 0]) ∧ OwnBl w' w.heap.size v l ∧ (∀ j x, l[j]? = some x → cutX S LN frm text j x) ∧ lb ≤ l.length * S ∧ l.length ≤ 200 ∧ Below w.heap.size w w' := by
 obtain ⟨i0, hi, hz0, hz1, hz2⟩ := info_parts blk_info
 have HC := may19_any S LN frm w
 rw [hm] at HC
 have HC := Lib.hid HC
 unfold mayB at hm
 obtain ⟨⟨m1, m2⟩, ⟨m3, m4⟩, m5, m6⟩ := of_decide_eq_true hm
 have hDl : text.length = lb := hD.len
 have HD := Lib.hid hD
 have HDL := Lib.hid hDl
 have d1 : decide (4611686020574871551 - (lb : Int) < frm) = false := by simp; omega
 clear hm hD hDl
 go_enter Tryz.func40, Tryz.ntmps40
 go_wp2_with fail
 refine HC.out.mono ?_
 rintro e w1 ⟨rfl, rfl⟩
 go_upto_region 5 with fail
 clear d1
 go_loopw [10, 11] (fun s10 s11 wr => ∃ (i : Nat) (l : List BlkP), i ≤ lb ∧ s11 = .int .i64 (i : Int) ∧ l.length = i ∧ Hid (OwnBl wr w.heap.size s10 l) ∧ Hid (∀ j x, l[j]? = some x → cutX S LN frm text j x) ∧ Hid (RowKit.Below w.heap.size w wr)) (fun _ s _ => lb + 1 - (intOf s).toNat)
 case atStart => exact ⟨0, [], Nat.zero_le _, rfl, rfl, ⟨World.ownsRow_nil _ _ _ _, fun x hx => by cases hx⟩, fun j x hx => by simp at hx, Below.refl _ _⟩
 case round =>
  obtain ⟨i, l, hil, rfl, hll, HO, HX, HBr⟩ := hrel
  obtain ⟨F, hF⟩ : ∃ F, i * S = F := ⟨_, rfl⟩
  have hFb : F ≤ 200 * 256 := by rw [← hF]; exact Nat.mul_le_mul (by omega) (by omega)
  have kF : (i : Int) * (S : Int) = (F : Int) := by rw [← hF]; simp
  have kw : IntKind.i64.wrap ((i : Int) * (S : Int)) = (F : Int) := by rw [kF, IntKind.wrap_i64]; omega
  by_cases hin : F < lb
  ·
   have hd : decide ((F : Int) < (lb : Int)) = true := by simp; omega
   have hil2 : i < lb := by
    have h1 : i * 1 ≤ i * S := Nat.mul_le_mul_left i (by omega)
    omega
   obtain ⟨E, hE⟩ : ∃ E, min (F + S) lb = E := ⟨_, rfl⟩
   obtain ⟨WM, hWM⟩ : ∃ W, min (LN - 1) F = W := ⟨_, rfl⟩
   have HCO := Lib.hid (one19_any (S : Int) (LN : Int) frm b lb cb text i F E WM wr (HD.out.below HBr.out) hcb (by omega) ⟨m1, m2⟩ ⟨m3, m4⟩ ⟨m5, m6⟩ kF hin (by omega) (by omega))
   have hWF : WM ≤ F := by omega
   have hEl : E ≤ lb := by omega
   obtain ⟨K, hK⟩ : ∃ K, F - WM = K := ⟨_, rfl⟩
   rw [hK] at HCO
   obtain ⟨X, hX⟩ : ∃ X, (text.drop K).take (E - K) = X := ⟨_, rfl⟩
   rw [hX] at HCO
   have hXb : ∀ y ∈ X, 0 ≤ y ∧ y ≤ 255 := fun y hy => by rw [← hX] at hy; exact HD.out.2 y (List.mem_of_mem_drop (List.mem_of_mem_take hy))
   have HXB := Lib.hid hXb
   have hcut : ∀ (a1 : Option Addr) (c1 : Nat), cutX S LN frm text i ⟨(i : Int), frm + (F : Int), (WM : Int), a1, E - K, c1, X⟩ := fun a1 c1 => by
    unfold cutX
    rw [hF, HDL.out, hWM, hE, hK, hX]
    exact ⟨hin, rfl, rfl, rfl⟩
   have HCUT := Lib.hid hcut
   have hEK : E - K ≤ 900000 := by omega
   clear hX hXb hcut hF
   go_wp2_with fail
   refine HCO.out.mono ?_
   rintro e w2 ⟨a1, c1, rfl, ho2, hb2⟩
   have hO2 := HO.out.below hb2
   have hown := hO2.1
   rw [hll] at hown
   obtain ⟨a10, c10, rfl, _, _⟩ := SlK.own hown
   have hB2 : RowKit.Below w.heap.size w w2 := HBr.out.trans (hb2.mono HBr.out.size)
   obtain ⟨x, hx⟩ : ∃ x : BlkP, x = ⟨(i : Int), frm + (F : Int), (WM : Int), a1, E - K, c1, X⟩ := ⟨_, rfl⟩
   have hs1 := slk_blk w2 x
   have hone := bcells_one x
   have hoX : OwnB w2 w.heap.size (.slice a1 (E - K) c1) (E - K) X := row_lower ho2 HBr.out.size
   have HOX : Hid (OwnB w2 w.heap.size (.slice x.ad x.n x.c) x.n x.bs ∧ (∀ y ∈ x.bs, 0 ≤ y ∧ y ≤ 255) ∧ x.n ≤ 900000) := by rw [hx]; exact ⟨hoX, HXB.out, hEK⟩
   have HO2 := Lib.hid hO2.2
   have HCX : Hid (cutX S LN frm text i x) := by rw [hx]; exact HCUT.out a1 c1
   have HLL := Lib.hid hll
   have HOW := Lib.hid hown
   have HB2 := Lib.hid hB2
   rw [hx] at hs1
   have hszb : w.heap.size ≤ (w2.alloc (.cells #[.int .i64 (i : Int), .int .i64 (frm + (F : Int)), .int .i64 (WM : Int), .slice a1 (E - K) c1] 60)).heap.size := by have := hB2.size; simp; omega
   rw [hx] at hone
   have HXX := Lib.hid hx
   clear hx hO2 hown hoX ho2 hb2 HO HCUT HXB hB2 hll
   go_wp2_with (at_builtin; refine wpList_append_slK rfl _ _ 78 rfl w.heap.size 60 i0 (.agg #[.int .i64 0, .int .i64 0, .int .i64 0, .slice none 0 0]) 4 48 Tryz.underlying78 hi hz0 hz1 hz2 rfl (by decide) (.slice a10 i c10) i (bcells l) rfl (HOW.out.alloc _) (some ⟨w2.heap.size, 0, none⟩) 1 1 (bcells [⟨(i : Int), frm + (F : Int), (WM : Int), a1, E - K, c1, X⟩]) rfl hs1 hone (by unfold maxLen; omega) (by omega) hszb ?_; intro v' w5 hown' hgrow hat)
   have hb25 := below_alloc w2 (.cells #[.int .i64 (i : Int), .int .i64 (frm + (F : Int)), .int .i64 (WM : Int), .slice a1 (E - K) c1] 60)
   have hB5 : RowKit.Below w.heap.size w w5 := (HB2.out.trans (hb25.mono HB2.out.size)).grown hgrow hszb (fun j hj => (row_lt HOW.out j hj).1)
   rw [← HXX.out, ← bcells_append] at hown'
   have hel : ∀ y ∈ l ++ [x], OwnB w5 w.heap.size (.slice y.ad y.n y.c) y.n y.bs ∧ (∀ z ∈ y.bs, 0 ≤ z ∧ z ≤ 255) ∧ y.n ≤ 900000 := fun y hy => by
    have h2 : OwnB w2 w.heap.size (.slice y.ad y.n y.c) y.n y.bs ∧ (∀ z ∈ y.bs, 0 ≤ z ∧ z ≤ 255) ∧ y.n ≤ 900000 := by
     rcases List.mem_append.1 hy with h | h
     · exact HO2.out y h
     ·
      rw [List.mem_singleton] at h
      rw [h]
      exact HOX.out
    exact ⟨(own_below_ h2.1 hb25).kept hgrow (rows_far (own_below_ h2.1 hb25) (own_below_ HOW.out hb25) (of_decide_eq_true (by kernel_rfl))), h2.2⟩
   have HEL := Lib.hid hel
   have HOW5 := Lib.hid hown'
   have HB5 := Lib.hid hB5
   clear hel hown' hgrow hat hb25 hB5 hs1 hone hszb
   go_roundw
   case rel =>
    refine ⟨i + 1, l ++ [x], by omega, by go_num, by rw [List.length_append, HLL.out]; rfl, ⟨?_, HEL.out⟩, ?_, HB5.out⟩
    ·
     rw [List.length_append, HLL.out]
     exact HOW5.out
    ·
     rintro j y hy
     by_cases hj : j < l.length
     ·
      rw [List.getElem?_append_left hj] at hy
      exact HX.out j y hy
     ·
      rw [List.getElem?_append_right (by omega)] at hy
      have hj0 : j - l.length = 0 := by have := (List.getElem?_eq_some_iff.1 hy).1; simp at this; omega
      rw [hj0] at hy
      have e1 : x = y := by simpa using hy
      have e2 : j = i := by have := HLL.out; omega
      rw [← e1, e2]
      exact HCX.out
   case measure => simp [intOf]; omega
  ·
   have hd : decide ((F : Int) < (lb : Int)) = false := by simp; omega
   have hle : lb ≤ l.length * S := by rw [hll, hF]; omega
   have hl2 : l.length ≤ 200 := by omega
   clear hF
   go_wp2
   go_ret2
   exact ⟨_, l, rfl, HO.out, HX.out, hle, hl2, HBr.out⟩
end Go.Proofs.YtbldfgaogmfoaaaGreat

namespace Go.Proofs.YtbldfgaogmfoaaaGreat
open Go.RowKit Go.Sort

section
variable {fold : Bool} {wss : List (List Int)}
theorem betw_mid (hr : rightP fold wss = true) (frm : Int) (text : List Int) (F own : Nat) (h : F + own ≤ text.length) :
  betwH (frm + F) (frm + F + own) (occD fold wss frm text) = scanH fold wss (feedZ fold wss 0 (text.take F)) (frm + F) ((text.drop F).take own) := by
 have hp : 0 < (nodesL wss).length := (List.getElem?_eq_some_iff.1 (nodesL_head wss)).1
 have bd := fun (b : List Int) (z : Nat) (at_ : Int) (hz : z < (nodesL wss).length) => scanH_bd (fold := fold) (right_nodup hr).1 (fun x hx => ((right_spec hr).2.2.1 x hx).1) b z at_ hz
 have hA : (text.take F).length = F := by rw [List.length_take]; omega
 have hBl : ((text.drop F).take own).length = own := by rw [List.length_take, List.length_drop]; omega
 have e : text = text.take F ++ ((text.drop F).take own ++ (text.drop F).drop own) := by rw [List.take_append_drop, List.take_append_drop]
 rw [occ_scan hr]
 conv => lhs; rw [e]
 rw [scanH_append, scanH_append, hA, hBl]
 unfold betwH
 rw [List.filter_append, List.filter_append, List.filter_eq_nil_iff.2, List.filter_eq_self.2, List.filter_eq_nil_iff.2, List.nil_append, List.append_nil]
 ·
  intro x hx
  have := (bd _ _ _ (feedZ_lt (feedZ_lt hp _) _) x hx).1
  simp
  omega
 ·
  intro x hx
  have := (bd _ _ _ (feedZ_lt hp _) x hx).1
  rw [hBl] at this
  simp
  omega
 ·
  intro x hx
  have := (bd _ _ _ hp x hx).1
  rw [hA] at this
  simp
  omega
theorem cut_whole (hr : rightP fold wss = true) {S LN : Nat} {frm : Int} {text : List Int} {j : Nat} {x : BlkP} (hL : longL wss = (LN : Int)) (hM : ∀ y ∈ wss, y.length ≤ LN) (hLN : 1 ≤ LN) (hS : 1 ≤ S) (hS2 : S ≤ 256) (hf : 0 ≤ frm) (hf2 : frm ≤ 4611686018427387904) (ht : text.length ≤ 200) (h : cutX S LN frm text j x) :
  whH fold wss x.st x.wm x.bs = scanH fold wss (feedZ fold wss 0 (text.take (j * S))) (frm + ((j * S : Nat) : Int)) ((text.drop (j * S)).take (min (j * S + S) text.length - j * S)) := by
 obtain ⟨h1, h2, h3, h4⟩ := h
 obtain ⟨F, hF⟩ : ∃ F, j * S = F := ⟨_, rfl⟩
 rw [hF] at h1 h2 h3 h4 ⊢
 rw [← betw_mid hr frm text F _ (by omega), h2, h3, h4]
 have e := whH_block hr frm text F (min (F + S) text.length - F) (F - min (LN - 1) F) LN hL hM (by omega) (by omega) (by omega) (by omega) (by omega) (by omega) hf (by omega)
 rw [show F - (F - min (LN - 1) F) = min (LN - 1) F by omega] at e
 rw [← e, show min (LN - 1) F + (min (F + S) text.length - F) = min (F + S) text.length - (F - min (LN - 1) F) by omega]
theorem cut_woH (hr : rightP fold wss = true) {S LN : Nat} {frm : Int} {text : List Int} {l : List BlkP} (hL : longL wss = (LN : Int)) (hM : ∀ y ∈ wss, y.length ≤ LN) (hLN : 1 ≤ LN) (hS : 1 ≤ S) (hS2 : S ≤ 256) (hf : 0 ≤ frm) (hf2 : frm ≤ 4611686018427387904) (ht : text.length ≤ 200) (h : ∀ j x, l[j]? = some x → cutX S LN frm text j x) :
  ∀ i, i ≤ l.length → woH fold wss (l.take i) = scanH fold wss 0 frm (text.take (min (i * S) text.length))
 | 0, _ => by simp [woH, scanH]
 | i + 1, hi => by
  obtain ⟨x, hx⟩ : ∃ x, l[i]? = some x := ⟨l[i]'(by omega), by simp⟩
  have hc := h i x hx
  have hw := cut_whole hr hL hM hLN hS hS2 hf hf2 ht hc
  rw [woH_step hx, cut_woH hr hL hM hLN hS hS2 hf hf2 ht h i (by omega), hw]
  obtain ⟨F, hF⟩ : ∃ F, i * S = F := ⟨_, rfl⟩
  have h1 := hc.1
  rw [hF] at h1 ⊢
  rw [Nat.succ_mul, hF, Nat.min_eq_left (Nat.le_of_lt h1)]
  have e : text.take (min (F + S) text.length) = text.take F ++ (text.drop F).take (min (F + S) text.length - F) := by
   rw [← List.take_add, show F + (min (F + S) text.length - F) = min (F + S) text.length by omega]
  rw [e, scanH_append, List.length_take, Nat.min_eq_left (Nat.le_of_lt h1)]
theorem cut_all (hr : rightP fold wss = true) {S LN : Nat} {frm : Int} {text : List Int} {l : List BlkP} (hL : longL wss = (LN : Int)) (hM : ∀ y ∈ wss, y.length ≤ LN) (hLN : 1 ≤ LN) (hS : 1 ≤ S) (hS2 : S ≤ 256) (hf : 0 ≤ frm) (hf2 : frm ≤ 4611686018427387904) (ht : text.length ≤ 200) (h : ∀ j x, l[j]? = some x → cutX S LN frm text j x) (hcov : text.length ≤ l.length * S) :
  woH fold wss l = occD fold wss frm text := by
 have e := cut_woH hr hL hM hLN hS hS2 hf hf2 ht h l.length (Nat.le_refl _)
 rw [List.take_of_length_le (Nat.le_refl _), Nat.min_eq_right hcov, List.take_of_length_le (Nat.le_refl _)] at e
 rw [e, occ_scan hr]
theorem woH_le (hr : rightP fold wss = true) {l : List BlkP} (hl : l.length ≤ 1000) (hb : ∀ x ∈ l, x.bs.length ≤ 1000) : ∀ k, (woH fold wss (l.take k)).length ≤ 1000000000 := by
 intro k
 have h4 : (nodesL wss).length ≤ 400 := read_n (readP_iff.2 ⟨right_false hr, rfl, rfl⟩)
 have key : ∀ m : List BlkP, (∀ x ∈ m, x.bs.length ≤ 1000) → (woH fold wss m).length ≤ m.length * 400000 := by
  intro m
  induction m with
  | nil => intro _; simp [woH]
  | cons x m ih =>
   intro hm
   have h1 := ih (fun y hy => hm y (List.mem_cons_of_mem _ hy))
   have h2 : (whH fold wss x.st x.wm x.bs).length ≤ 400 * 1000 := Nat.le_trans slH_len (Nat.mul_le_mul h4 (hm x (List.mem_cons_self ..)))
   show (whH fold wss x.st x.wm x.bs ++ woH fold wss m).length ≤ _
   rw [List.length_append, List.length_cons, Nat.succ_mul]
   omega
 have h5 := key (l.take k) (fun x hx => hb x (List.mem_of_mem_take hx))
 have h6 : (l.take k).length ≤ 1000 := by rw [List.length_take]; omega
 have h7 : (l.take k).length * 400000 ≤ 1000 * 400000 := Nat.mul_le_mul_right _ h6
 omega
end
end Go.Proofs.YtbldfgaogmfoaaaGreat

namespace Go.Proofs.YtbldfgaogmfoaaaGreat
open Go.RowKit Go.Sort

set_option maxRecDepth 100000 in
set_option maxHeartbeats 16000000 in
theorem probeBlocks_walk (fold : Bool) (a : Option Addr) (la ca : Nat) (size frm : Int) (b : Option Addr) (lb cb : Nat) (wss : List (List Int)) (text : List Int) (w : World)
  (hA : Wds w a la wss) (hD : Bys w b lb text) (hcb : lb ≤ cb) :
  Calls Tryz.prog 8 #[.agg (setV fold a la ca), .int .i64 size, .int .i64 frm, .slice b lb cb] w fun e w' => e = .returned (.bool true) ∧ Below w.heap.size w w' := by
 obtain ⟨i0, hi, hz0, hz1, hz2⟩ := info_parts hit_info
 have HLEN := Lib.hid hA.len
 have HDL := Lib.hid hD.len
 obtain ⟨W, hW⟩ : ∃ W, W = w.alloc (.cells (setV fold a la ca) 24) := ⟨_, rfl⟩
 have hB : Below w.heap.size w W := by rw [hW]; exact below_alloc _ _
 have hO : Bx w.heap.size [.cells (setV fold a la ca) 24] W := by rw [hW]; exact (Bx.nil _ w).snoc _ rfl
 have K0 : Hid (∀ V, RowKit.Below W.heap.size W V → (V.cell? ⟨w.heap.size, 0, none⟩ = some (.bool fold) ∧ V.cell? ⟨w.heap.size, 1, none⟩ = some (.slice a la ca)) ∧ Wds V a la wss ∧ Bys V b lb text ∧ RowKit.Below w.heap.size w V) := fun V hV => by
   have h := hO.below hV
   have h1 := hB.trans (hV.mono hB.size)
   exact ⟨⟨h.cell (i := 0) rfl rfl, h.cell (i := 0) rfl rfl⟩, hA.below h1, hD.below h1, h1⟩
 obtain ⟨f_set, f_A, f_D, f_bw⟩ := K0.out W (Below.refl _ _)
 obtain ⟨s0, s1⟩ := f_set
 obtain ⟨G1, hG1⟩ : ∃ G, greatP wss = G := ⟨_, rfl⟩
 have HG1 := great5_any fold a la ca wss W f_A
 rw [hG1] at HG1
 have HG1 := Lib.hid HG1
 clear f_A f_D f_bw hO hB hA hD
 go_enter Tryz.func8, Tryz.ntmps8
 go_upto_region 1 with fail
 rw [← hW]
 clear hW
 go_wp2_with fail
 refine HG1.out.mono ?_
 rintro e w1 ⟨rfl, hb1⟩
 clear HG1 s0 s1
 have K1 : Hid (∀ V, RowKit.Below w1.heap.size w1 V → (V.cell? ⟨w.heap.size, 0, none⟩ = some (.bool fold) ∧ V.cell? ⟨w.heap.size, 1, none⟩ = some (.slice a la ca)) ∧ Wds V a la wss ∧ Bys V b lb text ∧ RowKit.Below w.heap.size w V) := fun V hV => by
  obtain ⟨f_set, f_A, f_D, f_bw⟩ := K0.out V (hb1.trans (hV.mono hb1.size))
  exact ⟨f_set, f_A, f_D, f_bw⟩
 clear hb1 K0
 cases G1 with
 | true =>
  obtain ⟨f_set, f_A, f_D, f_bw⟩ := K1.out w1 (Below.refl _ _)
  have HBW := Lib.hid f_bw
  clear f_set f_A f_D f_bw
  go_wp2_with fail
  refine (wakes20 _).mono ?_
  rintro e w9 ⟨rfl, hb9⟩
  go_wp2
  go_ret
  exact ⟨rfl, HBW.out.trans (hb9.mono HBW.out.size)⟩
 | false =>
  obtain ⟨gg1, gg2, gg3⟩ := gr8_bd hG1 fold
  rw [HLEN.out] at gg1
  have hM : ∀ x ∈ wss, x.length ≤ 1000000 := fun x hx => by have := gg2 x hx; omega
  have hbg : (begL fold wss).length ≤ 1000000 := by omega
  have HML := Lib.hid hM
  have HBG := Lib.hid hbg
  have hla9 : la ≤ 1000 := by omega
  obtain ⟨R, hR⟩ : ∃ R, rightP fold wss = R := ⟨_, rfl⟩
  obtain ⟨f_set, f_A, f_D, f_bw⟩ := K1.out w1 (Below.refl _ _)
  obtain ⟨s0, s1⟩ := f_set
  have HC := rright_any fold a la ca wss w1 f_A (by omega) hM
  rw [← right_eq, hR] at HC
  have HC := Lib.hid HC
  clear f_A f_D f_bw gg1 gg2 gg3 hM hbg hG1
  go_wp2_with fail
  refine HC.out.mono ?_
  rintro e w2 ⟨rfl, hb2⟩
  clear HC s0 s1
  have K2 : Hid (∀ V, RowKit.Below w2.heap.size w2 V → (V.cell? ⟨w.heap.size, 0, none⟩ = some (.bool fold) ∧ V.cell? ⟨w.heap.size, 1, none⟩ = some (.slice a la ca)) ∧ Wds V a la wss ∧ Bys V b lb text ∧ RowKit.Below w.heap.size w V) := fun V hV => by
   obtain ⟨f_set, f_A, f_D, f_bw⟩ := K1.out V (hb2.trans (hV.mono hb2.size))
   exact ⟨f_set, f_A, f_D, f_bw⟩
  clear hb2 K1
  cases R with
  | false =>
   obtain ⟨f_set, f_A, f_D, f_bw⟩ := K2.out w2 (Below.refl _ _)
   have HBW := Lib.hid f_bw
   clear f_set f_A f_D f_bw
   go_wp2_with fail
   refine (wakes20 _).mono ?_
   rintro e w9 ⟨rfl, hb9⟩
   go_wp2
   go_ret
   exact ⟨rfl, HBW.out.trans (hb9.mono HBW.out.size)⟩
  | true =>
   have HR := Lib.hid hR
   clear hR
   by_cases hl2 : 200 < lb
   case pos =>
    have d2 : decide ((200 : Int) < (lb : Int)) = true := by simp; omega
    obtain ⟨f_set, f_A, f_D, f_bw⟩ := K2.out w2 (Below.refl _ _)
    have HBW := Lib.hid f_bw
    clear f_set f_A f_D f_bw
    go_wp2_with fail
    refine (wakes20 _).mono ?_
    rintro e w9 ⟨rfl, hb9⟩
    go_wp2
    go_ret
    exact ⟨rfl, HBW.out.trans (hb9.mono HBW.out.size)⟩
   have d2 : decide ((200 : Int) < (lb : Int)) = false := by simp; omega
   obtain ⟨M, hML2, hMb, hM1, hM32⟩ := longL_max HR.out
   have HML2 := Lib.hid hML2
   have HMB := Lib.hid hMb
   clear hML2 hMb
   obtain ⟨f_set, f_A, f_D, f_bw⟩ := K2.out w2 (Below.refl _ _)
   obtain ⟨s0, s1⟩ := f_set
   have HC := longest_any fold a la ca wss w2 f_A (by omega)
   rw [HML2.out] at HC
   have HC := Lib.hid HC
   clear f_A f_D f_bw
   go_upto_region 3 with fail
   clear d2
   go_wp2_with fail
   refine HC.out.mono ?_
   rintro e w3 ⟨rfl, hb3⟩
   clear HC s0 s1
   have K3 : Hid (∀ V, RowKit.Below w3.heap.size w3 V → (V.cell? ⟨w.heap.size, 0, none⟩ = some (.bool fold) ∧ V.cell? ⟨w.heap.size, 1, none⟩ = some (.slice a la ca)) ∧ Wds V a la wss ∧ Bys V b lb text ∧ RowKit.Below w.heap.size w V) := fun V hV => by
    obtain ⟨f_set, f_A, f_D, f_bw⟩ := K2.out V (hb3.trans (hV.mono hb3.size))
    exact ⟨f_set, f_A, f_D, f_bw⟩
   clear hb3 K2
   obtain ⟨my, hmy⟩ : ∃ x, mayB size (M : Int) frm = x := ⟨_, rfl⟩
   cases my with
   | false =>
    have HC := Lib.hid (of19_no size (M : Int) frm b lb cb w3 hmy)
    go_upto_region 4 with (go_at_call 40; refine HC.out.mono ?_; rintro e w4 ⟨rfl, hb4⟩)
    clear HC hmy
    have K4 : Hid (∀ V, RowKit.Below w4.heap.size w4 V → (V.cell? ⟨w.heap.size, 0, none⟩ = some (.bool fold) ∧ V.cell? ⟨w.heap.size, 1, none⟩ = some (.slice a la ca)) ∧ Wds V a la wss ∧ Bys V b lb text ∧ RowKit.Below w.heap.size w V) := fun V hV => by
     obtain ⟨f_set, f_A, f_D, f_bw⟩ := K3.out V (hb4.trans (hV.mono hb4.size))
     exact ⟨f_set, f_A, f_D, f_bw⟩
    clear hb4 K3
    obtain ⟨f_set, f_A, f_D, f_bw⟩ := K4.out w4 (Below.refl _ _)
    have HBW := Lib.hid f_bw
    clear f_set f_A f_D f_bw
    go_wp2_with fail
    refine (wakes20 _).mono ?_
    rintro e w9 ⟨rfl, hb9⟩
    go_wp2
    go_ret
    exact ⟨rfl, HBW.out.trans (hb9.mono HBW.out.size)⟩
   | true =>
    have hmm := hmy
    unfold mayB at hmm
    obtain ⟨⟨m1, m2⟩, ⟨m3, m4⟩, m5, m6⟩ := of_decide_eq_true hmm
    obtain ⟨S, rfl⟩ : ∃ k : Nat, size = (k : Int) := ⟨size.toNat, by omega⟩
    obtain ⟨E, hE⟩ : ∃ E, occD fold wss frm text = E := ⟨_, rfl⟩
    have hEl := occ_le HR.out frm text
    have hEb : ∀ h ∈ E, I64 h.1 ∧ I64 h.2 := fun h hh => by
     rw [← hE] at hh
     obtain ⟨_, e1, e2, e3, e4⟩ := occD_mem hh
     have := HLEN.out
     have := HDL.out
     unfold I64
     omega
    rw [hE, HDL.out] at hEl
    obtain ⟨ke, hke⟩ : ∃ k, E.length = k := ⟨_, rfl⟩
    rw [hke] at hEl
    have hkel : ke ≤ 80000 := by omega
    have HEB := Lib.hid hEb
    have HKE := Lib.hid hke
    have HEE := Lib.hid hE
    clear hE hEb hke hEl hmm
    obtain ⟨f_set, f_A, f_D, f_bw⟩ := K3.out w3 (Below.refl _ _)
    have HC := Lib.hid (of19_yes S M frm b lb cb text w3 f_D hcb (by omega) hmy)
    clear f_set f_A f_D f_bw
    go_upto_region 4 with (go_at_call 40; refine HC.out.mono ?_; rintro e w4 ⟨v4, l, rfl, ho4, hcut, hcov, hl200, hb4⟩)
    obtain ⟨a4, c4, rfl, hbl4⟩ := ho4.bls
    have hall := cut_all HR.out HML2.out HMB.out hM1 (by omega) (by omega) m5 m6 (by rw [HDL.out]; omega) hcut (by rw [HDL.out]; exact hcov)
    have hwle := woH_le (fold := fold) (wss := wss) (l := l) HR.out (by omega) (fun x hx => by
     obtain ⟨j, hj⟩ := List.getElem?_of_mem hx
     obtain ⟨_, _, _, h4⟩ := hcut j x hj
     rw [h4, List.length_take]
     have := HDL.out
     omega)
    rw [HEE.out] at hall
    obtain ⟨nl, hnl⟩ : ∃ k, l.length = k := ⟨_, rfl⟩
    rw [hnl] at hbl4 hl200 ⊢
    have HALL := Lib.hid hall
    have HWLE := Lib.hid hwle
    have HNL := Lib.hid hnl
    clear HC ho4 hcut hcov hall hwle hnl hmy
    have K4 : Hid (∀ V, RowKit.Below w4.heap.size w4 V → (V.cell? ⟨w.heap.size, 0, none⟩ = some (.bool fold) ∧ V.cell? ⟨w.heap.size, 1, none⟩ = some (.slice a la ca)) ∧ Wds V a la wss ∧ Bys V b lb text ∧ RowKit.Below w.heap.size w V ∧ Bls V a4 nl l) := fun V hV => by
     obtain ⟨f_set, f_A, f_D, f_bw⟩ := K3.out V (hb4.trans (hV.mono hb4.size))
     exact ⟨f_set, f_A, f_D, f_bw, hbl4.below hV⟩
    clear hb4 K3
    clear hbl4
    obtain ⟨f_set, f_A, f_D, f_bw, f_l⟩ := K4.out w4 (Below.refl _ _)
    obtain ⟨s0, s1⟩ := f_set
    have HC := Lib.hid (compile13_use fold a la ca wss w4 f_A (by omega) HML.out HBG.out HR.out)
    clear f_A f_D f_bw f_l
    go_upto_region 7 with (go_at_call 30; refine HC.out.mono ?_; rintro e w5 ⟨B, rfl, hU⟩)
    have hm20 := mach20_use hU HR.out
    have hb5 := hU.bel
    clear HC hU s0 s1
    have K5 : Hid (∀ V, RowKit.Below w5.heap.size w5 V → (V.cell? ⟨w.heap.size, 0, none⟩ = some (.bool fold) ∧ V.cell? ⟨w.heap.size, 1, none⟩ = some (.slice a la ca)) ∧ Wds V a la wss ∧ Bys V b lb text ∧ RowKit.Below w.heap.size w V ∧ Bls V a4 nl l ∧ (Mach20 w5 (some ⟨B, 0, none⟩) fold wss ∧ RowKit.Below w5.heap.size w5 V)) := fun V hV => by
     obtain ⟨f_set, f_A, f_D, f_bw, f_l⟩ := K4.out V (hb5.trans (hV.mono hb5.size))
     exact ⟨f_set, f_A, f_D, f_bw, f_l, ⟨hm20, hV⟩⟩
    clear hb5 K4
    clear hm20
    obtain ⟨f_set, f_A, f_D, f_bw, f_l, f_m⟩ := K5.out w5 (Below.refl _ _)
    obtain ⟨s0, s1⟩ := f_set
    have HC := rocc_yes fold a b la ca lb cb frm text wss w5 f_A f_D hla9 (by omega) hcb HML.out (mayP_right HR.out m5 m6)
    rw [HEE.out] at HC
    have HC := Lib.hid HC
    clear f_A f_D f_bw f_l f_m
    go_upto_region 8 with (go_at_call 42; refine HC.out.mono ?_; rintro e u6 ⟨v6, rfl, ho6, hb6⟩)
    obtain ⟨a6, c6, rfl, _, hs6⟩ := OwnH.hts ho6 HEB.out
    rw [HKE.out] at hs6
    rw [HKE.out]
    clear HC ho6 s0 s1
    have K6 : Hid (∀ V, RowKit.Below u6.heap.size u6 V → (V.cell? ⟨w.heap.size, 0, none⟩ = some (.bool fold) ∧ V.cell? ⟨w.heap.size, 1, none⟩ = some (.slice a la ca)) ∧ Wds V a la wss ∧ Bys V b lb text ∧ RowKit.Below w.heap.size w V ∧ Bls V a4 nl l ∧ (Mach20 w5 (some ⟨B, 0, none⟩) fold wss ∧ RowKit.Below w5.heap.size w5 V) ∧ Hts V a6 ke E) := fun V hV => by
     obtain ⟨f_set, f_A, f_D, f_bw, f_l, f_m⟩ := K5.out V (hb6.trans (hV.mono hb6.size))
     exact ⟨f_set, f_A, f_D, f_bw, f_l, f_m, hs6.below hV⟩
    clear hb6 K5
    clear hs6
    have hws : wss.length ≤ 1000000 := by rw [HLEN.out]; omega
    go_wp2_with fail
    go_loopw [15, 16] (fun s15 s16 wr => ∃ i : Nat, i ≤ nl ∧ s16 = .int .i64 (i : Int) ∧ Hid (OwnH wr u6.heap.size s15 (woH fold wss (l.take i))) ∧ Hid (RowKit.Below u6.heap.size u6 wr)) (fun _ s _ => nl - (intOf s).toNat)
    case atStart => exact ⟨0, Nat.zero_le _, rfl, World.ownsRow_nil _ _ _ _, Below.refl _ _⟩
    case round =>
     obtain ⟨i, hil, rfl, HO, HBr⟩ := hrel
     by_cases hin : i < nl
     ·
      have hd : decide ((i : Int) < (nl : Int)) = true := by simp; omega
      obtain ⟨f_set, f_A, f_D, f_bw, f_l, f_m, f_s6⟩ := K6.out wr HBr.out
      obtain ⟨bh, oh, x, e4, hbh, ⟨k0, k1, k2, k3⟩, hx, hxB, hxn⟩ := f_l.at_ hin
      obtain ⟨nu, st, wm, ad, nb, cb2, bs⟩ := x
      dsimp only at k0 k1 k2 k3 hxB hxn
      subst e4
      have q1 : (0 : Int) ≤ (i : Int) := by omega
      have q2 : (i : Int) < (nl : Int) := by omega
      have HS := Lib.hid (woH_step (fold := fold) (wss := wss) hx)
      have hs1 := HWLE.out (i + 1)
      rw [HS.out, List.length_append] at hs1
      dsimp only at HS hs1
      have hbd : ∀ h ∈ whH fold wss st wm bs, I64 h.1 ∧ I64 h.2 := slH_bd hws (by rw [hxB.len]; exact hxn)
      obtain ⟨D, hD⟩ : ∃ D, whH fold wss st wm bs = D := ⟨_, rfl⟩
      rw [hD] at HS hs1 hbd
      obtain ⟨nd, hnd⟩ : ∃ m, D.length = m := ⟨_, rfl⟩
      rw [hnd] at hs1
      have HC := Lib.hid (he_whole f_m.1 f_m.2 nu st wm ad nb cb2 bs hxB hxn hD hbd hnd)
      have HND := Lib.hid hnd
      clear f_set f_A f_D f_bw f_l f_m f_s6 hx hxB hxn hbd hD hnd
      go_wp2_with fail
      refine HC.out.mono ?_
      rintro e w7 ⟨a7, c7, rfl, hs7, hb7⟩
      obtain ⟨P, hP⟩ : ∃ P, woH fold wss (l.take i) = P := ⟨_, rfl⟩
      have hown := own_below_ HO.out hb7
      rw [hP] at hown HS hs1
      obtain ⟨m0, hm0⟩ : ∃ m, P.length = m := ⟨_, rfl⟩
      rw [hm0] at hown hs1
      obtain ⟨a8, c8, rfl, _, _⟩ := SlK.own hown
      have HM0 := Lib.hid hm0
      have HB7 : Hid (RowKit.Below u6.heap.size u6 w7) := HBr.out.trans (hb7.mono HBr.out.size)
      have HOW := Lib.hid hown
      have HT7 := Lib.hid hs7
      have hsz := HB7.out.size
      clear hown hs7 hb7 hP hm0 HC k0 k1 k2 k3 HO
      go_wp2_with (at_builtin; refine wpList_append_slK rfl _ _ 67 rfl u6.heap.size 87 i0 (.agg #[.int .i64 0, .int .i64 0]) 2 16 Tryz.underlying67 hi hz0 hz1 hz2 rfl (by decide) (.slice a8 m0 c8) m0 (hcells P) rfl HOW.out a7 nd c7 (hcells D) rfl HT7.out.1 (hcells_one _) (by unfold maxLen; omega) (by omega) hsz ?_; intro v' w8 hown' hgrow hat)
      have hB8 : RowKit.Below u6.heap.size u6 w8 := HB7.out.grown hgrow hsz (fun j hj => (row_lt HOW.out j hj).1)
      go_roundw
      case rel =>
       refine ⟨i + 1, by omega, by go_num, ?_, hB8⟩
       rw [Hid, HS.out]
       unfold OwnH
       rw [List.length_append, HM0.out, HND.out, hcells_append]
       exact hown'
      case measure => simp [intOf]; omega
     ·
      obtain rfl : nl = i := by omega
      have hd : decide ((nl : Int) < (nl : Int)) = false := by simp
      have HT : Hid (l.take nl = l) := by rw [Hid, List.take_of_length_le (by rw [HNL.out]; exact Nat.le_refl _)]
      have ho := HO.out
      rw [HT.out, HALL.out] at ho
      obtain ⟨a9, c9, rfl, _, hs9⟩ := OwnH.hts ho HEB.out
      rw [HKE.out] at hs9 ⊢
      clear ho HO HT
      have J0 : Hid (∀ V, RowKit.Below wr.heap.size wr V → (V.cell? ⟨w.heap.size, 0, none⟩ = some (.bool fold) ∧ V.cell? ⟨w.heap.size, 1, none⟩ = some (.slice a la ca)) ∧ Wds V a la wss ∧ Bys V b lb text ∧ RowKit.Below w.heap.size w V ∧ Bls V a4 nl l ∧ (Mach20 w5 (some ⟨B, 0, none⟩) fold wss ∧ RowKit.Below w5.heap.size w5 V) ∧ Hts V a6 ke E ∧ Hts V a9 ke E) := fun V hV => by
         obtain ⟨f_set, f_A, f_D, f_bw, f_l, f_m, f_s6⟩ := K6.out V (HBr.out.trans (hV.mono HBr.out.size))
         exact ⟨f_set, f_A, f_D, f_bw, f_l, f_m, f_s6, hs9.below hV⟩
      obtain ⟨f_set, f_A, f_D, f_bw, f_l, f_m, f_s6, f_s9⟩ := J0.out wr (Below.refl _ _)
      have HC := rsame6_any a9 a6 ke c9 ke c6 E E wr f_s9 f_s6 (by omega)
      rw [decide_eq_true rfl] at HC
      have HC := Lib.hid HC
      clear hs9 f_set f_A f_D f_bw f_l f_m f_s6 f_s9
      go_wp2_with fail
      refine HC.out.mono ?_
      rintro e u7 ⟨rfl, hb7⟩
      clear HC hd
      have J1 : Hid (∀ V, RowKit.Below u7.heap.size u7 V → (V.cell? ⟨w.heap.size, 0, none⟩ = some (.bool fold) ∧ V.cell? ⟨w.heap.size, 1, none⟩ = some (.slice a la ca)) ∧ Wds V a la wss ∧ Bys V b lb text ∧ RowKit.Below w.heap.size w V ∧ Bls V a4 nl l ∧ (Mach20 w5 (some ⟨B, 0, none⟩) fold wss ∧ RowKit.Below w5.heap.size w5 V) ∧ Hts V a6 ke E ∧ Hts V a9 ke E) := fun V hV => by
       obtain ⟨f_set, f_A, f_D, f_bw, f_l, f_m, f_s6, f_s9⟩ := J0.out V (hb7.trans (hV.mono hb7.size))
       exact ⟨f_set, f_A, f_D, f_bw, f_l, f_m, f_s6, f_s9⟩
      clear hb7 J0
      obtain ⟨f_set, f_A, f_D, f_bw, f_l, f_m, f_s6, f_s9⟩ := J1.out u7 (Below.refl _ _)
      have HC := Lib.hid (he_whoever f_m.1 hws f_m.2 a4 nl c4 l f_l (by omega) HWLE.out HALL.out HEB.out HKE.out)
      clear f_set f_A f_D f_bw f_l f_m f_s6 f_s9
      go_wp2_with fail
      refine HC.out.mono ?_
      rintro e u8 ⟨a8, c8, rfl, hs8, hb8⟩
      clear HC
      have J2 : Hid (∀ V, RowKit.Below u8.heap.size u8 V → (V.cell? ⟨w.heap.size, 0, none⟩ = some (.bool fold) ∧ V.cell? ⟨w.heap.size, 1, none⟩ = some (.slice a la ca)) ∧ Wds V a la wss ∧ Bys V b lb text ∧ RowKit.Below w.heap.size w V ∧ Bls V a4 nl l ∧ (Mach20 w5 (some ⟨B, 0, none⟩) fold wss ∧ RowKit.Below w5.heap.size w5 V) ∧ Hts V a6 ke E ∧ Hts V a9 ke E ∧ Hts V a8 ke E) := fun V hV => by
       obtain ⟨f_set, f_A, f_D, f_bw, f_l, f_m, f_s6, f_s9⟩ := J1.out V (hb8.trans (hV.mono hb8.size))
       exact ⟨f_set, f_A, f_D, f_bw, f_l, f_m, f_s6, f_s9, hs8.below hV⟩
      clear hb8 J1
      clear hs8
      obtain ⟨f_set, f_A, f_D, f_bw, f_l, f_m, f_s6, f_s9, f_s8⟩ := J2.out u8 (Below.refl _ _)
      have HC := rsame6_any a8 a6 ke c8 ke c6 E E u8 f_s8 f_s6 (by omega)
      rw [decide_eq_true rfl] at HC
      have HC := Lib.hid HC
      clear f_set f_A f_D f_bw f_l f_m f_s6 f_s9 f_s8
      go_wp2_with fail
      refine HC.out.mono ?_
      rintro e u9 ⟨rfl, hb9⟩
      clear HC
      have J3 : Hid (∀ V, RowKit.Below u9.heap.size u9 V → (V.cell? ⟨w.heap.size, 0, none⟩ = some (.bool fold) ∧ V.cell? ⟨w.heap.size, 1, none⟩ = some (.slice a la ca)) ∧ Wds V a la wss ∧ Bys V b lb text ∧ RowKit.Below w.heap.size w V ∧ Bls V a4 nl l ∧ (Mach20 w5 (some ⟨B, 0, none⟩) fold wss ∧ RowKit.Below w5.heap.size w5 V) ∧ Hts V a6 ke E ∧ Hts V a9 ke E ∧ Hts V a8 ke E) := fun V hV => by
       obtain ⟨f_set, f_A, f_D, f_bw, f_l, f_m, f_s6, f_s9, f_s8⟩ := J2.out V (hb9.trans (hV.mono hb9.size))
       exact ⟨f_set, f_A, f_D, f_bw, f_l, f_m, f_s6, f_s9, f_s8⟩
      clear hb9 J2
      obtain ⟨f_set, f_A, f_D, f_bw, f_l, f_m, f_s6, f_s9, f_s8⟩ := J3.out u9 (Below.refl _ _)
      have HBW := Lib.hid f_bw
      clear f_set f_A f_D f_bw f_l f_m f_s6 f_s9 f_s8
      go_wp2_with fail
      refine (wakes20 _).mono ?_
      rintro e w9 ⟨rfl, hb9⟩
      go_wp2
      go_ret
      exact ⟨rfl, HBW.out.trans (hb9.mono HBW.out.size)⟩
end Go.Proofs.YtbldfgaogmfoaaaGreat
