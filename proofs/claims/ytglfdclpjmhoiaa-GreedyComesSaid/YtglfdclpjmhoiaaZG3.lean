/- Parts of the proof, one behind the other: Eq, D4, D5, D6, D7, Er, Op, O1, T0, O3, O6, I1, I2, H1, I3, Jp. No condition but what each theorem states. -/
import Derived.Deep.AppendLies
import Derived.Deep.DrawnRows
import Derived.Deep.RegionHeld3
import Derived.Deep.RegionLaw
import Derived.Lib.SmallJoins
import Derived.Shelf.Abstract
import Derived.Maps.AppendAt
import Derived.Lib.SlBytesConst
import Derived.Deep.CutBlock
import Derived.Deep.DeepCutAuto
import Derived.BigRegion
import Derived.IntWalk
import Derived.Lib.MinMax
import Derived.Laws.StructEq
import Derived.Shelf.SlGeneric
import Derived.Shelf.SlLaysF0
import Derived.Test.YtglfdclpjmhoiaaProg
import Derived.Shelf.SlSortCmp.Xorshift
import Derived.Test.YtglfdclpjmhoiaaZG1
import Derived.Test.YtglfdclpjmhoiaaZG2
set_option linter.unusedVariables false
set_option linter.unusedSimpArgs false

/- The code's count of nodes is the document's (layer 5). -/

namespace Go.Proofs.Ytglfdclpjmhoiaa

theorem rep_run (l : List (Bool × Int)) : Rep (nrun l) (prun l).1 (prun l).2 := by
 obtain ⟨n, hn⟩ : ∃ n, l.length = n := ⟨_, rfl⟩
 induction n generalizing l with
 | zero =>
  obtain rfl := List.eq_nil_of_length_eq_zero hn
  refine ⟨rfl, by simp [prun], rfl, ?_, ⟨0, rfl, rfl⟩, fun i c m h => by simp [nrun] at h, ?_⟩
  ·
   intro q c h
   simp [prun] at h
  ·
   intro a b q c ha hb
   have := List.mem_of_getElem? hb
   simp [prun] at this
 | succ n ih =>
  obtain ⟨l', x, rfl⟩ : ∃ l' x, l = l' ++ [x] := ⟨l.dropLast, l.getLast (by intro h; simp [h] at hn), (List.dropLast_concat_getLast _).symm⟩
  rw [nrun_snoc, prun_snoc]
  exact rep_step (ih l' (by simpa using hn)) x

/-- Which paths there are: the beginnings of the words. -/
def Begs (fold : Bool) (wss : List (List Int)) (q : List Int) : Prop := q = [] ∨ ∃ w ∈ wss, q <+: foldL fold w

theorem common_prefix : ∀ {j : Nat} {ys zs : List Int}, j ≤ ys.length → (ys.take j <+: zs ↔ j ≤ commonL ys zs)
 | 0, ys, zs, _ => by simp
 | j + 1, [], zs, h => by simp at h
 | j + 1, y :: ys, [], h => by simp [commonL]
 | j + 1, y :: ys, z :: zs, h => by
  have ih := common_prefix (j := j) (ys := ys) (zs := zs) (by simpa using h)
  rw [List.take_succ_cons, List.cons_prefix_cons]
  unfold commonL
  by_cases e : y = z
  · simp [e, ih]
  · simp [e]
theorem oldR_le (fold : Bool) (x : List Int) {j : Nat} (hj : 1 ≤ j) (pre : List (List Int)) : (j : Int) ≤ oldR fold pre x ↔ ∃ w ∈ pre, j ≤ commonL (foldL fold x) (foldL fold w) := by
 obtain ⟨n, hn⟩ : ∃ n, pre.length = n := ⟨_, rfl⟩
 induction n generalizing pre with
 | zero => obtain rfl := List.eq_nil_of_length_eq_zero hn; simp [oldR]; omega
 | succ n ih =>
  obtain ⟨l', y, rfl⟩ : ∃ l' y, pre = l' ++ [y] := ⟨pre.dropLast, pre.getLast (by intro h; simp [h] at hn), (List.dropLast_concat_getLast _).symm⟩
  have h1 := ih l' (by simpa using hn)
  rw [oldR_snoc]
  constructor
  ·
   intro h
   by_cases h2 : (j : Int) ≤ oldR fold l' x
   ·
    obtain ⟨w, hw, hc⟩ := h1.1 h2
    exact ⟨w, by simp [hw], hc⟩
   · exact ⟨y, by simp, by omega⟩
  ·
   rintro ⟨w, hw, hc⟩
   rcases List.mem_append.1 hw with hw | hw
   ·
    have := h1.2 ⟨w, hw, hc⟩
    omega
   ·
    simp at hw
    subst hw
    omega

theorem pstep_def (s : List (List Int) × List Int) (p : Bool × Int) : pstep s p = (if ((if p.1 = true then [] else s.2) ++ [p.2]) ∈ s.1 then s.1 else s.1 ++ [(if p.1 = true then [] else s.2) ++ [p.2]], (if p.1 = true then [] else s.2) ++ [p.2]) := rfl
/-- The paths behind i bytes of a word. -/
theorem word_run (ys : List Int) (old : Nat) (ps : List (List Int)) (p : List Int) (hold : ∀ j, 1 ≤ j → j ≤ ys.length → (ys.take j ∈ ps ↔ j ≤ old)) :
  ∀ i, i ≤ ys.length → ∃ qs, (((begW ys).take i).foldl pstep (ps, p)).1 = qs ∧ qs.length = ps.length + (i - min i old) ∧ (1 ≤ i → (((begW ys).take i).foldl pstep (ps, p)).2 = ys.take i) ∧
   ∀ q, q ∈ qs ↔ q ∈ ps ∨ ∃ j, 1 ≤ j ∧ j ≤ i ∧ q = ys.take j
 | 0, _ => ⟨ps, by simp, by simp, by simp, fun q => by simp; intro j h1 h2; omega⟩
 | i + 1, hi => by
  obtain ⟨qs, h1, h2, h3, h4⟩ := word_run ys old ps p hold i (by omega)
  obtain ⟨c, hc⟩ : ∃ c, ys[i]? = some c := ⟨ys[i]'(by omega), by simp⟩
  have hb := begW_at hc
  rw [take_step hb, List.foldl_append, List.foldl_cons, List.foldl_nil]
  have hq : (if ((i : Int) == 0) = true then [] else (((begW ys).take i).foldl pstep (ps, p)).2) ++ [c] = ys.take (i + 1) := by
   rw [take_step hc]
   by_cases h0 : i = 0
   · subst h0; simp
   ·
    have hne : ((i : Int) == 0) = false := by simp; omega
    rw [hne, h3 (by omega)]
    simp
  have hstep : pstep (((begW ys).take i).foldl pstep (ps, p)) (((i : Int) == 0), c) = (if ys.take (i + 1) ∈ qs then qs else qs ++ [ys.take (i + 1)], ys.take (i + 1)) := by
   rw [pstep_def]
   dsimp only
   rw [hq, h1]
  rw [hstep]
  have hmem : ys.take (i + 1) ∈ qs ↔ i + 1 ≤ old := by
   rw [h4, hold (i + 1) (by omega) hi]
   constructor
   ·
    rintro (h | ⟨j, hj1, hj2, e⟩)
    · exact h
    ·
     have := congrArg List.length e
     simp at this
     omega
   · exact fun h => .inl h
  by_cases hm : ys.take (i + 1) ∈ qs
  ·
   have ho := hmem.1 hm
   refine ⟨qs, by simp [hm], by rw [h2]; omega, fun _ => rfl, fun q => ?_⟩
   rw [h4]
   constructor
   ·
    rintro (h | ⟨j, hj1, hj2, e⟩)
    · exact .inl h
    · exact .inr ⟨j, hj1, by omega, e⟩
   ·
    rintro (h | ⟨j, hj1, hj2, e⟩)
    · exact .inl h
    ·
     by_cases hj : j = i + 1
     · subst hj; rw [e]; exact .inl ((hold _ hj1 hi).2 ho)
     · exact .inr ⟨j, hj1, by omega, e⟩
  ·
   have ho : ¬ i + 1 ≤ old := fun h => hm (hmem.2 h)
   refine ⟨qs ++ [ys.take (i + 1)], by simp [hm], by rw [List.length_append, h2]; simp; omega, fun _ => rfl, fun q => ?_⟩
   rw [List.mem_append, h4]
   constructor
   ·
    rintro ((h | ⟨j, hj1, hj2, e⟩) | h)
    · exact .inl h
    · exact .inr ⟨j, hj1, by omega, e⟩
    · exact .inr ⟨i + 1, by omega, by omega, by simpa using h⟩
   ·
    rintro (h | ⟨j, hj1, hj2, e⟩)
    · exact .inl (.inl h)
    ·
     by_cases hj : j = i + 1
     · subst hj; exact .inr (by simp [e])
     · exact .inl (.inr ⟨j, hj1, by omega, e⟩)

theorem count_eq (fold : Bool) (wss : List (List Int)) : ((prun (begL fold wss)).1.length : Int) = nodesR fold wss ∧ ∀ q, q ∈ (prun (begL fold wss)).1 ↔ Begs fold wss q := by
 obtain ⟨n, hn⟩ : ∃ n, wss.length = n := ⟨_, rfl⟩
 induction n generalizing wss with
 | zero =>
  obtain rfl := List.eq_nil_of_length_eq_zero hn
  refine ⟨rfl, fun q => ?_⟩
  simp [begL, prun, Begs]
 | succ n ih =>
  obtain ⟨l', x, rfl⟩ : ∃ l' x, wss = l' ++ [x] := ⟨wss.dropLast, wss.getLast (by intro h; simp [h] at hn), (List.dropLast_concat_getLast _).symm⟩
  obtain ⟨h1, h2⟩ := ih l' (by simpa using hn)
  have hbd := oldR_bd fold x l'
  have hold : ∀ j, 1 ≤ j → j ≤ (foldL fold x).length → ((foldL fold x).take j ∈ (prun (begL fold l')).1 ↔ j ≤ (oldR fold l' x).toNat) := by
   intro j hj1 hj2
   rw [h2]
   have e1 : j ≤ (oldR fold l' x).toNat ↔ (j : Int) ≤ oldR fold l' x := by omega
   rw [e1, oldR_le fold x hj1]
   constructor
   ·
    rintro (h | ⟨w, hw, h⟩)
    ·
     have := congrArg List.length h
     rw [List.length_take, List.length_nil] at this
     omega
    · exact ⟨w, hw, (common_prefix hj2).1 h⟩
   ·
    rintro ⟨w, hw, h⟩
    exact .inr ⟨w, hw, (common_prefix hj2).2 h⟩
  obtain ⟨qs, g1, g2, g3, g4⟩ := word_run (foldL fold x) (oldR fold l' x).toNat (prun (begL fold l')).1 (prun (begL fold l')).2 hold (foldL fold x).length (Nat.le_refl _)
  have hrun : prun (begL fold (l' ++ [x])) = ((begW (foldL fold x)).take (foldL fold x).length).foldl pstep ((prun (begL fold l')).1, (prun (begL fold l')).2) := by
   rw [begL_snoc, List.take_of_length_le (by rw [begW_length]; exact Nat.le_refl _)]
   unfold prun
   rw [List.foldl_append]
  rw [hrun, g1]
  refine ⟨?_, fun q => ?_⟩
  ·
   rw [nodesR_snoc, g2, foldL_length, ← h1]
   omega
  ·
   rw [g4, h2]
   unfold Begs
   constructor
   ·
    rintro ((h | ⟨w, hw, h⟩) | ⟨j, hj1, hj2, rfl⟩)
    · exact .inl h
    · exact .inr ⟨w, by simp [hw], h⟩
    · exact .inr ⟨x, by simp, List.take_prefix _ _⟩
   ·
    rintro (h | ⟨w, hw, h⟩)
    · exact .inl (.inl h)
    ·
     rcases List.mem_append.1 hw with hw | hw
     · exact .inl (.inr ⟨w, hw, h⟩)
     ·
      simp at hw
      subst hw
      by_cases h0 : q = []
      · exact .inl (.inl h0)
      ·
       refine .inr ⟨q.length, ?_, h.length_le, List.prefix_iff_eq_take.1 h⟩
       exact List.length_pos_iff.2 h0

theorem nodes_eq (fold : Bool) (wss : List (List Int)) : (nrun (begL fold wss)).many = nodesR fold wss := by
 rw [(rep_run (begL fold wss)).many, (count_eq fold wss).1]

end Go.Proofs.Ytglfdclpjmhoiaa

/- Which error a list of words has, by the document (layer 5): walked. -/

namespace Go.Proofs.Ytglfdclpjmhoiaa
open Go.RowKit Go.Sort

def bsum (wss : List (List Int)) : Int := (wss.map fun w => (w.length : Int)).sum
theorem bsum_snoc (l : List (List Int)) (x : List Int) : bsum (l ++ [x]) = bsum l + x.length := by simp [bsum]
theorem bsum_bd : ∀ (l : List (List Int)), (∀ x ∈ l, x.length ≤ 1000000) → 0 ≤ bsum l ∧ bsum l ≤ l.length * 1000000
 | [], _ => by simp [bsum]
 | x :: l, h => by
  have h1 := bsum_bd l (fun y hy => h y (by simp [hy]))
  have h2 := h x (by simp)
  simp only [bsum, List.map_cons, List.sum_cons, List.length_cons] at h1 ⊢
  omega
def checkR (fold : Bool) (wss : List (List Int)) : Int :=
 if wss.length = 0 then 50 else if wss.length > 64 then 51 else if (∃ x ∈ wss, x.length = 0) then 52 else if (∃ x ∈ wss, x.length > 32) then 53 else if bsum wss > 600 then 54 else if nodesR fold wss > 400 then 55 else 0

set_option maxHeartbeats 4000000 in
theorem rcheck_any (fold : Bool) (a : Option Addr) (la ca : Nat) (wss : List (List Int)) (w : World) (hA : Wds w a la wss) (hla : la ≤ 1000000) (hM : ∀ x ∈ wss, x.length ≤ 1000000) :
  Calls Try.prog 32 #[.bool fold, .slice a la ca] w fun e w' => e = .returned (.int .i64 (checkR fold wss)) ∧ Below w.heap.size w w' := by
 have HL := Lib.hid hA.len
 have HM := Lib.hid hM
 obtain ⟨G, hG⟩ : ∃ G, checkR fold wss = G := ⟨_, rfl⟩
 have HG : Hid (checkR fold wss = G) := hG
 rw [hG]
 clear hG hM
 by_cases h0 : la = 0
 ·
  have HE : Hid (G = 50) := by rw [Hid, ← HG.out, checkR, if_pos (by rw [HL.out, h0])]
  go_enter Try.func32, Try.ntmps32
  go_wp2
  go_ret
  exact ⟨by rw [HE.out]; rfl, Below.refl _ _⟩
 ·
  by_cases h64 : 64 < la
  ·
   have HE : Hid (G = 51) := by rw [Hid, ← HG.out, checkR, if_neg (by rw [HL.out]; exact h0), if_pos (by rw [HL.out]; exact h64)]
   go_enter Try.func32, Try.ntmps32
   go_wp2
   go_ret
   exact ⟨by rw [HE.out]; rfl, Below.refl _ _⟩
  ·
   have HG2 : Hid (G = if (∃ x ∈ wss, x.length = 0) then 52 else if (∃ x ∈ wss, x.length > 32) then 53 else if bsum wss > 600 then 54 else if nodesR fold wss > 400 then 55 else 0) := by
    rw [Hid, ← HG.out, checkR, if_neg (by rw [HL.out]; exact h0), if_neg (by rw [HL.out]; exact h64)]
   go_enter Try.func32, Try.ntmps32
   go_wp2
   go_loop [6] (fun i => ∃ k : Nat, k ≤ la ∧ i = .int .i64 k ∧ Hid (∀ x ∈ wss.take k, x.length ≠ 0)) (fun i => la - (intOf i).toNat)
   case atStart => exact ⟨0, Nat.zero_le _, rfl, fun x hx => by simp at hx⟩
   case round =>
    obtain ⟨k, hk, rfl, HK⟩ := hrel
    by_cases hlt : k < la
    ·
     obtain ⟨bb, off, a', l, c, x, rfl, hbl, hcell, hx, hX, hlc⟩ := hA.at_ hlt
     have HX := Lib.hid hx
     have HXL := Lib.hid hX.len
     clear hx hX
     by_cases hl0 : l = 0
     ·
      have HE : Hid (G = 52) := by rw [Hid, HG2.out, if_pos ⟨x, List.mem_of_getElem? HX.out, by rw [HXL.out, hl0]⟩]
      go_wp2
      go_ret
      exact ⟨by rw [HE.out]; rfl, Below.refl _ _⟩
     ·
      have HK2 : Hid (∀ x ∈ wss.take (k + 1), x.length ≠ 0) := by
       rw [take_step HX.out]
       intro y hy
       rcases List.mem_append.1 hy with hy | hy
       · exact HK.out y hy
       · simp at hy; rw [hy, HXL.out]; exact hl0
      go_wp2
      go_round
      case rel => exact ⟨k + 1, by omega, by go_num, HK2⟩
      case measure => simp [intOf]; omega
    ·
     obtain rfl : k = la := by omega
     have HK0 : Hid (∀ x ∈ wss, x.length ≠ 0) := by
      have h := HK.out
      rwa [List.take_of_length_le (by rw [HL.out]; exact Nat.le_refl _)] at h
     have HG3 : Hid (G = if (∃ x ∈ wss, x.length > 32) then 53 else if bsum wss > 600 then 54 else if nodesR fold wss > 400 then 55 else 0) := by
      rw [Hid, HG2.out, if_neg (by rintro ⟨x, hx, h⟩; exact HK0.out x hx h)]
     clear HG2 HK
     go_wp2
     go_loop [5, 7] (fun s i => ∃ (j : Nat) (n : Int), j ≤ k ∧ i = .int .i64 j ∧ s = .int .i64 n ∧ Hid (n = bsum (wss.take j)) ∧ Hid (∀ x ∈ wss.take j, ¬ x.length > 32)) (fun _ i => k - (intOf i).toNat)
     case atStart => exact ⟨0, 0, Nat.zero_le _, rfl, rfl, by simp [Hid, bsum], fun x hx => by simp at hx⟩
     case round =>
      obtain ⟨j, n, hj, rfl, rfl, HN, HJ⟩ := hrel
      have hnb := bsum_bd (wss.take j) (fun y hy => HM.out y (List.mem_of_mem_take hy))
      rw [← HN.out] at hnb
      have hnl : ((wss.take j).length : Int) ≤ 64 := by have := List.length_take_le j wss; omega
      have hn0 := hnb.1
      have hn1 : n ≤ 64000000 := by omega
      clear hnb hnl
      by_cases hjl : j < k
      ·
       obtain ⟨bb, off, a', l, c, x, rfl, hbl, hcell, hx, hX, hlc⟩ := hA.at_ hjl
       have hxl : l ≤ 1000000 := by have := mem_bd HM.out hx; rw [hX.len] at this; exact this
       have HX := Lib.hid hx
       have HXL := Lib.hid hX.len
       clear hx hX
       by_cases hl32 : 32 < l
       ·
        have HE : Hid (G = 53) := by rw [Hid, HG3.out, if_pos ⟨x, List.mem_of_getElem? HX.out, by rw [HXL.out]; exact hl32⟩]
        go_wp2
        go_ret
        exact ⟨by rw [HE.out]; rfl, Below.refl _ _⟩
       ·
        have HJ2 : Hid (∀ x ∈ wss.take (j + 1), ¬ x.length > 32) := by
         rw [take_step HX.out]
         intro y hy
         rcases List.mem_append.1 hy with hy | hy
         · exact HJ.out y hy
         · simp at hy; rw [hy, HXL.out]; exact hl32
        have HS : Hid (n + (l : Int) = bsum (wss.take (j + 1))) := by rw [Hid, take_step HX.out, bsum_snoc, HXL.out, HN.out]
        go_wp2
        go_round
        case rel => exact ⟨j + 1, _, by omega, by go_num, rfl, HS, HJ2⟩
        case measure => simp [intOf]; omega
      ·
       obtain rfl : j = k := by omega
       have hfull : wss.take j = wss := List.take_of_length_le (by rw [HL.out]; exact Nat.le_refl _)
       have HG4 : Hid (G = if n > 600 then 54 else if nodesR fold wss > 400 then 55 else 0) := by
        have h2 := HN.out
        rw [hfull] at h2
        rw [Hid, HG3.out, if_neg (by rintro ⟨x, hx, h⟩; exact HJ.out x (by rw [hfull]; exact hx) h), h2]
       clear hfull HG3 HN HJ
       by_cases h6 : 600 < n
       ·
        have HE : Hid (G = 54) := by rw [Hid, HG4.out, if_pos h6]
        go_wp2
        go_ret
        exact ⟨by rw [HE.out]; rfl, Below.refl _ _⟩
       ·
        go_wp2_with fail
        refine (rnodes_any fold a j ca wss w hA hla HM.out).mono ?_
        rintro e w1 ⟨rfl, hb⟩
        obtain ⟨N, hN⟩ : ∃ N, nodesR fold wss = N := ⟨_, rfl⟩
        rw [hN]
        have HN : Hid (nodesR fold wss = N) := hN
        clear hN
        by_cases h4 : 400 < N
        ·
         have HE : Hid (G = 55) := by rw [Hid, HG4.out, if_neg (by omega), HN.out, if_pos h4]
         go_wp2
         go_ret
         exact ⟨by rw [HE.out]; rfl, hb⟩
        ·
         have HE : Hid (G = 0) := by rw [Hid, HG4.out, if_neg (by omega), HN.out, if_neg (by omega)]
         go_wp2
         go_ret
         exact ⟨by rw [HE.out]; rfl, hb⟩

end Go.Proofs.Ytglfdclpjmhoiaa

/- Two sets that are the same, by the document (layer 5): walked. -/

namespace Go.Proofs.Ytglfdclpjmhoiaa
open Go.RowKit Go.Sort

set_option maxHeartbeats 2000000 in
theorem rsames_any (f g : Bool) (a b : Option Addr) (la ca lb cb : Nat) (wss vss : List (List Int)) (w : World) (hA : Wds w a la wss) (hB : Wds w b lb vss) (hla : la ≤ 1000000) :
  Calls Try.prog 20 #[.agg (setV f a la ca), .agg (setV g b lb cb)] w fun e w' => e = .returned (.bool (sameS f g wss vss)) ∧ Below w.heap.size w w' := by
 obtain ⟨W, hW⟩ : ∃ W, W = (w.alloc (.cells (setV f a la ca) 24)).alloc (.cells (setV g b lb cb) 24) := ⟨_, rfl⟩
 have hBx : Below w.heap.size w ((w.alloc (.cells (setV f a la ca) 24)).alloc (.cells (setV g b lb cb) 24)) := ((Below.refl _ _).alloc (Nat.le_refl _) _).alloc (by simp) _
 have HA := Lib.hid hA.len
 have HB := Lib.hid hB.len
 by_cases hfg : f = g
 ·
  subst hfg
  by_cases hl : la = lb
  ·
   subst hl
   have hb1 : W.heap[w.heap.size]? = some (.cells (setV f a la ca) 24 (0, 0)) := by
    rw [hW]
    exact (Below.heap_alloc _ _ _ (by simp)).trans (World.alloc_heap_new _ _)
   have hb2 : W.heap[w.heap.size + 1]? = some (.cells (setV f b la cb) 24 (0, 0)) := by
    rw [hW]
    have := World.alloc_heap_new (w.alloc (.cells (setV f a la ca) 24)) (.cells (setV f b la cb) 24)
    rwa [World.size_alloc] at this
   have hA1 : Wds W a la wss := by rw [hW]; exact hA.below hBx
   have hB1 : Wds W b la vss := by rw [hW]; exact hB.below hBx
   have hBW : Below w.heap.size w W := by rw [hW]; exact hBx
   have hz : W.heap.size = w.heap.size + 2 := by rw [hW]; simp
   have HWD := Lib.hid hW
   clear hA hB hW
   go_enter Try.func20, Try.ntmps20
   go_wp2
   rw [← HWD.out]
   go_loopw [5] (fun i wr => ∃ k : Nat, k ≤ la ∧ i = .int .i64 k ∧ Hid (wss.take k = vss.take k) ∧ Below W.heap.size W wr) (fun i _ => la - (intOf i).toNat)
   case atStart => exact ⟨0, Nat.zero_le _, rfl, by simp [Hid], Below.refl _ _⟩
   case round =>
    obtain ⟨k, hk, rfl, HK, hBe⟩ := hrel
    have hw : Below w.heap.size w wr := hBW.trans (hBe.mono hBW.size)
    have h1 : wr.heap[w.heap.size]? = _ := (hBe.block _ (by omega)).trans hb1
    have h2 : wr.heap[w.heap.size + 1]? = _ := (hBe.block _ (by omega)).trans hb2
    have c1 : wr.cell? ⟨w.heap.size, 1, none⟩ = some (.slice a la ca) := by simp [World.cell?, h1]
    have c2 : wr.cell? ⟨w.heap.size + 1, 1, none⟩ = some (.slice b la cb) := by simp [World.cell?, h2]
    have hBd : ∀ n, Below W.heap.size W (wr.drewN n) := fun n => hBe.trans ⟨rfl, rfl, rfl, Nat.le_refl _, fun _ _ => rfl⟩
    have hwd : ∀ n, Below w.heap.size w (wr.drewN n) := fun n => hw.trans ⟨rfl, rfl, rfl, Nat.le_refl _, fun _ _ => rfl⟩
    by_cases hlt : k < la
    ·
     obtain ⟨bb, off, a', l, c, x, rfl, hbl, hcell, hx, hX, hlc⟩ := (hA1.below hBe).at_ hlt
     obtain ⟨bb2, off2, a2, l2, c2, y, rfl, hbl2, hcell2, hy, hY, hlc2⟩ := (hB1.below hBe).at_ hlt
     have hd : ∀ n, Below wr.heap.size wr (wr.drewN n) := fun n => ⟨rfl, rfl, rfl, Nat.le_refl _, fun _ _ => rfl⟩
     have hXn : ∀ n, Bys (wr.drewN n) a' l x := fun n => hX.below (hd n)
     have hYn : ∀ n, Bys (wr.drewN n) a2 l2 y := fun n => hY.below (hd n)
     have v1 : ∀ n cap, Sem.run Try.prog (convert 62 9 (.slice a' l cap)) (wr.drewN n) = .ok (.string (strOfNums x)) (wr.drewN n) := fun n cap => conv_bys (hXn n) cap
     have v2 : ∀ n cap, Sem.run Try.prog (convert 62 9 (.slice a2 l2 cap)) (wr.drewN n) = .ok (.string (strOfNums y)) (wr.drewN n) := fun n cap => conv_bys (hYn n) cap
     have hbeq := str_beq hX.2 hY.2
     have HX := Lib.hid hx
     have HY := Lib.hid hy
     clear hx hy hX hY hXn hYn hd
     by_cases h : x = y
     ·
      rw [decide_eq_true h] at hbeq
      have HS : Hid (wss.take (k + 1) = vss.take (k + 1)) := by rw [take_step HX.out, take_step HY.out, HK.out, h]; rfl
      clear h
      go_wp2
      go_quiet (fail)
      go_wp2
      go_roundw
      case rel => exact ⟨k + 1, by omega, by go_num, HS, hBd _⟩
      case measure => simp [intOf]; omega
     ·
      rw [decide_eq_false h] at hbeq
      have HS : Hid (sameS f f wss vss = false) := by
       have : wss ≠ vss := fun e => by
        have h1 := HX.out
        rw [e, HY.out] at h1
        exact h (Option.some.inj h1).symm
       simp [Hid, sameS, this]
      clear h
      go_wp2
      go_quiet (fail)
      go_wp2
      go_ret
      exact ⟨by rw [HS.out]; rfl, hwd _⟩
    ·
     obtain rfl : k = la := by omega
     have HS : Hid (sameS f f wss vss = true) := by
      have h := HK.out
      rw [List.take_of_length_le (by rw [HA.out]; exact Nat.le_refl _), List.take_of_length_le (by rw [HB.out]; exact Nat.le_refl _)] at h
      simp [Hid, sameS, h]
     go_wp2
     go_ret
     exact ⟨by rw [HS.out]; rfl, hw⟩
  ·
   have HS : Hid (sameS f f wss vss = false) := sameS_no (.inr (by rw [HA.out, HB.out]; exact hl))
   have hne : ((la : Int) != (lb : Int)) = true := by simp; omega
   clear hW
   go_enter Try.func20, Try.ntmps20
   go_wp2
   all_goals
    go_ret
    exact ⟨by rw [HS.out]; rfl, hBx⟩
 ·
  have HS : Hid (sameS f g wss vss = false) := sameS_no (.inl hfg)
  have hne : (f != g) = true := by simp [hfg]
  clear hW
  go_enter Try.func20, Try.ntmps20
  go_wp2
  all_goals
   go_ret
   exact ⟨by rw [HS.out]; rfl, hBx⟩

end Go.Proofs.Ytglfdclpjmhoiaa

/- A set of words, made, by the document (layer 5): walked. -/

namespace Go.Proofs.Ytglfdclpjmhoiaa
open Go.RowKit Go.Sort

set_option maxHeartbeats 1000000 in
theorem rmake_no (fold : Bool) (a : Option Addr) (la ca : Nat) (wss : List (List Int)) (w : World) (hA : Wds w a la wss) (hla : la ≤ 1000000) (hM : ∀ x ∈ wss, x.length ≤ 1000000) (hc : checkR fold wss ≠ 0) :
  Calls Try.prog 19 #[.bool fold, .slice a la ca] w fun e w' => e = .returned (.tuple #[.agg (setV false none 0 0), .int .i64 (checkR fold wss)]) ∧ Below w.heap.size w w' := by
 have hA1 := hA.below ((Below.refl _ _).alloc (Nat.le_refl _) (.cells (setV false none 0 0) 24))
 obtain ⟨n, hn⟩ : ∃ n, checkR fold wss = n := ⟨_, rfl⟩
 have HN : Hid (checkR fold wss = n) := hn
 rw [hn] at hc ⊢
 clear hn
 go_enter Try.func19, Try.ntmps19
 go_wp2_with fail
 refine (rcheck_any fold a la ca wss _ hA1 hla hM).mono ?_
 rintro e w1 ⟨rfl, hb⟩
 rw [HN.out]
 have hz : w1.heap[w.heap.size]? = some (.cells (setV false none 0 0) 24 (0, 0)) := (hb.block _ (by simp)).trans (World.alloc_heap_new _ _)
 have hB1 : Below w.heap.size w w1 := ((Below.refl _ _).alloc (Nat.le_refl _) _).trans (hb.mono (by simp))
 have z0 : w1.cell? ⟨w.heap.size, 0, none⟩ = some (.bool false) := by simp [World.cell?, hz]
 have z1 : w1.cell? ⟨w.heap.size, 1, none⟩ = some (.slice none 0 0) := by simp [World.cell?, hz]
 have y0 : w1.frozen? ⟨w.heap.size, 0, none⟩ = false := by simp [World.frozen?, hz]
 have y1 : w1.frozen? ⟨w.heap.size, 1, none⟩ = false := by simp [World.frozen?, hz]
 go_wp2
 have hz2 := set_at (i := 1) (set_at (i := 0) hz (.bool false)) (.slice none 0 0)
 refine bodyPost_ret (results_set rfl rfl (by simpa using hz2)) rfl ?_
 exact ⟨rfl, (hB1.setCell (Nat.le_refl _) _).setCell (Nat.le_refl _) _⟩

theorem text_o (fold : Bool) (a : Option Addr) (la ca : Nat) (xs : List Int) (w : World) (hA : Bys w a la xs) (hla : la ≤ 1000000) :
  Calls Try.prog 34 #[.bool fold, .slice a la ca] w fun e w' => ∃ a1 c1, e = .returned (.slice a1 la c1) ∧ OwnB w' w.heap.size (.slice a1 la c1) la (foldL fold xs) ∧ Below w.heap.size w w' :=
 (text_any fold a la ca xs w hA hla).mono fun e w' ⟨v, he, hown, hb⟩ => by
  obtain ⟨a1, c1, rfl, _, h⟩ := own_bys hown (foldL_bd hA.2)
  exact ⟨a1, c1, he, hown, hb⟩

set_option maxRecDepth 100000 in
set_option maxHeartbeats 4000000 in
theorem rmake_yes (fold : Bool) (a : Option Addr) (la ca : Nat) (wss : List (List Int)) (w : World) (hA : Wds w a la wss) (hla : la ≤ 1000000) (hM : ∀ x ∈ wss, x.length ≤ 1000000) (hc : checkR fold wss = 0) :
    Calls Try.prog 19 #[.bool fold, .slice a la ca] w fun e w' => ∃ v, e = .returned (.tuple #[.agg #[.bool fold, v], .int .i64 0]) ∧ OwnW w' w.heap.size v (makeL fold wss) ∧ Below w.heap.size w w' := by
  have hA1 := hA.below ((Below.refl _ _).alloc (Nat.le_refl _) (.cells (setV false none 0 0) 24))
  have HN : Hid (checkR fold wss = 0) := hc
  have HL := Lib.hid hA.len
  clear hc
  go_enter Try.func19, Try.ntmps19
  go_wp2_with fail
  refine (rcheck_any fold a la ca wss _ hA1 hla hM).mono ?_
  rintro e w1 ⟨rfl, hb⟩
  rw [HN.out]
  have hz : w1.heap[w.heap.size]? = some (.cells (setV false none 0 0) 24 (0, 0)) := (hb.block _ (by simp)).trans (World.alloc_heap_new _ _)
  have hB1 : Below w.heap.size w w1 := ((Below.refl _ _).alloc (Nat.le_refl _) _).trans (hb.mono (by simp))
  have hlt1 : w.heap.size < w1.heap.size := (Array.getElem?_eq_some_iff.1 hz).1
  go_wp2
  go_loopw [8] (fun i wr => ∃ (k : Nat) (v : Value), k ≤ la ∧ i = .int .i64 k ∧ Below w.heap.size w wr ∧ wr.heap[w.heap.size]? = some (.cells (setV false none 0 0) 24 (0, 0)) ∧ wr.heap[w1.heap.size]? = some (.cells #[.bool fold, v] 24 (0, 0)) ∧ OwnW wr w.heap.size v (makeL fold (wss.take k))) (fun i _ => la - (intOf i).toNat)
  case atStart => exact ⟨0, .slice none 0 0, Nat.zero_le _, rfl, hB1.alloc (by omega) _, (Below.heap_alloc _ _ _ hlt1).trans hz, World.alloc_heap_new _ _, by simpa [makeL] using OwnW.nil _ _⟩
  case round =>
    obtain ⟨k, v, hk, rfl, hBe, hzr, hsr, hown⟩ := hrel
    by_cases hlt : k < la
    · obtain ⟨bb, off, a', l, c, x, rfl, hbl, hcell, hx, hX, hlc⟩ := (hA.below hBe).at_ hlt
      have hxl : l ≤ 1000000 := by have := mem_bd hM hx; rw [hX.len] at this; exact this
      obtain ⟨av, cv, rfl, hcv, hW⟩ := hown.wds
      have s0 : wr.cell? ⟨w1.heap.size, 0, none⟩ = some (.bool fold) := by simp [World.cell?, hsr]
      have s1 : wr.cell? ⟨w1.heap.size, 1, none⟩ = some (.slice av (makeL fold (wss.take k)).length cv) := by simp [World.cell?, hsr]
      have hml : (makeL fold (wss.take k)).length ≤ 1000000 := by have := makeL_len fold (wss.take k); have := List.length_take_le k wss; omega
      have HX := Lib.hid hx
      clear hx
      have kc := cell_regrown hcell
      have ks := cell_regrown s1
      have cW : ∀ d os, Calls Try.prog 33 #[.bool fold, .slice a' l c, .slice av (makeL fold (wss.take k)).length cv] (grow (redrawn wr d) os) fun e w'' => e = .returned (.int .i64 (whichL fold x (makeL fold (wss.take k)))) ∧ ∃ p : Regrown, w'' = grow (redrawn wr p.d) p.os :=
        fun d os => Calls.regrown_of (rwhich_any fold a' av l c _ cv x (makeL fold (wss.take k)) _ (hX.below (below_regrown wr d os)) hxl (hW.below (below_regrown wr d os)) hml (makeL_mem _ (fun y hy => hM y (List.mem_of_mem_take hy))))
      go_wp2
      refine wp_region_quiet_below mixed (by kernel_rfl) ?_
      repeat (go_big_quiet_step (exact cW _ _))
      refine wpQuiet_nil ?_
      rintro _ ⟨⟨dq, osq⟩, rfl⟩
      obtain ⟨w2, hw2⟩ : ∃ w2, grow (redrawn wr dq) osq = w2 := ⟨_, rfl⟩
      rw [hw2]
      have hb2 : Below wr.heap.size wr w2 := hw2 ▸ below_regrown wr dq osq
      clear hw2 kc ks cW
      have hB2 : Below w.heap.size w w2 := hBe.trans (hb2.mono hBe.size)
      have hz2 : w2.heap[w.heap.size]? = _ := (hb2.block _ (Array.getElem?_eq_some_iff.1 hzr).1).trans hzr
      have hs2 : w2.heap[w1.heap.size]? = _ := (hb2.block _ (Array.getElem?_eq_some_iff.1 hsr).1).trans hsr
      have hown2 := hown.below hb2
      have hcl2 : w2.cell? ⟨bb, off + k, none⟩ = some (.slice a' l c) := (hb2.cell (p := ⟨bb, off + k, none⟩) hbl).trans hcell
      clear hown hW hsr hzr s0 s1 hcell
      have HM : Hid (makeL fold (wss.take (k + 1)) = addW fold (makeL fold (wss.take k)) x) := by rw [take_step HX.out, makeL_snoc]; rfl
      obtain ⟨q, hq⟩ : ∃ q, whichL fold x (makeL fold (wss.take k)) = q := ⟨_, rfl⟩
      have HQ : Hid (whichL fold x (makeL fold (wss.take k)) = q) := hq
      rw [hq]
      clear hq
      by_cases hq0 : 0 ≤ q
      · have HF : Hid (makeL fold (wss.take (k + 1)) = makeL fold (wss.take k)) := by
          rw [HM.out]
          unfold addW
          rw [HQ.out, if_neg (by omega)]
          rfl
        go_wp2
        go_roundw
        case rel => exact ⟨k + 1, _, by omega, by go_num, hB2, hz2, hs2, by rw [HF.out]; exact hown2⟩
        case measure => simp [intOf]; omega
      · have HF : Hid (makeL fold (wss.take (k + 1)) = makeL fold (wss.take k) ++ [foldL fold x]) := by
          rw [HM.out]
          unfold addW
          rw [HQ.out, if_pos (by omega)]
          rfl
        obtain ⟨i0, hi, hi0, hi1, hi2⟩ := info_parts words_info
        have s1 : w2.cell? ⟨w1.heap.size, 1, none⟩ = some (.slice av (makeL fold (wss.take k)).length cv) := by simp [World.cell?, hs2]
        obtain ⟨es, e1, e2, e3⟩ := hown2
        have hX2 : ∀ n, Bys (w2.drewN n) a' l x := fun n => (hX.below hb2).below ⟨rfl, rfl, rfl, Nat.le_refl _, fun _ _ => rfl⟩
        have hd : ∀ n, Below w2.heap.size w2 (w2.drewN n) := fun n => ⟨rfl, rfl, rfl, Nat.le_refl _, fun _ _ => rfl⟩
        obtain ⟨m, hm⟩ : ∃ m, (makeL fold (wss.take k)).length = m := ⟨_, rfl⟩
        rw [hm] at s1 hs2 e1 e2 hml ⊢
        have HMM := Lib.hid hm
        clear hm
        go_wp2
        have hXd : Bys w2.drew a' l x := hX2 1
        have hdd : Below w2.heap.size w2 w2.drew := hd 1
        go_region_law (first
          | (go_simp; go_at_call 34; refine (text_o fold a' l c x w2.drew hXd hxl).mono ?_; rintro e w3 ⟨a3, c3, rfl, hown3, hb3⟩
             have hB3 : Below w2.heap.size w2 w3 := hdd.trans hb3
             have e13 := own_below_ e1 hB3
             have hs3 : w3.heap[w1.heap.size]? = some (.cells #[.bool fold, .slice av m cv] 24 (0, 0)) := (hB3.block _ (Array.getElem?_eq_some_iff.1 hs2).1).trans hs2
             have s13 : w3.cell? ⟨w1.heap.size, 1, none⟩ = some (.slice av m cv) := by simp [World.cell?, hs3]
             have hl3 : w1.heap.size < w3.heap.size := (Array.getElem?_eq_some_iff.1 hs3).1
             have hl3b : w1.heap.size ≠ w3.heap.size := by omega
             have hl3c : w3.heap.size ≠ w1.heap.size := by omega
             have s14 : (w3.alloc (.cells #[.slice a3 l c3] 62)).cell? ⟨w1.heap.size, 1, none⟩ = some (.slice av m cv) := by rw [World.cell?_alloc_lt _ _ _ hl3]; exact s13
             have hne := own_far e13 hs3 (of_decide_eq_true (by kernel_rfl))
             have hB3w : Below w.heap.size w w3 := hB2.trans (hB3.mono hB2.size)
             dsimp only)
          | (refine step_append_lies _ (by rfl) _ _ 22 (by rfl) w.heap.size 62 i0 (.slice none 0 0) 1 24 Try.underlying22 hi hi0 hi1 hi2 rfl (by decide) (.slice av m cv) m es (by rfl) (e13.alloc _) ⟨w3.heap.size, 0, none⟩ 1 1 [.slice a3 l c3] (by rfl) rfl (cell_one_new _ _ _) (by simp [Value.oneCell']) (by decide) (by unfold maxLen; omega) (by omega) (by have := hB3w.size; simp; omega) _ rfl ?_
             intro g5 c5 w5 hown' hgrow hat hl5
             have hs5 : w5.heap[w1.heap.size]? = some (.cells #[.bool fold, .slice av m cv] 24 (0, 0)) := (hgrow.block _ (by simp; have := (Array.getElem?_eq_some_iff.1 hs3).1; omega) (Ne.symm hne)).trans ((Below.heap_alloc _ _ _ (Array.getElem?_eq_some_iff.1 hs3).1).trans hs3)
             have q0 : w5.cell? ⟨w1.heap.size, 1, none⟩ = some (.slice av m cv) := by simp [World.cell?, hs5]
             have q1 : w5.frozen? ⟨w1.heap.size, 1, none⟩ = false := by simp [World.frozen?, hs5]))
        all_goals
          go_wp2
          have hB5 : Below w.heap.size w w5 := (hB3w.alloc (by have := hB3w.size; omega) _).grown hgrow (by simp; have := hB3w.size; omega) (fun j hj => (e13.lt j hj).1)
          have hz5 : w5.heap[w.heap.size]? = some (.cells (setV false none 0 0) 24 (0, 0)) := by
            have h3 : w3.heap[w.heap.size]? = _ := (hB3.block _ (Array.getElem?_eq_some_iff.1 hz2).1).trans hz2
            exact (hgrow.block _ (by simp; have := (Array.getElem?_eq_some_iff.1 h3).1; omega) (Ne.symm (own_far e13 h3 (of_decide_eq_true (by kernel_rfl))))).trans ((Below.heap_alloc _ _ _ (Array.getElem?_eq_some_iff.1 h3).1).trans h3)
          go_roundw
          case rel =>
            refine ⟨k + 1, _, by omega, by go_num, hB5.setCell (by show w.heap.size ≤ w1.heap.size; omega) _, (Below.heap_setCell w5 ⟨w1.heap.size, 1, none⟩ _ _ (by simp; omega)).trans hz5, by simpa using set_at (i := 1) hs5 (.slice (some ⟨g5, 0, none⟩) (m + 1) c5), ?_⟩
            rw [HF.out]
            have hst := OwnW.step (wss := makeL fold (wss.take k)) (xs := foldL fold x) (e := .slice a3 l c3) (es := es) (v := .slice av m cv) (by rw [HMM.out]; exact e13.alloc _) (by rw [HMM.out]; exact e2)
              (fun i e xs he hx => ⟨own_below_ (own_below_ (e3 i e xs he hx).1 hB3) ((Below.refl _ _).alloc (Nat.le_refl _) _), (e3 i e xs he hx).2⟩) (by rw [foldL_length, hX.len]; exact (OwnB_mono (hown3.alloc _) (by have := hB2.size; simpa using this))) (foldL_bd hX.2) (by rw [HMM.out]; exact hown') hgrow
            exact hst.turned (grown_set2 w5 w1.heap.size 1 _) hs5 (of_decide_eq_true (by kernel_rfl)) (of_decide_eq_true (by kernel_rfl))
          case measure => simp [intOf]; omega
    · obtain rfl : k = la := by omega
      have HF : Hid (wss.take k = wss) := List.take_of_length_le (by have := HL.out; omega)
      have s0 : wr.cell? ⟨w1.heap.size, 0, none⟩ = some (.bool fold) := by simp [World.cell?, hsr]
      obtain ⟨av, cv, rfl, hcv, hW⟩ := hown.wds
      have s1 : wr.cell? ⟨w1.heap.size, 1, none⟩ = some (.slice av (makeL fold (wss.take k)).length cv) := by simp [World.cell?, hsr]
      have z0 : wr.cell? ⟨w.heap.size, 0, none⟩ = some (.bool false) := by simp [World.cell?, hzr]
      have z1 : wr.cell? ⟨w.heap.size, 1, none⟩ = some (.slice none 0 0) := by simp [World.cell?, hzr]
      have y0 : wr.frozen? ⟨w.heap.size, 0, none⟩ = false := by simp [World.frozen?, hzr]
      have y1 : wr.frozen? ⟨w.heap.size, 1, none⟩ = false := by simp [World.frozen?, hzr]
      go_wp2
      have hz2 := set_at (i := 1) (set_at (i := 0) hzr (.bool fold)) (.slice av (makeL fold (wss.take k)).length cv)
      refine bodyPost_ret (results_set rfl rfl (by simpa using hz2)) rfl ?_
      refine ⟨_, rfl, ?_, (hBe.setCell (Nat.le_refl _) _).setCell (Nat.le_refl _) _⟩
      have ho := (hown.turned (grown_set2 wr w.heap.size 0 (.bool fold)) hzr (of_decide_eq_true (by kernel_rfl)) (of_decide_eq_true (by kernel_rfl))).turned (grown_set2 _ w.heap.size 1 (.slice av (makeL fold (wss.take k)).length cv)) (set_at (i := 0) hzr (.bool fold)) (of_decide_eq_true (by kernel_rfl)) (of_decide_eq_true (by kernel_rfl))
      rw [HF.out] at ho ⊢
      exact ho

end Go.Proofs.Ytglfdclpjmhoiaa

/- Which sets may be, by the document (layer 5): walked. -/

namespace Go.Proofs.Ytglfdclpjmhoiaa
open Go.RowKit Go.Sort

def rightR (fold : Bool) (wss : List (List Int)) : Bool := decide (checkR fold wss = 0) && decide (makeL fold wss = wss)

set_option maxHeartbeats 1000000 in
theorem rright_any (fold : Bool) (a : Option Addr) (la ca : Nat) (wss : List (List Int)) (w : World) (hA : Wds w a la wss) (hla : la ≤ 1000000) (hM : ∀ x ∈ wss, x.length ≤ 1000000) :
  Calls Try.prog 6 #[.agg (setV fold a la ca)] w fun e w' => e = .returned (.bool (rightR fold wss)) ∧ Below w.heap.size w w' := by
 have hB0 : Below w.heap.size w (w.alloc (.cells (setV fold a la ca) 24)) := (Below.refl _ _).alloc (Nat.le_refl _) _
 have hA1 := hA.below hB0
 have hnew := World.alloc_heap_new w (.cells (setV fold a la ca) 24)
 by_cases hc : checkR fold wss = 0
 ·
  have HR : Hid (rightR fold wss = sameS fold fold (makeL fold wss) wss) := by simp [Hid, rightR, sameS, hc]
  go_enter Try.func6, Try.ntmps6
  go_wp2_with fail
  refine (rmake_yes fold a la ca wss _ hA1 hla hM hc).mono ?_
  rintro e w1 ⟨v, rfl, hown, hb⟩
  have hB1 : Below w.heap.size w w1 := hB0.trans (hb.mono (by simp))
  obtain ⟨av, cv, rfl, hcv, hW⟩ := hown.wds
  have h1 : w1.heap[w.heap.size]? = _ := (hb.block _ (by simp)).trans hnew
  have hs1 : w.heap.size < w1.heap.size := (Array.getElem?_eq_some_iff.1 h1).1
  have c0 : w1.cell? ⟨w.heap.size, 0, none⟩ = some (.bool fold) := by simp [World.cell?, h1]
  have c1 : w1.cell? ⟨w.heap.size, 1, none⟩ = some (.slice a la ca) := by simp [World.cell?, h1]
  have hlen : (makeL fold wss).length ≤ 1000000 := by have := makeL_len fold wss; have := hA.len; omega
  have hne : w.heap.size ≠ w1.heap.size := by omega
  have hB2 : Below w1.heap.size w1 (w1.alloc (.cells (setV fold av (makeL fold wss).length cv) 24)) := (Below.refl _ _).alloc (Nat.le_refl _) _
  have hW2 := hW.below hB2
  have hA2 := (hA.below hB1).below hB2
  clear hc
  go_wp2_with fail
  refine (rsames_any fold fold av a _ cv la ca (makeL fold wss) wss _ hW2 hA2 hlen).mono ?_
  rintro e w3 ⟨rfl, hb3⟩
  go_wp2
  go_ret
  exact ⟨by rw [HR.out]; rfl, hB1.trans ((hB2.trans (hb3.mono (by simp))).mono hB1.size)⟩
 ·
  have HR : Hid (rightR fold wss = false) := by simp [Hid, rightR, hc]
  obtain ⟨n, hn⟩ : ∃ n, checkR fold wss = n := ⟨_, rfl⟩
  have HC := Lib.hid hc
  have HN : Hid (checkR fold wss = n) := hn
  rw [hn] at hc
  clear hn
  have hnb : (n == 0) = false := by simp [hc]
  go_enter Try.func6, Try.ntmps6
  go_wp2_with fail
  refine (rmake_no fold a la ca wss _ hA1 hla hM HC.out).mono ?_
  rintro e w1 ⟨rfl, hb⟩
  rw [HN.out]
  have hB1 : Below w.heap.size w w1 := hB0.trans (hb.mono (by simp))
  go_wp2
  go_ret
  exact ⟨by rw [HR.out]; rfl, hB1.alloc hB1.size _⟩

end Go.Proofs.Ytglfdclpjmhoiaa

/- The code's check of words is the document's (layer 5). -/

namespace Go.Proofs.Ytglfdclpjmhoiaa

theorem snoc_ind {α : Type} {P : List α → Prop} (h0 : P []) (h1 : ∀ l x, P l → P (l ++ [x])) : ∀ l, P l := by
 intro l
 obtain ⟨n, hn⟩ : ∃ n, l.length = n := ⟨_, rfl⟩
 induction n generalizing l with
 | zero => obtain rfl := List.eq_nil_of_length_eq_zero hn; exact h0
 | succ n ih =>
  obtain ⟨l', x, rfl⟩ : ∃ l' x, l = l' ++ [x] := ⟨l.dropLast, l.getLast (by intro h; simp [h] at hn), (List.dropLast_concat_getLast _).symm⟩
  exact h1 l' x (ih l' (by simpa using hn))

theorem cnt_spec : ∀ (l : List (List Int)), (cnt l).1 = l.length ∧ (cnt l).2.1 = bsum l ∧ ((cnt l).2.2.1 > 32 ↔ ∃ x ∈ l, x.length > 32) ∧ 0 ≤ (cnt l).2.2.2 ∧ (l ≠ [] → ((cnt l).2.2.2 = 0 ↔ ∃ x ∈ l, x.length = 0)) := by
 apply snoc_ind
 · simp [cnt, bsum]
 ·
  intro l x ⟨h1, h2, h3, h4, h5⟩
  rw [cnt_snoc, bsum_snoc]
  simp only [cstep]
  refine ⟨by rw [h1]; simp, by rw [h2], ?_, by split <;> omega, fun _ => ?_⟩
  ·
   constructor
   ·
    intro h
    by_cases hx : x.length > 32
    · exact ⟨x, by simp, hx⟩
    ·
     obtain ⟨y, hy, hl⟩ := h3.1 (by omega)
     exact ⟨y, by simp [hy], hl⟩
   ·
    rintro ⟨y, hy, hl⟩
    rcases List.mem_append.1 hy with hy | hy
    ·
     have := h3.2 ⟨y, hy, hl⟩
     omega
    · simp at hy; subst hy; omega
  ·
   by_cases hn : l = []
   ·
    subst hn
    simp [cnt]
   ·
    have hlen : l.length ≠ 0 := fun e => hn (List.eq_nil_of_length_eq_zero e)
    have h6 := h5 hn
    constructor
    ·
     intro h
     by_cases hx : x.length = 0
     · exact ⟨x, by simp, hx⟩
     ·
      split at h
      · omega
      ·
       obtain ⟨y, hy, hl⟩ := h6.1 h
       exact ⟨y, by simp [hy], hl⟩
    ·
     rintro ⟨y, hy, hl⟩
     rcases List.mem_append.1 hy with hy | hy
     ·
      have := h6.2 ⟨y, hy, hl⟩
      rw [if_neg (by omega)]
      exact this
     ·
      simp at hy; subst hy
      split <;> omega

theorem firstAsk_eq (f : Nat → Bool) : firstAsk f = if f 0 then 50 else if f 1 then 51 else if f 2 then 52 else if f 3 then 53 else if f 4 then 54 else if f 5 then 55 else 0 := by
 unfold firstAsk
 simp only [List.range, List.range.loop, List.find?]
 cases f 0 <;> cases f 1 <;> cases f 2 <;> cases f 3 <;> cases f 4 <;> cases f 5 <;> rfl

theorem check_eq (fold : Bool) (wss : List (List Int)) : checkP fold wss = checkR fold wss := by
 obtain ⟨h1, h2, h3, h4, h5⟩ := cnt_spec wss
 unfold checkP checkR
 rw [firstAsk_eq]
 simp only [askB, h1, h2, nodes_eq, decide_eq_true_eq, h3]
 by_cases h0 : wss.length = 0
 · rw [if_pos (by omega), if_pos h0]
 ·
  rw [if_neg (by omega), if_neg h0]
  have hn : wss ≠ [] := fun e => h0 (by rw [e]; rfl)
  by_cases h64 : wss.length > 64
  · rw [if_pos (by omega), if_pos h64]
  ·
   rw [if_neg (by omega), if_neg h64]
   by_cases he : ∃ x ∈ wss, x.length = 0
   · rw [if_pos ((h5 hn).2 he), if_pos he]
   · rw [if_neg (fun h => he ((h5 hn).1 h)), if_neg he]

theorem right_eq (fold : Bool) (wss : List (List Int)) : rightP fold wss = rightR fold wss := by
 unfold rightP rightR
 rw [check_eq]

end Go.Proofs.Ytglfdclpjmhoiaa

/- Plain words of layer 6: hits, their order, all of a text. -/

namespace Go.Proofs.Ytglfdclpjmhoiaa

abbrev HitP := Int × Int
def lenW (wss : List (List Int)) (k : Int) : Int := if 0 ≤ k ∧ k < wss.length then (((wss[k.toNat]?).getD []).length : Int) else 0
def cmpI (a b : Int) : Int := if a < b then -1 else if b < a then 1 else 0
def orI (a b c : Int) : Int := if a ≠ 0 then a else if b ≠ 0 then b else c
/-- Which words stand at a place. -/
def stands (fold : Bool) (wss : List (List Int)) (text : List Int) (place : Nat) (k : Nat) : Bool := atL fold text place ((wss[k]?).getD [])
end Go.Proofs.Ytglfdclpjmhoiaa

/- Which of two hits comes ahead (layer 6), walked. -/

namespace Go.Proofs.Ytglfdclpjmhoiaa
open Go.RowKit Go.Sort

theorem compare_any (x y : Int) (w : World) :
  Calls Try.prog 59 #[.int .i64 x, .int .i64 y] w fun e w' => e = .returned (.int .i64 (cmpI x y)) ∧ w = w' := by
 by_cases h1 : x < y
 ·
  have hE : Hid (cmpI x y = -1) := by simp [Hid, cmpI, h1]
  go_enter Try.func59, Try.ntmps59
  go_wp2
  go_ret
  exact ⟨by rw [hE.out]; rfl, rfl⟩
 ·
  by_cases h2 : y < x
  ·
   have hE : Hid (cmpI x y = 1) := by simp [Hid, cmpI, h1, h2]
   go_enter Try.func59, Try.ntmps59
   go_wp2
   go_ret
   exact ⟨by rw [hE.out]; rfl, rfl⟩
  ·
   have hE : Hid (cmpI x y = 0) := by simp [Hid, cmpI, h1, h2]
   go_enter Try.func59, Try.ntmps59
   go_wp2
   go_ret
   exact ⟨by rw [hE.out]; rfl, rfl⟩

def orL (zs : List Int) : Int := (zs.find? (fun z => z != 0)).getD 0
theorem orL_hit {pre rest : List Int} {z : Int} (h : ∀ x ∈ pre, x = 0) (hz : z ≠ 0) : orL (pre ++ z :: rest) = z := by
 unfold orL
 rw [List.find?_append, List.find?_eq_none.2 (fun x hx => by simp [h x hx])]
 simp [hz]
theorem orL_none {zs : List Int} (h : ∀ x ∈ zs, x = 0) : orL zs = 0 := by
 unfold orL
 rw [List.find?_eq_none.2 (fun x hx => by simp [h x hx])]
 rfl
theorem orL3 (x y z : Int) : orL [x, y, z] = orI x y z := by
 unfold orL orI
 by_cases h1 : x = 0
 ·
  by_cases h2 : y = 0
  · by_cases h3 : z = 0 <;> simp [h1, h2, h3]
  · simp [h1, h2]
 · simp [h1]

set_option maxHeartbeats 1000000 in
theorem or_any (a : Option Addr) (la ca : Nat) (zs : List Int) (w : World) (hA : Sl1 (Value.int .i64) w a la zs) (hla : la ≤ 1000000) :
  Calls Try.prog 58 #[.slice a la ca] w fun e w' => e = .returned (.int .i64 (orL zs)) ∧ w = w' := by
 obtain ⟨hl, hm⟩ := hA
 have HL := Lib.hid hl
 clear hl
 go_enter Try.func58, Try.ntmps58
 go_wp2
 go_loop [8] (fun i => ∃ k : Nat, k ≤ la ∧ i = .int .i64 k ∧ Hid (∀ x ∈ zs.take k, x = 0)) (fun i => la - (intOf i).toNat)
 case atStart => exact ⟨0, Nat.zero_le _, rfl, fun x hx => by simp at hx⟩
 case round =>
  obtain ⟨k, hk, rfl, HK⟩ := hrel
  by_cases hlt : k < la
  ·
   obtain ⟨b, off, rfl, hb, hc⟩ := hm.resolve_left (by omega)
   obtain ⟨z, hz⟩ : ∃ z, zs[k]? = some z := ⟨zs[k]'(by rw [HL.out]; exact hlt), by simp⟩
   have hcell : w.cell? ⟨b, off + k, none⟩ = some (.int .i64 z) := hc k z hz
   have HZ := Lib.hid hz
   clear hz hc hm
   by_cases h0 : z = 0
   ·
    subst h0
    have HS : Hid (∀ x ∈ zs.take (k + 1), x = 0) := by
     rw [take_step HZ.out]
     intro x hx
     rcases List.mem_append.1 hx with hx | hx
     · exact HK.out x hx
     · simpa using hx
    go_wp2
    go_round
    case rel => exact ⟨k + 1, by omega, by go_num, HS⟩
    case measure => simp [intOf]; omega
   ·
    have HS : Hid (orL zs = z) := by
     have h := orL_hit (rest := zs.drop (k + 1)) HK.out h0
     rwa [← split_at HZ.out] at h
    have hne : (z != 0) = true := by simp [h0]
    clear h0
    go_wp2
    go_ret
    exact ⟨by rw [HS.out]; rfl, rfl⟩
  ·
   obtain rfl : k = la := by omega
   have HS : Hid (orL zs = 0) := by
    have h := HK.out
    rw [List.take_of_length_le (by rw [HL.out]; exact Nat.le_refl _)] at h
    exact orL_none h
   go_wp2
   go_ret
   exact ⟨by rw [HS.out]; rfl, rfl⟩

theorem Sl1.lay {α : Type} (enc : α → Value) (w : World) (zs : List α) (t : TypeId) (n : Nat) (h : w.heap.size = n) : Sl1 enc (w.alloc (.cells (zs.map enc).toArray t)) (some ⟨n, 0, none⟩) zs.length zs := by
 subst h
 refine ⟨rfl, .inr ⟨w.heap.size, 0, rfl, by simp, fun i x hx => ?_⟩⟩
 have hn := World.alloc_heap_new w (.cells (zs.map enc).toArray t)
 unfold World.cell?
 dsimp only
 rw [hn]
 simp [hx]

end Go.Proofs.Ytglfdclpjmhoiaa

/- Blocks that lie one behind the other; parts of slices of bytes. -/

namespace Go.Proofs.Ytglfdclpjmhoiaa
open Go.RowKit Go.Sort

theorem alloc_at {w : World} {n : Nat} (h : w.heap.size = n) (o : Obj) : (w.alloc o).heap[n]? = some o := by
 subst h; exact World.alloc_heap_new w o
/-- Blocks that lie one behind the other. -/
def Bx (n : Nat) (os : List Obj) (W : World) : Prop := ∀ (i : Nat) (o : Obj), os[i]? = some o → W.heap[n + i]? = some o
theorem Bx.below {n : Nat} {os : List Obj} {W W' : World} (h : Bx n os W) (hb : Below W.heap.size W W') : Bx n os W' := fun i o hi =>
 have := h i o hi
 (hb.block _ (Array.getElem?_eq_some_iff.1 this).1).trans this
theorem Bx.nil (n : Nat) (W : World) : Bx n [] W := fun i o hi => by simp at hi
theorem Bx.snoc {n : Nat} {os : List Obj} {W : World} (h : Bx n os W) (o : Obj) (hm : W.heap.size = n + os.length) : Bx n (os ++ [o]) (W.alloc o) := fun i x hi => by
 by_cases hl : i < os.length
 ·
  rw [List.getElem?_append_left hl] at hi
  exact (Below.heap_alloc _ _ _ (by omega)).trans (h i x hi)
 ·
  rw [List.getElem?_append_right (by omega)] at hi
  have : i - os.length = 0 := by
   by_cases e : i - os.length = 0
   · exact e
   · rw [List.getElem?_eq_none (by simp; omega)] at hi; cases hi
  rw [this] at hi
  simp at hi
  subst hi
  exact alloc_at (by omega) _
theorem Bx.cell {n i j : Nat} {os : List Obj} {W : World} (h : Bx n os W) {cs : Array Value} {t : TypeId} {fr : Nat × Nat} (hi : os[i]? = some (.cells cs t fr)) {v : Value} (hj : cs[j]? = some v) : W.cell? ⟨n + i, j, none⟩ = some v := by
 have := h i _ hi
 simp [World.cell?, this, hj]
theorem Bx.cellG {n i j : Nat} {os : List Obj} {W : World} (h : Bx n os W) {cs : Array Value} {t : TypeId} {fr : Nat × Nat} (hi : os[i]? = some (.cells cs t fr)) {v : Value} (hj : cs[j]? = some v) : ∀ d os', (grow (redrawn W d) os').cell? ⟨n + i, j, none⟩ = some v :=
 fun d os' => (h.below (below_regrown W d os')).cell hi hj

theorem Bys.take {w : World} {a : Option Addr} {n : Nat} {l : List Int} (h : Bys w a n l) {m : Nat} (hm : m ≤ n) : Bys w a m (l.take m) := by
 refine ⟨⟨by rw [List.length_take, h.len]; omega, ?_⟩, fun x hx => h.2 x (List.mem_of_mem_take hx)⟩
 by_cases h0 : m = 0
 · exact .inl h0
 ·
  right
  obtain ⟨b, off, rfl, hlt, hcell⟩ := h.1.2.resolve_left (by omega)
  refine ⟨b, off, rfl, hlt, fun i u hu => hcell i u ?_⟩
  rw [List.getElem?_take] at hu
  split at hu
  · exact hu
  · cases hu
theorem Bys.drop {w : World} {a : Option Addr} {n : Nat} {l : List Int} (h : Bys w a n l) {m : Nat} (hm : m ≤ n) : Bys w (a.map (·.add m)) (n - m) (l.drop m) := by
 have hc := h.cut (lo := m) (m := n - m) (by omega)
 rwa [List.take_of_length_le (by rw [List.length_drop, h.len]; exact Nat.le_refl _)] at hc
theorem Bys.rest {V : World} {b : Option Addr} {lb cb n : Nat} {l : List Int} (h : Bys V b lb l) (hn : n ≤ lb) (hcb : lb ≤ cb) : Bys V (if cb = n then b else Option.map (fun x => x.add n) b) (lb - n) (l.drop n) := by
 split
 ·
  have e : l.drop n = [] := List.drop_eq_nil_of_le (by rw [h.len]; omega)
  rw [e, show lb - n = 0 by omega]
  exact Bys.nil _ _
 · exact h.drop hn
theorem bel_drewN (W : World) (n : Nat) : Below W.heap.size W (W.drewN n) := ⟨rfl, rfl, rfl, Nat.le_refl _, fun _ _ => rfl⟩
theorem below_alloc (w : World) (o : Obj) : Below w.heap.size w (w.alloc o) := (Below.refl _ _).alloc (Nat.le_refl _) _
theorem gb_of_below {W W' : World} (h : Below W.heap.size W W') (g : Nat) : W.grownBy W' (some g) := ⟨h.os, h.tape, h.output, h.size, fun k hk _ => h.block k hk⟩
theorem cells_new {w : World} (cs : Array Value) (t : TypeId) {n : Nat} (h : w.heap.size = n) : ∀ j u, cs.toList[j]? = some u → (w.alloc (.cells cs t)).cell? ((⟨n, 0, none⟩ : Addr).add j) = some u := by
 intro j u hu
 subst h
 rw [add_plain]
 have hn := World.alloc_heap_new w (.cells cs t)
 unfold World.cell?
 dsimp only
 rw [hn]
 simpa using hu
end Go.Proofs.Ytglfdclpjmhoiaa

/- Slices of cells, slices of hits; append of them (layer 6). -/

namespace Go.Proofs.Ytglfdclpjmhoiaa
open Go.RowKit Go.Sort

/-- A slice whose elements have some cells each: what they hold. -/
def SlK (size : Nat) (w : World) (a : Option Addr) (len : Nat) (cs : List Value) : Prop :=
 cs.length = len * size ∧ (len = 0 ∨ ∃ b off, a = some ⟨b, off, none⟩ ∧ b < w.heap.size ∧ ∀ (i : Nat) (u : Value), cs[i]? = some u → w.cell? ⟨b, off + i, none⟩ = some u)
theorem SlK.below {size : Nat} {w w' : World} {a : Option Addr} {len : Nat} {cs : List Value} (h : SlK size w a len cs) (hb : Below w.heap.size w w') : SlK size w' a len cs := by
 obtain ⟨h1, h2 | ⟨b, off, e, hlt, hc⟩⟩ := h
 · exact ⟨h1, .inl h2⟩
 · exact ⟨h1, .inr ⟨b, off, e, Nat.lt_of_lt_of_le hlt hb.size, fun i u hu => (hb.cell (p := ⟨b, off + i, none⟩) hlt).trans (hc i u hu)⟩⟩
theorem SlK.kept {size : Nat} {w w' : World} {a : Option Addr} {len : Nat} {cs : List Value} (h : SlK size w a len cs) (hk : kept w w') (hs : w.heap.size ≤ w'.heap.size) : SlK size w' a len cs := by
 obtain ⟨h1, h2 | ⟨b, off, e, hlt, hc⟩⟩ := h
 · exact ⟨h1, .inl h2⟩
 · exact ⟨h1, .inr ⟨b, off, e, Nat.lt_of_lt_of_le hlt hs, fun i u hu => (kept_cell hk (p := ⟨b, off + i, none⟩) hlt).trans (hc i u hu)⟩⟩
theorem SlK.news {size : Nat} {w : World} {ad : Addr} {m : Nat} {cs : List Value} (h : SlK size w (some ad) m cs) : ∀ j u, cs[j]? = some u → w.cell? (ad.add j) = some u := by
 intro j u hu
 obtain ⟨h1, h2⟩ := h
 have hj := (List.getElem?_eq_some_iff.1 hu).1
 have h0 : m ≠ 0 := by
  intro e
  subst e
  rw [h1, Nat.zero_mul] at hj
  omega
 obtain ⟨b, off, e, hlt, hc⟩ := h2.resolve_left h0
 obtain rfl := Option.some.inj e
 rw [add_plain]
 exact hc j u hu
theorem SlK.own {size base n : Nat} {w : World} {e : TypeId} {v : Value} {cs : List Value} (h : w.ownsRow base e size v n cs) : ∃ a c, v = .slice a n c ∧ n ≤ c ∧ SlK size w a n cs := by
 have hl := h.1
 rcases h.2 with ⟨rfl, rfl⟩ | ⟨g, cap, cur, rfl, hg, hh, hn, _, _, hc⟩
 · exact ⟨none, 0, rfl, Nat.le_refl _, hl, .inl rfl⟩
 ·
  refine ⟨_, cap, rfl, hn, hl, .inr ⟨g, 0, rfl, (Array.getElem?_eq_some_iff.1 hh).1, fun i x hx => ?_⟩⟩
  have := h.cells (g := g) rfl i x hx
  rwa [add_plain] at this

theorem run_append_slK {P : Program} (w : World) (base : Nat) (t ty e : TypeId) (i : TypeInfo) (z : Value) (size bytes : Nat) (ht : P.underlying t = some (.slice e)) (hi : P.info? e = some i) (hz : i.zero = some z)
  (hsize : i.size = size) (hby : i.bytes = bytes) (hzs : z.cells.size = size) (hsz : 0 < size) (v : Value) (n : Nat) (xs : List Value) (hown : w.ownsRow base e size v n xs)
  (A : Option Addr) (m c : Nat) (cs : List Value) (hs : SlK size w A m cs) (hone : ∀ u ∈ cs, u.oneCell' = true) (h63 : n + m ≤ maxLen) (hbytes : (n + m) * bytes ≤ 140737488355328) (hbase : base ≤ w.heap.size) :
  ∃ v' w', (Builtin.append_ #[t, t] ty #[v, .slice A m c]).run P w = .ok v' w' ∧ w'.ownsRow base e size v' (n + m) (xs ++ cs) ∧ w.grownBy w' v.ownBlock ∧
   (v'.ownBlock = v.ownBlock ∨ v'.ownBlock = some w.heap.size) := by
 cases A with
 | some ad =>
  obtain ⟨v', w', hr, h2, h3, _, h5⟩ := run_append_own_at (P := P) w base t ty e i z size bytes ht hi hz hsize hby hzs hsz v n xs hown ad m c cs hs.1 hs.news hone h63 hbytes hbase
  exact ⟨v', w', hr, h2, h3, h5⟩
 | none =>
  have hm : m = 0 := hs.2.elim id fun ⟨b, off, e, _⟩ => by cases e
  subst hm
  have hy : cs = [] := List.eq_nil_of_length_eq_zero (by rw [hs.1, Nat.zero_mul])
  subst hy
  refine ⟨v, w, ?_, by simpa using hown, World.grownBy.refl w _, .inl rfl⟩
  rcases hown.2 with ⟨rfl, rfl⟩ | ⟨g, cap, cur, rfl, _, _, hnc, _⟩
  · simp [Builtin.append_, run_underlying ht, sizeOf, typeInfo, hi, Builtin.lenOf, Builtin.firstCells]
  · simp [Builtin.append_, run_underlying ht, sizeOf, typeInfo, hi, Builtin.lenOf, Builtin.firstCells, hnc, storeCells]

theorem wpList_append_slK {P : Program} {w : World} {ops : Array Oper} {rest : List Oper} {o : Oper} {a : Act} {Q : Exit → Act → World → Prop} (hgd : o.guard = none) (s x : Operand) (t : TypeId)
  (ho : o.op = .call { callee := .builtin .append, args := #[s, x], argTypes := #[t, t] })
  (base : Nat) (e : TypeId) (i : TypeInfo) (z : Value) (size bytes : Nat) (ht : P.underlying t = some (.slice e)) (hi : P.info? e = some i) (hz : i.zero = some z) (hsize : i.size = size) (hby : i.bytes = bytes) (hzs : z.cells.size = size) (hsz : 0 < size)
  (v : Value) (n : Nat) (xs : List Value) (hs : a.eval s = v) (hown : w.ownsRow base e size v n xs) (A : Option Addr) (m c : Nat) (cs : List Value) (hx : a.eval x = .slice A m c) (hsl : SlK size w A m cs) (hone : ∀ u ∈ cs, u.oneCell' = true)
  (h63 : n + m ≤ maxLen) (hbytes : (n + m) * bytes ≤ 140737488355328) (hbase : base ≤ w.heap.size)
  (h : ∀ v' w', w'.ownsRow base e size v' (n + m) (xs ++ cs) → w.grownBy w' v.ownBlock → (v'.ownBlock = v.ownBlock ∨ v'.ownBlock = some w.heap.size) → wpList P ops Q rest (a.put o.dst v') w') : wpList P ops Q (o :: rest) a w := by
 refine wpList_plain hgd fun K hK => ?_
 obtain ⟨v', w', hr, h2, h3, h4⟩ := run_append_slK (P := P) w base t o.type e i z size bytes ht hi hz hsize hby hzs hsz v n xs hown A m c cs hsl hone h63 hbytes hbase
 unfold Oper.wp execOp
 simp only [ho, resolve, invoke, builtin, Sem.run_bind, Sem.run_pure, Result.andThen_ok, List.map_toArray, List.map_cons, List.map_nil, hs, hx, hr]
 exact hK _ _ (h v' w' h2 h3 h4)

theorem wpListIn_append_slK {F : Fence} {k : Nat} {P : Program} (w : World) {ops : Array Oper} {rest : List Oper} {o : Oper} {a : Act} {Q : Exit → Act → World → Prop} (hgd : o.guard = none) (s x : Operand) (t : TypeId)
  (hop : o.op = .call { callee := .builtin .append, args := #[s, x], argTypes := #[t, t] })
  (base : Nat) (e : TypeId) (i : TypeInfo) (z : Value) (size bytes : Nat) (ht : P.underlying t = some (.slice e)) (hi : P.info? e = some i) (hz : i.zero = some z) (hsize : i.size = size) (hby : i.bytes = bytes) (hzs : z.cells.size = size) (hsz : 0 < size)
  (v : Value) (n : Nat) (xs : List Value) (hs : a.eval s = v) (hown : w.ownsRow base e size v n xs) (A : Option Addr) (m c : Nat) (cs : List Value) (hx : a.eval x = .slice A m c) (hsl : SlK size w A m cs) (hone : ∀ u ∈ cs, u.oneCell' = true)
  (h63 : n + m ≤ maxLen) (hbytes : (n + m) * bytes ≤ 140737488355328) (hbase : base ≤ w.heap.size)
  (h : ∀ v' w', w'.ownsRow base e size v' (n + m) (xs ++ cs) → w.grownBy w' v.ownBlock → (v'.ownBlock = v.ownBlock ∨ v'.ownBlock = some w.heap.size) → wpListIn F k P ops Q rest (a.put o.dst v') w') : wpListIn F k P ops Q (o :: rest) a w := by
 refine wpListIn_plain hgd fun K hK' => ?_
 obtain ⟨v', w', hrun, r1, r2, r3⟩ := run_append_slK (P := P) w base t o.type e i z size bytes ht hi hz hsize hby hzs hsz v n xs hown A m c cs hsl hone h63 hbytes hbase
 unfold Oper.wpIn
 refine ⟨?_, ?_⟩
 · simp [Oper.about, hop, resolve, Target.leads, Sem.run_pure]
 ·
  rw [Oper.semAt_plain F _ _ (by rw [hop]; intro c hc'; cases hc')]
  simp [execOp, hop, resolve, invoke, builtin, hs, hx, hrun, Result.andThen]
  exact hK' _ _ (h v' w' r1 r2 r3)

/-! ### hits -/
def I64 (n : Int) : Prop := -9223372036854775808 ≤ n ∧ n ≤ 9223372036854775807
def hitE (h : HitP) : List Value := [.int .i64 h.1, .int .i64 h.2]
def hcells (l : List HitP) : List Value := l.flatMap hitE
theorem hcells_append (l m : List HitP) : hcells (l ++ m) = hcells l ++ hcells m := by simp [hcells]
theorem hcells_length : ∀ (l : List HitP), (hcells l).length = l.length * 2
 | [] => rfl
 | h :: l => by
  have := hcells_length l
  simp only [hcells, hitE, List.flatMap_cons, List.length_append, List.length_cons, List.length_nil] at this ⊢
  omega
theorem hcells_at : ∀ {l : List HitP} {i : Nat} {h : HitP}, l[i]? = some h → (hcells l)[i * 2]? = some (.int .i64 h.1) ∧ (hcells l)[i * 2 + 1]? = some (.int .i64 h.2)
 | [], i, h, e => by simp at e
 | x :: l, 0, h, e => by
  simp at e
  subst e
  exact ⟨rfl, rfl⟩
 | x :: l, i + 1, h, e => by
  have ih := hcells_at (l := l) (i := i) (h := h) (by simpa using e)
  have hc : hcells (x :: l) = .int .i64 x.1 :: .int .i64 x.2 :: hcells l := rfl
  rw [hc, show (i + 1) * 2 = i * 2 + 1 + 1 by omega, show i * 2 + 1 + 1 + 1 = (i * 2 + 1) + 1 + 1 by omega]
  simpa using ih
theorem hcells_one (l : List HitP) : ∀ u ∈ hcells l, u.oneCell' = true := by
 intro u hu
 simp only [hcells, List.mem_flatMap, hitE] at hu
 obtain ⟨h, _, hu⟩ := hu
 simp at hu
 rcases hu with rfl | rfl <;> rfl

def Hts (w : World) (a : Option Addr) (len : Nat) (l : List HitP) : Prop := SlK 2 w a len (hcells l) ∧ ∀ h ∈ l, I64 h.1 ∧ I64 h.2
theorem Hts.below {w w' : World} {a : Option Addr} {len : Nat} {l : List HitP} (h : Hts w a len l) (hb : Below w.heap.size w w') : Hts w' a len l := ⟨h.1.below hb, h.2⟩
theorem Hts.len {w : World} {a : Option Addr} {len : Nat} {l : List HitP} (h : Hts w a len l) : l.length = len := by
 have := h.1.1
 rw [hcells_length] at this
 omega
theorem Hts.at_ {w : World} {a : Option Addr} {len : Nat} {l : List HitP} (h : Hts w a len l) {k : Nat} (hk : k < len) :
  ∃ b off x, a = some ⟨b, off, none⟩ ∧ b < w.heap.size ∧ w.cell? ⟨b, off + k * 2, none⟩ = some (.int .i64 x.1) ∧ w.cell? ⟨b, off + k * 2 + 1, none⟩ = some (.int .i64 x.2) ∧ l[k]? = some x ∧ I64 x.1 ∧ I64 x.2 := by
 have hl := h.len
 obtain ⟨b, off, e, hlt, hc⟩ := h.1.2.resolve_left (by omega)
 obtain ⟨x, hx⟩ : ∃ x, l[k]? = some x := ⟨l[k]'(by omega), by simp⟩
 obtain ⟨c0, c1⟩ := hcells_at hx
 exact ⟨b, off, x, e, hlt, hc _ _ c0, by rw [Nat.add_assoc]; exact hc _ _ c1, hx, (h.2 x (List.mem_of_getElem? hx)).1, (h.2 x (List.mem_of_getElem? hx)).2⟩
theorem Hts.cut {w : World} {a : Option Addr} {n : Nat} {l : List HitP} (h : Hts w a n l) {lo m : Nat} (hm : lo + m ≤ n) : Hts w (a.map (·.add (lo * 2))) m ((l.drop lo).take m) := by
 have hl := h.len
 refine ⟨⟨by rw [hcells_length]; simp; omega, ?_⟩, fun x hx => h.2 x (List.mem_of_mem_drop (List.mem_of_mem_take hx))⟩
 by_cases h0 : m = 0
 · exact .inl h0
 ·
  right
  obtain ⟨b, off, rfl, hlt, hcell⟩ := h.1.2.resolve_left (by omega)
  refine ⟨b, off + lo * 2, by simp [add_plain], hlt, fun i u hu => ?_⟩
  have hi := (List.getElem?_eq_some_iff.1 hu).1
  rw [hcells_length] at hi
  simp at hi
  rw [Nat.add_assoc]
  refine hcell _ u ?_
  have e1 : hcells l = hcells (l.take lo) ++ (hcells ((l.drop lo).take m) ++ hcells ((l.drop lo).drop m)) := by
   rw [← hcells_append, ← hcells_append, List.take_append_drop, List.take_append_drop]
  rw [e1, List.getElem?_append_right (by rw [hcells_length]; simp; omega), hcells_length, List.length_take, Nat.min_eq_left (by omega), Nat.add_sub_cancel_left, List.getElem?_append_left (by rw [hcells_length]; simp; omega)]
  exact hu
abbrev OwnH (w : World) (base : Nat) (v : Value) (l : List HitP) : Prop := w.ownsRow base 30 2 v l.length (hcells l)
theorem OwnH.hts {w : World} {base : Nat} {v : Value} {l : List HitP} (h : OwnH w base v l) (hb : ∀ x ∈ l, I64 x.1 ∧ I64 x.2) : ∃ a c, v = .slice a l.length c ∧ l.length ≤ c ∧ Hts w a l.length l := by
 obtain ⟨a, c, e, hc, h1⟩ := SlK.own h
 exact ⟨a, c, e, hc, h1, hb⟩
theorem hit_info : (Try.prog.info? 30).map (fun i => (i.zero, i.size, i.bytes)) = some (some (.agg #[.int .i64 0, .int .i64 0]), 2, 16) := by kernel_rfl

end Go.Proofs.Ytglfdclpjmhoiaa

/- Two lists of hits that are the same, lists joined (layer 6, and the document's): walked. -/

namespace Go.Proofs.Ytglfdclpjmhoiaa
open Go.RowKit Go.Sort

theorem hit_fields : ((Try.prog.fieldsOf 30).toList.map fun f => (f.name, f.type, f.offset)) = [("End", 3, 0), ("Word", 3, 1)] := by kernel_rfl
theorem eqFields_map (d : Nat) (xs ys : Array Value) (fs gs : List Field) (h : fs.map (fun f => (f.name, f.type, f.offset)) = gs.map (fun f => (f.name, f.type, f.offset))) : Op.eqFields d xs ys fs = Op.eqFields d xs ys gs := by
 induction fs generalizing gs with
 | nil => cases gs with
  | nil => rfl
  | cons g gs => simp at h
 | cons f fs ih => cases gs with
  | nil => simp at h
  | cons g gs =>
   simp only [List.map_cons, List.cons.injEq, Prod.mk.injEq] at h
   obtain ⟨⟨h1, h2, h3⟩, h4⟩ := h
   simp only [Op.eqFields, h1, h2, h3, ih gs h4]
theorem equalIn_hit (x y : HitP) (W : World) : (Op.equalIn 10000 30 (.agg #[.int .i64 x.1, .int .i64 x.2]) (.agg #[.int .i64 y.1, .int .i64 y.2])).run Try.prog W = .ok (decide (x = y)) W := by
 rw [run_equalIn_agg W 9999 30 _ _ (by kernel_rfl) (by kernel_rfl)]
 rw [eqFields_map 9999 _ _ _ [⟨ "End", 3, 0, false, "", "", 0⟩, ⟨ "Word", 3, 1, false, "", "", 0⟩] hit_fields]
 have h0 : ∀ W : World, (part 3 #[.int .i64 x.1, .int .i64 x.2] 0).run Try.prog W = .ok (.int .i64 x.1) W := fun W => by kernel_rfl
 have h1 : ∀ W : World, (part 3 #[.int .i64 x.1, .int .i64 x.2] 1).run Try.prog W = .ok (.int .i64 x.2) W := fun W => by kernel_rfl
 have g0 : ∀ W : World, (part 3 #[.int .i64 y.1, .int .i64 y.2] 0).run Try.prog W = .ok (.int .i64 y.1) W := fun W => by kernel_rfl
 have g1 : ∀ W : World, (part 3 #[.int .i64 y.1, .int .i64 y.2] 1).run Try.prog W = .ok (.int .i64 y.2) W := fun W => by kernel_rfl
 simp only [Op.eqFields, Sem.run_bind, Sem.run_ite, Sem.run_pure, h0, h1, g0, g1, Result.andThen_ok, run_equalIn_int _ _ _ _ _ _ _ Try.underlying3]
 obtain ⟨a, b⟩ := x
 obtain ⟨c, d⟩ := y
 by_cases e1 : a = c <;> by_cases e2 : b = d <;> simp [e1, e2]
theorem eql_hit (x y : HitP) (W : World) : (binOp .eql 30 (.agg #[.int .i64 x.1, .int .i64 x.2]) (.agg #[.int .i64 y.1, .int .i64 y.2])).run Try.prog W = .ok (.bool (decide (x = y))) W := by
 rw [run_eql_struct, equalIn_hit]
 rfl
theorem neq_hit (x y : HitP) (W : World) : (binOp .neq 30 (.agg #[.int .i64 x.1, .int .i64 x.2]) (.agg #[.int .i64 y.1, .int .i64 y.2])).run Try.prog W = .ok (.bool (!decide (x = y))) W := by
 rw [run_neq_struct, equalIn_hit]
 rfl
theorem hit_guard : Try.prog.eqGuardType Try.prog.depth 30 = false := by kernel_rfl

/-- Some lists of hits. -/
def Hss (w : World) (a : Option Addr) (len : Nat) (ls : List (List HitP)) : Prop :=
 ∃ vs : List (Option Addr × Nat × Nat), Sl1 (fun v => Value.slice v.1 v.2.1 v.2.2) w a len vs ∧ vs.length = ls.length ∧ ∀ (i : Nat) (v : Option Addr × Nat × Nat) (l : List HitP), vs[i]? = some v → ls[i]? = some l → Hts w v.1 v.2.1 l
theorem Hss.below {w w' : World} {a : Option Addr} {len : Nat} {ls : List (List HitP)} (h : Hss w a len ls) (hb : Below w.heap.size w w') : Hss w' a len ls := by
 obtain ⟨vs, h1, h2, h3⟩ := h
 exact ⟨vs, h1.below hb, h2, fun i v l hv hl => (h3 i v l hv hl).below hb⟩
theorem Hss.len {w : World} {a : Option Addr} {len : Nat} {ls : List (List HitP)} (h : Hss w a len ls) : ls.length = len := by
 obtain ⟨vs, h1, h2, h3⟩ := h
 rw [← h2, h1.1]
theorem Hss.at_ {w : World} {a : Option Addr} {len : Nat} {ls : List (List HitP)} (h : Hss w a len ls) {k : Nat} (hk : k < len) :
  ∃ b off a' l c x, a = some ⟨b, off, none⟩ ∧ b < w.heap.size ∧ w.cell? ⟨b, off + k, none⟩ = some (.slice a' l c) ∧ ls[k]? = some x ∧ Hts w a' l x := by
 have hl := h.len
 obtain ⟨vs, ⟨h0, h1⟩, h2, h3⟩ := h
 obtain ⟨b, off, rfl, hlt, hc⟩ := h1.resolve_left (by omega)
 obtain ⟨v, hv⟩ : ∃ v, vs[k]? = some v := ⟨vs[k]'(by omega), by simp⟩
 obtain ⟨x, hx⟩ : ∃ v, ls[k]? = some v := ⟨ls[k]'(by omega), by simp⟩
 exact ⟨b, off, v.1, v.2.1, v.2.2, x, rfl, hlt, hc k v hv, hx, h3 k v x hv hx⟩
end Go.Proofs.Ytglfdclpjmhoiaa

/- Hits sorted in place by insertion, by a method that compares: walked. -/

namespace Go.Proofs.Ytglfdclpjmhoiaa
open Go.RowKit Go.Sort

abbrev nth (c : List HitP) (i : Nat) : HitP := c.getD i (0, 0)
/-- A block that holds hits from its head on. -/
def RowAt (W : World) (g cap : Nat) (l : List HitP) : Prop :=
 ∃ cur : Array Value, W.heap[g]? = some (.cells cur 30 (0, 0)) ∧ cur.size = cap * 2 ∧ l.length ≤ cap ∧ ∀ k, k < l.length → cur[k * 2]? = some (.int .i64 (nth l k).1) ∧ cur[k * 2 + 1]? = some (.int .i64 (nth l k).2)
theorem RowAt.lt {W : World} {g cap : Nat} {l : List HitP} (h : RowAt W g cap l) : g < W.heap.size := by
 obtain ⟨cur, h1, _⟩ := h
 exact (Array.getElem?_eq_some_iff.1 h1).1
theorem RowAt.cell {W : World} {g cap : Nat} {l : List HitP} (h : RowAt W g cap l) {k : Nat} (hk : k < l.length) :
  W.cell? ⟨g, k * 2, none⟩ = some (.int .i64 (nth l k).1) ∧ W.cell? ⟨g, k * 2 + 1, none⟩ = some (.int .i64 (nth l k).2) ∧ W.frozen? ⟨g, k * 2, none⟩ = false ∧ W.frozen? ⟨g, k * 2 + 1, none⟩ = false := by
 obtain ⟨cur, h1, h2, h3, h4⟩ := h
 obtain ⟨c0, c1⟩ := h4 k hk
 simp [World.cell?, World.frozen?, h1, c0, c1]
theorem RowAt.below {W W' : World} {g cap : Nat} {l : List HitP} (h : RowAt W g cap l) (hb : Below W.heap.size W W') : RowAt W' g cap l := by
 have hlt := h.lt
 obtain ⟨cur, h1, h2⟩ := h
 exact ⟨cur, (hb.block g hlt).trans h1, h2⟩
theorem nth_set {l : List HitP} {k i : Nat} {h : HitP} (hk : k < l.length) : nth (l.set k h) i = if i = k then h else nth l i := by
 unfold nth
 rw [List.getD_eq_getElem?_getD, List.getElem?_set, List.getD_eq_getElem?_getD]
 by_cases e : k = i
 · subst e; simp [hk]
 · rw [if_neg e, if_neg (fun h => e h.symm)]
theorem RowAt.set {W : World} {g cap : Nat} {l : List HitP} (h : RowAt W g cap l) {k : Nat} (hk : k < l.length) (x : HitP) :
  RowAt ((W.setCell ⟨g, k * 2, none⟩ (.int .i64 x.1)).setCell ⟨g, k * 2 + 1, none⟩ (.int .i64 x.2)) g cap (l.set k x) := by
 obtain ⟨cur, h1, h2, h3, h4⟩ := h
 have e1 := set_at (i := k * 2) h1 (.int .i64 x.1)
 have e2 := set_at (i := k * 2 + 1) e1 (.int .i64 x.2)
 refine ⟨_, e2, by simp [h2], by simpa using h3, fun j hj => ?_⟩
 rw [List.length_set] at hj
 obtain ⟨c0, c1⟩ := h4 j hj
 rw [nth_set hk]
 by_cases e : j = k
 ·
  subst e
  rw [if_pos rfl]
  simp [Array.getElem?_setIfInBounds, h2]
  omega
 ·
  rw [if_neg e]
  rw [Array.getElem?_setIfInBounds_ne (by omega), Array.getElem?_setIfInBounds_ne (by omega), Array.getElem?_setIfInBounds_ne (by omega), Array.getElem?_setIfInBounds_ne (by omega)]
  exact ⟨c0, c1⟩
/-- Two neighbours exchanged. -/
def swapN (l : List HitP) (j : Nat) : List HitP := (l.set (j + 1) (nth l j)).set j (nth l (j + 1))
theorem nth_swapN {l : List HitP} {j i : Nat} (hj : j + 1 < l.length) : nth (swapN l j) i = if i = j then nth l (j + 1) else if i = j + 1 then nth l j else nth l i := by
 unfold swapN
 rw [nth_set (by simp; omega), nth_set hj]
/-! ### plain: insertion -/
def InvI (lt : HitP → HitP → Prop) (c : List HitP) (i j : Nat) : Prop := ∀ p q, p < q → q ≤ i → q ≠ j → ¬ lt (nth c q) (nth c p)
def SrtTo (lt : HitP → HitP → Prop) (c : List HitP) (n : Nat) : Prop := ∀ p q, p < q → q < n → ¬ lt (nth c q) (nth c p)
theorem InvI.start {lt : HitP → HitP → Prop} {c : List HitP} {i : Nat} (h : SrtTo lt c i) : InvI lt c i i := fun p q h1 h2 h3 => h p q h1 (by omega)
theorem InvI.stop {lt : HitP → HitP → Prop} {c : List HitP} {i j : Nat} (hn : ∀ a b d, ¬ lt a b → ¬ lt b d → ¬ lt a d) (h : InvI lt c i j) (hj : j ≤ i) (h0 : j = 0 ∨ ¬ lt (nth c j) (nth c (j - 1))) : SrtTo lt c (i + 1) := by
 intro p q h1 h2
 by_cases hq : q = j
 ·
  subst hq
  rcases h0 with h0 | h0
  · omega
  ·
   by_cases hp : p = q - 1
   · rw [hp]; exact h0
   · exact hn _ _ _ h0 (h p (q - 1) (by omega) (by omega) (by omega))
 · exact h p q h1 (by omega) hq
theorem InvI.step {lt : HitP → HitP → Prop} {c : List HitP} {i j : Nat} (ha : ∀ a b, lt a b → ¬ lt b a) (h : InvI lt c i (j + 1)) (hj : j + 1 ≤ i) (hi : i < c.length) (hlt : lt (nth c (j + 1)) (nth c j)) : InvI lt (swapN c j) i j := by
 intro p q h1 h2 h3
 rw [nth_swapN (by omega), nth_swapN (by omega), if_neg h3]
 by_cases hq : q = j + 1
 ·
  subst hq
  rw [if_pos rfl]
  by_cases hp : p = j
  · rw [if_pos hp]; exact ha _ _ hlt
  ·
   rw [if_neg hp, if_neg (by omega)]
   exact h p j (by omega) (by omega) (by omega)
 ·
  rw [if_neg hq]
  by_cases hp : p = j
  ·
   rw [if_pos hp]
   exact h (j + 1) q (by omega) h2 hq
  ·
   rw [if_neg hp]
   by_cases hp1 : p = j + 1
   ·
    rw [if_pos hp1]
    exact h j q (by omega) h2 hq
   ·
    rw [if_neg hp1]
    exact h p q h1 h2 hq

/-- What a function that compares owes the sort. -/
structure CmpB (cf : FuncId) (rv : Value) (ord : HitP → HitP → Int) (S : HitP → Prop) (C : World → Prop) (g : Nat) : Prop where
 enters : ∀ (args : Array Value) (w : World), Sem.run Try.prog (callFunc cf args) w = .ok (.enter cf args) w
 below : ∀ W W', C W → Below W.heap.size W W' → C W'
 store : ∀ W i v, C W → C (W.setCell ⟨g, i, none⟩ v)
 calls : ∀ x y W, S x → S y → C W → Calls Try.prog cf #[rv, .agg #[.int .i64 x.1, .int .i64 x.2], .agg #[.int .i64 y.1, .int .i64 y.2]] W fun e w' => e = .returned (.int .i64 (ord x y)) ∧ Below W.heap.size W w'

end Go.Proofs.Ytglfdclpjmhoiaa

/- The insertion sort of hits, walked. -/

namespace Go.Proofs.Ytglfdclpjmhoiaa
open Go.RowKit Go.Sort

theorem nth_mem {l : List HitP} {i : Nat} (h : i < l.length) : nth l i ∈ l := by
 unfold nth
 rw [List.getD_eq_getElem?_getD, List.getElem?_eq_getElem h, Option.getD_some]
 exact List.getElem_mem h

theorem below_drew (W : World) : Below W.heap.size W W.drew := ⟨rfl, rfl, rfl, Nat.le_refl _, fun _ _ => rfl⟩
end Go.Proofs.Ytglfdclpjmhoiaa

/- The sort of hits by a function, laid at this program: numbers, and the bodies held against those of the library. -/

namespace Go.Proofs.Ytglfdclpjmhoiaa
open Go.Shelf
def sortHit_ren : Go.Shelf.Ren := ⟨fun | 6 => 56 | 15 => 68 | 14 => 67 | 28 => 87 | 29 => 88 | 20 => 79 | 21 => 80 | 22 => 81 | 23 => 82 | 24 => 83 | 25 => 84 | 26 => 85 | 27 => 86 | 46 => 92 | 47 => 93 | 48 => 94 | 49 => 95 | 50 => 96 | 57 => 101 | n => n, fun | 22 => 25 | 24 => 30 | 25 => 76 | 3 => 3 | 39 => 107 | 0 => 0 | 53 => 120 | 55 => 122 | 4 => 4 | 46 => 114 | 45 => 113 | 50 => 86 | 5 => 5 | 9 => 9 | 66 => 134 | 70 => 138 | 76 => 145 | 77 => 146 | n => n, fun | n => n⟩
theorem sortHit : Go.Proofs.SlLaysF0.n6 Try.prog sortHit_ren := {
 mixed := by kernel_rfl
 f6 := ⟨Try.f56.name, by decide, Try.func56.trans (congrArg some (by kernel_rfl))⟩
 f14 := ⟨Try.f67.name, by decide, Try.func67.trans (congrArg some (by kernel_rfl))⟩
 f15 := Try.func68.trans (congrArg some (by kernel_rfl))
 f20 := ⟨Try.f79.name, by decide, Try.func79.trans (congrArg some (by kernel_rfl))⟩
 f21 := ⟨Try.f80.name, by decide, Try.func80.trans (congrArg some (by kernel_rfl))⟩
 f22 := ⟨Try.f81.name, by decide, Try.func81.trans (congrArg some (by kernel_rfl))⟩
 f23 := ⟨Try.f82.name, by decide, Try.func82.trans (congrArg some (by kernel_rfl))⟩
 f24 := ⟨Try.f83.name, by decide, Try.func83.trans (congrArg some (by kernel_rfl))⟩
 f25 := ⟨Try.f84.name, by decide, Try.func84.trans (congrArg some (by kernel_rfl))⟩
 f26 := ⟨Try.f85.name, by decide, Try.func85.trans (congrArg some (by kernel_rfl))⟩
 f27 := ⟨Try.f86.name, by decide, Try.func86.trans (congrArg some (by kernel_rfl))⟩
 f28 := Try.func87.trans (congrArg some (by kernel_rfl))
 f29 := Try.func88.trans (congrArg some (by kernel_rfl))
 f46 := ⟨Try.f92.name, by decide, Try.func92.trans (congrArg some (by kernel_rfl))⟩
 f47 := Try.func93.trans (congrArg some (by kernel_rfl))
 f48 := Try.func94.trans (congrArg some (by kernel_rfl))
 f49 := ⟨Try.f95.name, by decide, Try.func95.trans (congrArg some (by kernel_rfl))⟩
 f50 := ⟨Try.f96.name, by decide, Try.func96.trans (congrArg some (by kernel_rfl))⟩
 f57 := ⟨Try.f101.name, by decide, Try.func101.trans (congrArg some (by kernel_rfl))⟩
 t0 := Try.underlying0
 a0 := Try.isAgg0
 z0 := Try.sizeOf0
 v0 := Try.zeroValue0
 t3 := Try.underlying3
 a3 := Try.isAgg3
 z3 := Try.sizeOf3
 v3 := Try.zeroValue3
 t4 := Try.underlying4
 a4 := Try.isAgg4
 z4 := Try.sizeOf4
 v4 := Try.zeroValue4
 t5 := Try.underlying5
 a5 := Try.isAgg5
 z5 := Try.sizeOf5
 v5 := Try.zeroValue5
 t9 := Try.underlying9
 a9 := Try.isAgg9
 z9 := Try.sizeOf9
 v9 := Try.zeroValue9
 t22 := Try.underlying25
 a22 := Try.isAgg25
 z22 := Try.sizeOf25
 v22 := Try.zeroValue25
 t25 := Try.underlying76
 a25 := Try.isAgg76
 z25 := Try.sizeOf76
 v25 := Try.zeroValue76
 t39 := Try.underlying107
 a39 := Try.isAgg107
 z39 := Try.sizeOf107
 v39 := Try.zeroValue107
 t45 := Try.underlying113
 a45 := Try.isAgg113
 z45 := Try.sizeOf113
 v45 := Try.zeroValue113
 t46 := Try.underlying114
 a46 := Try.isAgg114
 z46 := Try.sizeOf114
 v46 := Try.zeroValue114
 t50 := Try.underlying86
 a50 := Try.isAgg86
 z50 := Try.sizeOf86
 v50 := Try.zeroValue86
 t53 := Try.underlying120
 a53 := Try.isAgg120
 z53 := Try.sizeOf120
 v53 := Try.zeroValue120
 t55 := Try.underlying122
 a55 := Try.isAgg122
 z55 := Try.sizeOf122
 v55 := Try.zeroValue122
 t66 := Try.underlying134
 a66 := Try.isAgg134
 z66 := Try.sizeOf134
 v66 := Try.zeroValue134
 t70 := Try.underlying138
 a70 := Try.isAgg138
 z70 := Try.sizeOf138
 v70 := Try.zeroValue138
 t76 := Try.underlying145
 a76 := Try.isAgg145
 z76 := Try.sizeOf145
 v76 := Try.zeroValue145
 t77 := Try.underlying146
 a77 := Try.isAgg146
 z77 := Try.sizeOf146
 v77 := Try.zeroValue146 }
end Go.Proofs.Ytglfdclpjmhoiaa

/- The sort of at most 12 hits by a method that compares: walked. -/

namespace Go.Proofs.Ytglfdclpjmhoiaa
open Go.RowKit Go.Sort Go.Shelf

theorem bitsLen_any (n : Nat) (W : World) (h : n ≤ 1000000000000) : Calls Try.prog 68 #[.int .u64 n] W fun e w' => e = .returned (.int .i64 (Lib.bitLen n)) ∧ W = w' := by
 have h := Any.bits_Len (SlLaysF0.n15.bits (P := Try.prog) (ρ := sortHit_ren) { sortHit with }) (n : Int) W (by omega) (by omega)
 rw [Int.toNat_natCast] at h
 exact h.mono fun e w' ⟨h1, h2⟩ => ⟨h1, h2.symm⟩

set_option maxHeartbeats 1000000 in
theorem pdqSmall_any {R : World → Prop} (f : Value) (n cc : Nat) (a : Option Addr) (L : Int) (w : World) (hn : n ≤ 12)
  (h : Calls Try.prog 79 #[.slice a n cc, .int .i64 0, .int .i64 n, f] w fun e w' => e = .returned (.tuple #[]) ∧ R w') :
  Calls Try.prog 67 #[.slice a n cc, .int .i64 0, .int .i64 n, .int .i64 L, f] w fun e w' => e = .returned (.tuple #[]) ∧ R w' := by
 have H := Lib.hid h
 clear h
 go_enter Try.func67, Try.ntmps67
 go_wp2
 refine wp_loop_rounds 1 ?_
 rw [rounds_succ]
 go_wp2_with fail
 refine H.out.mono ?_
 rintro e w1 ⟨rfl, hr⟩
 have HR := Lib.hid hr
 clear hr
 go_wp2
 exact bodyPost_ret (results_none rfl _ _ _) rfl ⟨rfl, HR.out⟩

set_option maxHeartbeats 1000000 in
theorem sortSmall_any {R : World → Prop} (f : Value) (n cc : Nat) (a : Option Addr) (w : World) (hn : n ≤ 12)
  (h : Calls Try.prog 79 #[.slice a n cc, .int .i64 0, .int .i64 n, f] w fun e w' => e = .returned (.tuple #[]) ∧ R w') :
  Calls Try.prog 56 #[.slice a n cc, f] w fun e w' => e = .returned (.tuple #[]) ∧ R w' := by
 have H := Lib.hid h
 clear h
 have wr : IntKind.u64.wrap (n : Int) = n := by simp [IntKind.wrap, IntKind.bits, IntKind.signed]; omega
 go_enter Try.func56, Try.ntmps56
 go_wp2_with fail
 refine (bitsLen_any n w (by omega)).mono ?_
 rintro e w1 ⟨rfl, rfl⟩
 go_wp2_with fail
 refine (pdqSmall_any f n cc a _ w hn H.out).mono ?_
 rintro e w1 ⟨rfl, hr⟩
 have HR := Lib.hid hr
 clear hr
 go_wp2
 go_end0
 exact ⟨rfl, HR.out⟩

end Go.Proofs.Ytglfdclpjmhoiaa

/- Plain words of sorting in place: exchanges within a segment, sorted segments, insertion, partition. -/

namespace Go.Proofs.Ytglfdclpjmhoiaa

def swp (c : List HitP) (i j : Nat) : List HitP := (c.set i (nth c j)).set j (nth c i)
theorem swp_length (c : List HitP) (i j : Nat) : (swp c i j).length = c.length := by simp [swp]
theorem nth_swp {c : List HitP} {i j k : Nat} (hi : i < c.length) (hj : j < c.length) : nth (swp c i j) k = if k = j then nth c i else if k = i then nth c j else nth c k := by
 unfold swp
 rw [nth_set (by simpa using hj), nth_set hi]
theorem nth_get {c : List HitP} {i : Nat} (h : i < c.length) : nth c i = c[i] := by
 unfold nth; rw [List.getD_eq_getElem?_getD, List.getElem?_eq_getElem h, Option.getD_some]
theorem swp_perm {c : List HitP} {i j : Nat} (hi : i < c.length) (hj : j < c.length) : (swp c i j).Perm c := by
 unfold swp
 rw [nth_get hi, nth_get hj]
 exact List.set_set_perm hi hj

/-- Exchanges, all within [a, b). -/
def Seg (a b : Nat) (c c' : List HitP) : Prop := ∃ ss : List (Nat × Nat), (∀ s ∈ ss, (a ≤ s.1 ∧ s.1 < b) ∧ a ≤ s.2 ∧ s.2 < b) ∧ c' = ss.foldl (fun c s => swp c s.1 s.2) c
theorem Seg.refl (a b : Nat) (c : List HitP) : Seg a b c c := ⟨[], by simp, rfl⟩
theorem Seg.trans {a b : Nat} {c d e : List HitP} (h : Seg a b c d) (k : Seg a b d e) : Seg a b c e := by
 obtain ⟨s, h1, rfl⟩ := h
 obtain ⟨t, k1, rfl⟩ := k
 refine ⟨s ++ t, fun x hx => ?_, by rw [List.foldl_append]⟩
 rcases List.mem_append.1 hx with hx | hx
 · exact h1 x hx
 · exact k1 x hx
theorem Seg.swap {a b i j : Nat} (c : List HitP) (hi : a ≤ i ∧ i < b) (hj : a ≤ j ∧ j < b) : Seg a b c (swp c i j) := ⟨[(i, j)], by simpa using ⟨hi, hj⟩, rfl⟩
theorem Seg.mono {a b a' b' : Nat} {c d : List HitP} (h : Seg a b c d) (ha : a' ≤ a) (hb : b ≤ b') : Seg a' b' c d := by
 obtain ⟨s, h1, rfl⟩ := h
 exact ⟨s, fun x hx => by have := h1 x hx; omega, rfl⟩
theorem Seg.length {a b : Nat} {c d : List HitP} (h : Seg a b c d) : d.length = c.length := by
 obtain ⟨s, h1, rfl⟩ := h
 clear h1
 induction s generalizing c with
 | nil => rfl
 | cons x s ih => rw [List.foldl_cons, ih, swp_length]
theorem Seg.keep {a b : Nat} {c d : List HitP} (h : Seg a b c d) (hb : b ≤ c.length) :
  d.Perm c ∧ (∀ i, i < a ∨ b ≤ i → nth d i = nth c i) ∧ ∀ P : HitP → Prop, (∀ i, a ≤ i → i < b → P (nth c i)) → ∀ i, a ≤ i → i < b → P (nth d i) := by
 obtain ⟨s, h1, rfl⟩ := h
 induction s generalizing c with
 | nil => exact ⟨List.Perm.refl _, fun _ _ => rfl, fun _ h => h⟩
 | cons x s ih =>
  have hx := h1 x (by simp)
  obtain ⟨i1, i2, i3⟩ := ih (c := swp c x.1 x.2) (by rw [swp_length]; exact hb) (fun y hy => h1 y (by simp [hy]))
  rw [List.foldl_cons]
  refine ⟨i1.trans (swp_perm (by omega) (by omega)), fun i hi => ?_, fun P hP => i3 P fun i hi1 hi2 => ?_⟩
  · rw [i2 i hi, nth_swp (by omega) (by omega), if_neg (by omega), if_neg (by omega)]
  ·
   rw [nth_swp (by omega) (by omega)]
   split
   · exact hP _ (by omega) (by omega)
   ·
    split
    · exact hP _ (by omega) (by omega)
    · exact hP _ hi1 hi2
theorem Seg.perm {a b : Nat} {c d : List HitP} (h : Seg a b c d) (hb : b ≤ c.length) : d.Perm c := (h.keep hb).1
theorem Seg.out {a b : Nat} {c d : List HitP} (h : Seg a b c d) (hb : b ≤ c.length) {i : Nat} (hi : i < a ∨ b ≤ i) : nth d i = nth c i := (h.keep hb).2.1 i hi
theorem Seg.all {a b : Nat} {c d : List HitP} (h : Seg a b c d) (hb : b ≤ c.length) {P : HitP → Prop} (hP : ∀ i, a ≤ i → i < b → P (nth c i)) : ∀ i, a ≤ i → i < b → P (nth d i) := (h.keep hb).2.2 P hP

/-- Sorted from a to b. -/
def Srt (lt : HitP → HitP → Prop) (c : List HitP) (a b : Nat) : Prop := ∀ p q, a ≤ p → p < q → q < b → ¬ lt (nth c q) (nth c p)
structure Ord (lt : HitP → HitP → Prop) : Prop where
 asym : ∀ a b, lt a b → ¬ lt b a
 ntrans : ∀ a b d, ¬ lt a b → ¬ lt b d → ¬ lt a d
theorem Ord.irrefl {lt : HitP → HitP → Prop} (h : Ord lt) (a : HitP) : ¬ lt a a := fun e => h.asym a a e e
theorem Ord.trans {lt : HitP → HitP → Prop} (h : Ord lt) {a b d : HitP} (h1 : lt a b) (h2 : lt b d) : lt a d := Classical.byContradiction fun e => h.ntrans a d b e (h.asym _ _ h2) h1
theorem Srt.small (lt : HitP → HitP → Prop) (c : List HitP) {a b : Nat} (h : b ≤ a + 1) : Srt lt c a b := fun p q h1 h2 h3 => by omega

/-! ### insertion -/
def Ins (lt : HitP → HitP → Prop) (c : List HitP) (a i j : Nat) : Prop := ∀ p q, a ≤ p → p < q → q ≤ i → q ≠ j → ¬ lt (nth c q) (nth c p)
theorem Ins.start {lt : HitP → HitP → Prop} {c : List HitP} {a i : Nat} (h : Srt lt c a i) : Ins lt c a i i := fun p q h0 h1 h2 h3 => h p q h0 h1 (by omega)
theorem Ins.stop {lt : HitP → HitP → Prop} (hO : Ord lt) {c : List HitP} {a i j : Nat} (h : Ins lt c a i j) (hj : j ≤ i) (h0 : j ≤ a ∨ ¬ lt (nth c j) (nth c (j - 1))) : Srt lt c a (i + 1) := by
 intro p q hp h1 h2
 by_cases hq : q = j
 ·
  subst hq
  rcases h0 with h0 | h0
  · omega
  ·
   by_cases hpq : p = q - 1
   · rw [hpq]; exact h0
   · exact hO.ntrans _ _ _ h0 (h p (q - 1) hp (by omega) (by omega) (by omega))
 · exact h p q hp h1 (by omega) hq
theorem Ins.step {lt : HitP → HitP → Prop} (hO : Ord lt) {c : List HitP} {a i j : Nat} (h : Ins lt c a i (j + 1)) (ha : a ≤ j) (hj : j + 1 ≤ i) (hi : i < c.length) (hlt : lt (nth c (j + 1)) (nth c j)) : Ins lt (swp c (j + 1) j) a i j := by
 intro p q hp h1 h2 h3
 rw [nth_swp (by omega) (by omega), nth_swp (by omega) (by omega), if_neg h3]
 by_cases hq : q = j + 1
 ·
  subst hq
  rw [if_pos rfl]
  by_cases hpj : p = j
  · rw [if_pos hpj]; exact hO.asym _ _ hlt
  ·
   rw [if_neg hpj, if_neg (by omega)]
   exact h p j hp (by omega) (by omega) (by omega)
 ·
  rw [if_neg hq]
  by_cases hpj : p = j
  ·
   rw [if_pos hpj]
   exact h (j + 1) q (by omega) (by omega) h2 hq
  ·
   rw [if_neg hpj]
   by_cases hp1 : p = j + 1
   ·
    rw [if_pos hp1]
    exact h j q ha (by omega) h2 hq
   ·
    rw [if_neg hp1]
    exact h p q hp h1 h2 hq

/-! ### heaps -/
/-- Node k of the heap that lies from f on, up to hi, is not less than its kids, all nodes from lo on but one. -/
def Heap (lt : HitP → HitP → Prop) (c : List HitP) (f hi lo ex : Nat) : Prop := ∀ k j, lo ≤ k → k ≠ ex → (j = 2 * k + 1 ∨ j = 2 * k + 2) → j < hi → ¬ lt (nth c (f + k)) (nth c (f + j))
/-- .. and what stands above the hole is not less than what stands below it. -/
def Above (lt : HitP → HitP → Prop) (c : List HitP) (f hi lo ex : Nat) : Prop := ∀ k j, lo ≤ k → (ex = 2 * k + 1 ∨ ex = 2 * k + 2) → (j = 2 * ex + 1 ∨ j = 2 * ex + 2) → j < hi → ¬ lt (nth c (f + k)) (nth c (f + j))

end Go.Proofs.Ytglfdclpjmhoiaa
