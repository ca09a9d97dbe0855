/- Parts of the proof, one behind the other: Ep, Eq, D4, D5, D6, D7, Er, Op, O1, T0, O3, Tk, Fs, Tp. No condition but what each theorem states. -/
import Derived.Deep.AppendLies
import Derived.Deep.DrawnRows
import Derived.Deep.RegionHeld3
import Derived.Deep.RegionLaw
import Derived.Lib.SmallJoins
import Derived.Shelf.Abstract
import Derived.Maps.AppendAt
import Derived.Lib.SlBytesConst
import Derived.Deep.CutBlock
import Derived.Deep.DeepCutAuto
import Derived.BigRegion
import Derived.IntWalk
import Derived.Lib.MinMax
import Derived.Deep.Matrix
import Derived.Test.YtglfdclpjmhoiaaGreatZK1
import Derived.Test.YtglfdclpjmhoiaaGreatZK2
set_option linter.unusedVariables false
set_option linter.unusedSimpArgs false

/- The code's way to count nodes tells what the document's does: paths. -/

namespace Go.Proofs.YtglfdclpjmhoiaaGreat

/-- The paths that there are, and the one at which one is. -/
def pstep (s : List (List Int) × List Int) (p : Bool × Int) : List (List Int) × List Int :=
 let q := (if p.1 then [] else s.2) ++ [p.2]
 (if q ∈ s.1 then s.1 else s.1 ++ [q], q)
def prun (l : List (Bool × Int)) : List (List Int) × List Int := l.foldl pstep ([[]], [])
theorem prun_snoc (l : List (Bool × Int)) (p : Bool × Int) : prun (l ++ [p]) = pstep (prun l) p := by simp [prun, List.foldl_append]

structure Rep (s : NSt) (ps : List (List Int)) (p : List Int) : Prop where
 many : s.many = ps.length
 nodup : ps.Nodup
 root : ps[0]? = some []
 closed : ∀ (q : List Int) (c : Int), q ++ [c] ∈ ps → q ∈ ps
 at_ : ∃ n : Nat, s.node = n ∧ ps[n]? = some p
 down : ∀ (i c m : Int), s.f (i, c) = some m → ∃ (a b : Nat) (q : List Int), i = a ∧ m = b ∧ ps[a]? = some q ∧ ps[b]? = some (q ++ [c])
 up : ∀ (a b : Nat) (q : List Int) (c : Int), ps[a]? = some q → ps[b]? = some (q ++ [c]) → s.f ((a : Int), c) = some (b : Int)

theorem nodup_at {ps : List (List Int)} (h : ps.Nodup) {a b : Nat} {q : List Int} (ha : ps[a]? = some q) (hb : ps[b]? = some q) : a = b := by
 have h1 := (List.getElem?_eq_some_iff.1 ha)
 have h2 := (List.getElem?_eq_some_iff.1 hb)
 obtain ⟨l1, e1⟩ := h1
 obtain ⟨l2, e2⟩ := h2
 exact (List.getElem_inj h).1 (e1.trans e2.symm)

theorem rep_step {s : NSt} {ps : List (List Int)} {p : List Int} (h : Rep s ps p) (x : Bool × Int) : Rep (nstep s x) (pstep (ps, p) x).1 (pstep (ps, p) x).2 := by
 obtain ⟨n0, hn0, hp0⟩ := h.at_
 obtain ⟨n, r, hn, hr, hq⟩ : ∃ (n : Nat) (r : List Int), (if x.1 then 0 else s.node) = (n : Int) ∧ ps[n]? = some r ∧ (if x.1 then [] else p) = r := by
  cases x.1 with
  | true => exact ⟨0, [], rfl, h.root, rfl⟩
  | false => exact ⟨n0, p, hn0, hp0, rfl⟩
 have hps : pstep (ps, p) x = (if r ++ [x.2] ∈ ps then ps else ps ++ [r ++ [x.2]], r ++ [x.2]) := by
  unfold pstep
  simp only [hq]
 rw [hps]
 by_cases hm : r ++ [x.2] ∈ ps
 ·
  obtain ⟨b, hb⟩ := List.getElem?_of_mem hm
  have hf := h.up n b r x.2 hr hb
  have hs : nstep s x = { s with node := (b : Int) } := nstep_found (by rw [hn]; exact hf)
  rw [hs, if_pos hm]
  exact ⟨h.many, h.nodup, h.root, h.closed, ⟨b, rfl, hb⟩, h.down, h.up⟩
 ·
  have hf : s.f ((n : Int), x.2) = none := by
   cases e : s.f ((n : Int), x.2) with
   | none => rfl
   | some m =>
    obtain ⟨a, b, q, h1, h2, h3, h4⟩ := h.down _ _ _ e
    have : n = a := by omega
    subst this
    rw [hr] at h3
    obtain rfl := Option.some.inj h3
    exact absurd (List.mem_of_getElem? h4) hm
  have hs := nstep_new (s := s) (p := x) (by rw [hn]; exact hf)
  rw [hs, if_neg hm, hn]
  have hlt : ∀ {i : Nat} {q : List Int}, ps[i]? = some q → (ps ++ [r ++ [x.2]])[i]? = some q := by
   intro i q hi
   rw [List.getElem?_append_left (List.getElem?_eq_some_iff.1 hi).1, hi]
  have hlast : (ps ++ [r ++ [x.2]])[ps.length]? = some (r ++ [x.2]) := by simp
  refine ⟨?_, ?_, hlt h.root, ?_, ⟨ps.length, h.many, hlast⟩, ?_, ?_⟩
  · simp [h.many]
  ·
   rw [List.nodup_append]
   refine ⟨h.nodup, by simp, ?_⟩
   intro a ha b hb
   simp at hb
   rw [hb]
   exact fun e => hm (e ▸ ha)
  ·
   intro q c hq
   rcases List.mem_append.1 hq with hq | hq
   · exact List.mem_append_left _ (h.closed q c hq)
   ·
    simp at hq
    rw [hq.1]
    exact List.mem_append_left _ (List.mem_of_getElem? hr)
  ·
   intro i c m hi
   dsimp only at hi
   by_cases e : (i, c) = ((n : Int), x.2)
   ·
    rw [if_pos e] at hi
    simp only [Prod.mk.injEq] at e
    obtain ⟨rfl, rfl⟩ := e
    refine ⟨n, ps.length, r, rfl, ?_, hlt hr, hlast⟩
    rw [← Option.some.inj hi, h.many]
   ·
    rw [if_neg e] at hi
    obtain ⟨a, b, q, h1, h2, h3, h4⟩ := h.down i c m hi
    exact ⟨a, b, q, h1, h2, hlt h3, hlt h4⟩
  ·
   intro a b q c ha hb
   dsimp only
   rw [List.getElem?_append] at ha hb
   by_cases hbl : b < ps.length
   ·
    rw [if_pos hbl] at hb
    by_cases hal : a < ps.length
    ·
     rw [if_pos hal] at ha
     rw [if_neg]
     · exact h.up a b q c ha hb
     ·
      intro e
      simp only [Prod.mk.injEq] at e
      obtain ⟨e1, rfl⟩ := e
      have : a = n := by omega
      subst this
      rw [hr] at ha
      obtain rfl := Option.some.inj ha
      exact hm (List.mem_of_getElem? hb)
    ·
     exfalso
     rw [if_neg hal] at ha
     have h0 : a - ps.length = 0 := by have := (List.getElem?_eq_some_iff.1 ha).1; simp at this; omega
     rw [h0] at ha
     simp at ha
     subst ha
     exact hm (h.closed _ _ (List.mem_of_getElem? hb))
   ·
    rw [if_neg hbl] at hb
    have h0 : b - ps.length = 0 := by have := (List.getElem?_eq_some_iff.1 hb).1; simp at this; omega
    rw [h0] at hb
    simp at hb
    obtain ⟨h1, h2⟩ := hb
    subst h1 h2
    by_cases hal : a < ps.length
    ·
     rw [if_pos hal] at ha
     have := nodup_at h.nodup ha hr
     subst this
     rw [if_pos rfl, h.many, show b = ps.length by omega]
    ·
     exfalso
     rw [if_neg hal] at ha
     have h0 : a - ps.length = 0 := by have := (List.getElem?_eq_some_iff.1 ha).1; simp at this; omega
     rw [h0] at ha
     simp at ha

end Go.Proofs.YtglfdclpjmhoiaaGreat

/- The code's count of nodes is the document's (layer 5). -/

namespace Go.Proofs.YtglfdclpjmhoiaaGreat

theorem rep_run (l : List (Bool × Int)) : Rep (nrun l) (prun l).1 (prun l).2 := by
 obtain ⟨n, hn⟩ : ∃ n, l.length = n := ⟨_, rfl⟩
 induction n generalizing l with
 | zero =>
  obtain rfl := List.eq_nil_of_length_eq_zero hn
  refine ⟨rfl, by simp [prun], rfl, ?_, ⟨0, rfl, rfl⟩, fun i c m h => by simp [nrun] at h, ?_⟩
  ·
   intro q c h
   simp [prun] at h
  ·
   intro a b q c ha hb
   have := List.mem_of_getElem? hb
   simp [prun] at this
 | succ n ih =>
  obtain ⟨l', x, rfl⟩ : ∃ l' x, l = l' ++ [x] := ⟨l.dropLast, l.getLast (by intro h; simp [h] at hn), (List.dropLast_concat_getLast _).symm⟩
  rw [nrun_snoc, prun_snoc]
  exact rep_step (ih l' (by simpa using hn)) x

/-- Which paths there are: the beginnings of the words. -/
def Begs (fold : Bool) (wss : List (List Int)) (q : List Int) : Prop := q = [] ∨ ∃ w ∈ wss, q <+: foldL fold w

theorem common_prefix : ∀ {j : Nat} {ys zs : List Int}, j ≤ ys.length → (ys.take j <+: zs ↔ j ≤ commonL ys zs)
 | 0, ys, zs, _ => by simp
 | j + 1, [], zs, h => by simp at h
 | j + 1, y :: ys, [], h => by simp [commonL]
 | j + 1, y :: ys, z :: zs, h => by
  have ih := common_prefix (j := j) (ys := ys) (zs := zs) (by simpa using h)
  rw [List.take_succ_cons, List.cons_prefix_cons]
  unfold commonL
  by_cases e : y = z
  · simp [e, ih]
  · simp [e]
theorem oldR_le (fold : Bool) (x : List Int) {j : Nat} (hj : 1 ≤ j) (pre : List (List Int)) : (j : Int) ≤ oldR fold pre x ↔ ∃ w ∈ pre, j ≤ commonL (foldL fold x) (foldL fold w) := by
 obtain ⟨n, hn⟩ : ∃ n, pre.length = n := ⟨_, rfl⟩
 induction n generalizing pre with
 | zero => obtain rfl := List.eq_nil_of_length_eq_zero hn; simp [oldR]; omega
 | succ n ih =>
  obtain ⟨l', y, rfl⟩ : ∃ l' y, pre = l' ++ [y] := ⟨pre.dropLast, pre.getLast (by intro h; simp [h] at hn), (List.dropLast_concat_getLast _).symm⟩
  have h1 := ih l' (by simpa using hn)
  rw [oldR_snoc]
  constructor
  ·
   intro h
   by_cases h2 : (j : Int) ≤ oldR fold l' x
   ·
    obtain ⟨w, hw, hc⟩ := h1.1 h2
    exact ⟨w, by simp [hw], hc⟩
   · exact ⟨y, by simp, by omega⟩
  ·
   rintro ⟨w, hw, hc⟩
   rcases List.mem_append.1 hw with hw | hw
   ·
    have := h1.2 ⟨w, hw, hc⟩
    omega
   ·
    simp at hw
    subst hw
    omega

theorem pstep_def (s : List (List Int) × List Int) (p : Bool × Int) : pstep s p = (if ((if p.1 = true then [] else s.2) ++ [p.2]) ∈ s.1 then s.1 else s.1 ++ [(if p.1 = true then [] else s.2) ++ [p.2]], (if p.1 = true then [] else s.2) ++ [p.2]) := rfl
/-- The paths behind i bytes of a word. -/
theorem word_run (ys : List Int) (old : Nat) (ps : List (List Int)) (p : List Int) (hold : ∀ j, 1 ≤ j → j ≤ ys.length → (ys.take j ∈ ps ↔ j ≤ old)) :
  ∀ i, i ≤ ys.length → ∃ qs, (((begW ys).take i).foldl pstep (ps, p)).1 = qs ∧ qs.length = ps.length + (i - min i old) ∧ (1 ≤ i → (((begW ys).take i).foldl pstep (ps, p)).2 = ys.take i) ∧
   ∀ q, q ∈ qs ↔ q ∈ ps ∨ ∃ j, 1 ≤ j ∧ j ≤ i ∧ q = ys.take j
 | 0, _ => ⟨ps, by simp, by simp, by simp, fun q => by simp; intro j h1 h2; omega⟩
 | i + 1, hi => by
  obtain ⟨qs, h1, h2, h3, h4⟩ := word_run ys old ps p hold i (by omega)
  obtain ⟨c, hc⟩ : ∃ c, ys[i]? = some c := ⟨ys[i]'(by omega), by simp⟩
  have hb := begW_at hc
  rw [take_step hb, List.foldl_append, List.foldl_cons, List.foldl_nil]
  have hq : (if ((i : Int) == 0) = true then [] else (((begW ys).take i).foldl pstep (ps, p)).2) ++ [c] = ys.take (i + 1) := by
   rw [take_step hc]
   by_cases h0 : i = 0
   · subst h0; simp
   ·
    have hne : ((i : Int) == 0) = false := by simp; omega
    rw [hne, h3 (by omega)]
    simp
  have hstep : pstep (((begW ys).take i).foldl pstep (ps, p)) (((i : Int) == 0), c) = (if ys.take (i + 1) ∈ qs then qs else qs ++ [ys.take (i + 1)], ys.take (i + 1)) := by
   rw [pstep_def]
   dsimp only
   rw [hq, h1]
  rw [hstep]
  have hmem : ys.take (i + 1) ∈ qs ↔ i + 1 ≤ old := by
   rw [h4, hold (i + 1) (by omega) hi]
   constructor
   ·
    rintro (h | ⟨j, hj1, hj2, e⟩)
    · exact h
    ·
     have := congrArg List.length e
     simp at this
     omega
   · exact fun h => .inl h
  by_cases hm : ys.take (i + 1) ∈ qs
  ·
   have ho := hmem.1 hm
   refine ⟨qs, by simp [hm], by rw [h2]; omega, fun _ => rfl, fun q => ?_⟩
   rw [h4]
   constructor
   ·
    rintro (h | ⟨j, hj1, hj2, e⟩)
    · exact .inl h
    · exact .inr ⟨j, hj1, by omega, e⟩
   ·
    rintro (h | ⟨j, hj1, hj2, e⟩)
    · exact .inl h
    ·
     by_cases hj : j = i + 1
     · subst hj; rw [e]; exact .inl ((hold _ hj1 hi).2 ho)
     · exact .inr ⟨j, hj1, by omega, e⟩
  ·
   have ho : ¬ i + 1 ≤ old := fun h => hm (hmem.2 h)
   refine ⟨qs ++ [ys.take (i + 1)], by simp [hm], by rw [List.length_append, h2]; simp; omega, fun _ => rfl, fun q => ?_⟩
   rw [List.mem_append, h4]
   constructor
   ·
    rintro ((h | ⟨j, hj1, hj2, e⟩) | h)
    · exact .inl h
    · exact .inr ⟨j, hj1, by omega, e⟩
    · exact .inr ⟨i + 1, by omega, by omega, by simpa using h⟩
   ·
    rintro (h | ⟨j, hj1, hj2, e⟩)
    · exact .inl (.inl h)
    ·
     by_cases hj : j = i + 1
     · subst hj; exact .inr (by simp [e])
     · exact .inl (.inr ⟨j, hj1, by omega, e⟩)

theorem count_eq (fold : Bool) (wss : List (List Int)) : ((prun (begL fold wss)).1.length : Int) = nodesR fold wss ∧ ∀ q, q ∈ (prun (begL fold wss)).1 ↔ Begs fold wss q := by
 obtain ⟨n, hn⟩ : ∃ n, wss.length = n := ⟨_, rfl⟩
 induction n generalizing wss with
 | zero =>
  obtain rfl := List.eq_nil_of_length_eq_zero hn
  refine ⟨rfl, fun q => ?_⟩
  simp [begL, prun, Begs]
 | succ n ih =>
  obtain ⟨l', x, rfl⟩ : ∃ l' x, wss = l' ++ [x] := ⟨wss.dropLast, wss.getLast (by intro h; simp [h] at hn), (List.dropLast_concat_getLast _).symm⟩
  obtain ⟨h1, h2⟩ := ih l' (by simpa using hn)
  have hbd := oldR_bd fold x l'
  have hold : ∀ j, 1 ≤ j → j ≤ (foldL fold x).length → ((foldL fold x).take j ∈ (prun (begL fold l')).1 ↔ j ≤ (oldR fold l' x).toNat) := by
   intro j hj1 hj2
   rw [h2]
   have e1 : j ≤ (oldR fold l' x).toNat ↔ (j : Int) ≤ oldR fold l' x := by omega
   rw [e1, oldR_le fold x hj1]
   constructor
   ·
    rintro (h | ⟨w, hw, h⟩)
    ·
     have := congrArg List.length h
     rw [List.length_take, List.length_nil] at this
     omega
    · exact ⟨w, hw, (common_prefix hj2).1 h⟩
   ·
    rintro ⟨w, hw, h⟩
    exact .inr ⟨w, hw, (common_prefix hj2).2 h⟩
  obtain ⟨qs, g1, g2, g3, g4⟩ := word_run (foldL fold x) (oldR fold l' x).toNat (prun (begL fold l')).1 (prun (begL fold l')).2 hold (foldL fold x).length (Nat.le_refl _)
  have hrun : prun (begL fold (l' ++ [x])) = ((begW (foldL fold x)).take (foldL fold x).length).foldl pstep ((prun (begL fold l')).1, (prun (begL fold l')).2) := by
   rw [begL_snoc, List.take_of_length_le (by rw [begW_length]; exact Nat.le_refl _)]
   unfold prun
   rw [List.foldl_append]
  rw [hrun, g1]
  refine ⟨?_, fun q => ?_⟩
  ·
   rw [nodesR_snoc, g2, foldL_length, ← h1]
   omega
  ·
   rw [g4, h2]
   unfold Begs
   constructor
   ·
    rintro ((h | ⟨w, hw, h⟩) | ⟨j, hj1, hj2, rfl⟩)
    · exact .inl h
    · exact .inr ⟨w, by simp [hw], h⟩
    · exact .inr ⟨x, by simp, List.take_prefix _ _⟩
   ·
    rintro (h | ⟨w, hw, h⟩)
    · exact .inl (.inl h)
    ·
     rcases List.mem_append.1 hw with hw | hw
     · exact .inl (.inr ⟨w, hw, h⟩)
     ·
      simp at hw
      subst hw
      by_cases h0 : q = []
      · exact .inl (.inl h0)
      ·
       refine .inr ⟨q.length, ?_, h.length_le, List.prefix_iff_eq_take.1 h⟩
       exact List.length_pos_iff.2 h0

theorem nodes_eq (fold : Bool) (wss : List (List Int)) : (nrun (begL fold wss)).many = nodesR fold wss := by
 rw [(rep_run (begL fold wss)).many, (count_eq fold wss).1]

end Go.Proofs.YtglfdclpjmhoiaaGreat

/- Which error a list of words has, by the document (layer 5): walked. -/

namespace Go.Proofs.YtglfdclpjmhoiaaGreat
open Go.RowKit Go.Sort

def bsum (wss : List (List Int)) : Int := (wss.map fun w => (w.length : Int)).sum
theorem bsum_snoc (l : List (List Int)) (x : List Int) : bsum (l ++ [x]) = bsum l + x.length := by simp [bsum]
theorem bsum_bd : ∀ (l : List (List Int)), (∀ x ∈ l, x.length ≤ 1000000) → 0 ≤ bsum l ∧ bsum l ≤ l.length * 1000000
 | [], _ => by simp [bsum]
 | x :: l, h => by
  have h1 := bsum_bd l (fun y hy => h y (by simp [hy]))
  have h2 := h x (by simp)
  simp only [bsum, List.map_cons, List.sum_cons, List.length_cons] at h1 ⊢
  omega
def checkR (fold : Bool) (wss : List (List Int)) : Int :=
 if wss.length = 0 then 50 else if wss.length > 64 then 51 else if (∃ x ∈ wss, x.length = 0) then 52 else if (∃ x ∈ wss, x.length > 32) then 53 else if bsum wss > 600 then 54 else if nodesR fold wss > 400 then 55 else 0

set_option maxHeartbeats 4000000 in
theorem rcheck_any (fold : Bool) (a : Option Addr) (la ca : Nat) (wss : List (List Int)) (w : World) (hA : Wds w a la wss) (hla : la ≤ 1000000) (hM : ∀ x ∈ wss, x.length ≤ 1000000) :
  Calls Tryz.prog 72 #[.bool fold, .slice a la ca] w fun e w' => e = .returned (.int .i64 (checkR fold wss)) ∧ Below w.heap.size w w' := by
 have HL := Lib.hid hA.len
 have HM := Lib.hid hM
 obtain ⟨G, hG⟩ : ∃ G, checkR fold wss = G := ⟨_, rfl⟩
 have HG : Hid (checkR fold wss = G) := hG
 rw [hG]
 clear hG hM
 by_cases h0 : la = 0
 ·
  have HE : Hid (G = 50) := by rw [Hid, ← HG.out, checkR, if_pos (by rw [HL.out, h0])]
  go_enter Tryz.func72, Tryz.ntmps72
  go_wp2
  go_ret
  exact ⟨by rw [HE.out]; rfl, Below.refl _ _⟩
 ·
  by_cases h64 : 64 < la
  ·
   have HE : Hid (G = 51) := by rw [Hid, ← HG.out, checkR, if_neg (by rw [HL.out]; exact h0), if_pos (by rw [HL.out]; exact h64)]
   go_enter Tryz.func72, Tryz.ntmps72
   go_wp2
   go_ret
   exact ⟨by rw [HE.out]; rfl, Below.refl _ _⟩
  ·
   have HG2 : Hid (G = if (∃ x ∈ wss, x.length = 0) then 52 else if (∃ x ∈ wss, x.length > 32) then 53 else if bsum wss > 600 then 54 else if nodesR fold wss > 400 then 55 else 0) := by
    rw [Hid, ← HG.out, checkR, if_neg (by rw [HL.out]; exact h0), if_neg (by rw [HL.out]; exact h64)]
   go_enter Tryz.func72, Tryz.ntmps72
   go_wp2
   go_loop [6] (fun i => ∃ k : Nat, k ≤ la ∧ i = .int .i64 k ∧ Hid (∀ x ∈ wss.take k, x.length ≠ 0)) (fun i => la - (intOf i).toNat)
   case atStart => exact ⟨0, Nat.zero_le _, rfl, fun x hx => by simp at hx⟩
   case round =>
    obtain ⟨k, hk, rfl, HK⟩ := hrel
    by_cases hlt : k < la
    ·
     obtain ⟨bb, off, a', l, c, x, rfl, hbl, hcell, hx, hX, hlc⟩ := hA.at_ hlt
     have HX := Lib.hid hx
     have HXL := Lib.hid hX.len
     clear hx hX
     by_cases hl0 : l = 0
     ·
      have HE : Hid (G = 52) := by rw [Hid, HG2.out, if_pos ⟨x, List.mem_of_getElem? HX.out, by rw [HXL.out, hl0]⟩]
      go_wp2
      go_ret
      exact ⟨by rw [HE.out]; rfl, Below.refl _ _⟩
     ·
      have HK2 : Hid (∀ x ∈ wss.take (k + 1), x.length ≠ 0) := by
       rw [take_step HX.out]
       intro y hy
       rcases List.mem_append.1 hy with hy | hy
       · exact HK.out y hy
       · simp at hy; rw [hy, HXL.out]; exact hl0
      go_wp2
      go_round
      case rel => exact ⟨k + 1, by omega, by go_num, HK2⟩
      case measure => simp [intOf]; omega
    ·
     obtain rfl : k = la := by omega
     have HK0 : Hid (∀ x ∈ wss, x.length ≠ 0) := by
      have h := HK.out
      rwa [List.take_of_length_le (by rw [HL.out]; exact Nat.le_refl _)] at h
     have HG3 : Hid (G = if (∃ x ∈ wss, x.length > 32) then 53 else if bsum wss > 600 then 54 else if nodesR fold wss > 400 then 55 else 0) := by
      rw [Hid, HG2.out, if_neg (by rintro ⟨x, hx, h⟩; exact HK0.out x hx h)]
     clear HG2 HK
     go_wp2
     go_loop [5, 7] (fun s i => ∃ (j : Nat) (n : Int), j ≤ k ∧ i = .int .i64 j ∧ s = .int .i64 n ∧ Hid (n = bsum (wss.take j)) ∧ Hid (∀ x ∈ wss.take j, ¬ x.length > 32)) (fun _ i => k - (intOf i).toNat)
     case atStart => exact ⟨0, 0, Nat.zero_le _, rfl, rfl, by simp [Hid, bsum], fun x hx => by simp at hx⟩
     case round =>
      obtain ⟨j, n, hj, rfl, rfl, HN, HJ⟩ := hrel
      have hnb := bsum_bd (wss.take j) (fun y hy => HM.out y (List.mem_of_mem_take hy))
      rw [← HN.out] at hnb
      have hnl : ((wss.take j).length : Int) ≤ 64 := by have := List.length_take_le j wss; omega
      have hn0 := hnb.1
      have hn1 : n ≤ 64000000 := by omega
      clear hnb hnl
      by_cases hjl : j < k
      ·
       obtain ⟨bb, off, a', l, c, x, rfl, hbl, hcell, hx, hX, hlc⟩ := hA.at_ hjl
       have hxl : l ≤ 1000000 := by have := mem_bd HM.out hx; rw [hX.len] at this; exact this
       have HX := Lib.hid hx
       have HXL := Lib.hid hX.len
       clear hx hX
       by_cases hl32 : 32 < l
       ·
        have HE : Hid (G = 53) := by rw [Hid, HG3.out, if_pos ⟨x, List.mem_of_getElem? HX.out, by rw [HXL.out]; exact hl32⟩]
        go_wp2
        go_ret
        exact ⟨by rw [HE.out]; rfl, Below.refl _ _⟩
       ·
        have HJ2 : Hid (∀ x ∈ wss.take (j + 1), ¬ x.length > 32) := by
         rw [take_step HX.out]
         intro y hy
         rcases List.mem_append.1 hy with hy | hy
         · exact HJ.out y hy
         · simp at hy; rw [hy, HXL.out]; exact hl32
        have HS : Hid (n + (l : Int) = bsum (wss.take (j + 1))) := by rw [Hid, take_step HX.out, bsum_snoc, HXL.out, HN.out]
        go_wp2
        go_round
        case rel => exact ⟨j + 1, _, by omega, by go_num, rfl, HS, HJ2⟩
        case measure => simp [intOf]; omega
      ·
       obtain rfl : j = k := by omega
       have hfull : wss.take j = wss := List.take_of_length_le (by rw [HL.out]; exact Nat.le_refl _)
       have HG4 : Hid (G = if n > 600 then 54 else if nodesR fold wss > 400 then 55 else 0) := by
        have h2 := HN.out
        rw [hfull] at h2
        rw [Hid, HG3.out, if_neg (by rintro ⟨x, hx, h⟩; exact HJ.out x (by rw [hfull]; exact hx) h), h2]
       clear hfull HG3 HN HJ
       by_cases h6 : 600 < n
       ·
        have HE : Hid (G = 54) := by rw [Hid, HG4.out, if_pos h6]
        go_wp2
        go_ret
        exact ⟨by rw [HE.out]; rfl, Below.refl _ _⟩
       ·
        go_wp2_with fail
        refine (rnodes_any fold a j ca wss w hA hla HM.out).mono ?_
        rintro e w1 ⟨rfl, hb⟩
        obtain ⟨N, hN⟩ : ∃ N, nodesR fold wss = N := ⟨_, rfl⟩
        rw [hN]
        have HN : Hid (nodesR fold wss = N) := hN
        clear hN
        by_cases h4 : 400 < N
        ·
         have HE : Hid (G = 55) := by rw [Hid, HG4.out, if_neg (by omega), HN.out, if_pos h4]
         go_wp2
         go_ret
         exact ⟨by rw [HE.out]; rfl, hb⟩
        ·
         have HE : Hid (G = 0) := by rw [Hid, HG4.out, if_neg (by omega), HN.out, if_neg (by omega)]
         go_wp2
         go_ret
         exact ⟨by rw [HE.out]; rfl, hb⟩

end Go.Proofs.YtglfdclpjmhoiaaGreat

/- Two sets that are the same, by the document (layer 5): walked. -/

namespace Go.Proofs.YtglfdclpjmhoiaaGreat
open Go.RowKit Go.Sort

set_option maxHeartbeats 2000000 in
theorem rsames_any (f g : Bool) (a b : Option Addr) (la ca lb cb : Nat) (wss vss : List (List Int)) (w : World) (hA : Wds w a la wss) (hB : Wds w b lb vss) (hla : la ≤ 1000000) :
  Calls Tryz.prog 51 #[.agg (setV f a la ca), .agg (setV g b lb cb)] w fun e w' => e = .returned (.bool (sameS f g wss vss)) ∧ Below w.heap.size w w' := by
 obtain ⟨W, hW⟩ : ∃ W, W = (w.alloc (.cells (setV f a la ca) 24)).alloc (.cells (setV g b lb cb) 24) := ⟨_, rfl⟩
 have hBx : Below w.heap.size w ((w.alloc (.cells (setV f a la ca) 24)).alloc (.cells (setV g b lb cb) 24)) := ((Below.refl _ _).alloc (Nat.le_refl _) _).alloc (by simp) _
 have HA := Lib.hid hA.len
 have HB := Lib.hid hB.len
 by_cases hfg : f = g
 ·
  subst hfg
  by_cases hl : la = lb
  ·
   subst hl
   have hb1 : W.heap[w.heap.size]? = some (.cells (setV f a la ca) 24 (0, 0)) := by
    rw [hW]
    exact (Below.heap_alloc _ _ _ (by simp)).trans (World.alloc_heap_new _ _)
   have hb2 : W.heap[w.heap.size + 1]? = some (.cells (setV f b la cb) 24 (0, 0)) := by
    rw [hW]
    have := World.alloc_heap_new (w.alloc (.cells (setV f a la ca) 24)) (.cells (setV f b la cb) 24)
    rwa [World.size_alloc] at this
   have hA1 : Wds W a la wss := by rw [hW]; exact hA.below hBx
   have hB1 : Wds W b la vss := by rw [hW]; exact hB.below hBx
   have hBW : Below w.heap.size w W := by rw [hW]; exact hBx
   have hz : W.heap.size = w.heap.size + 2 := by rw [hW]; simp
   have HWD := Lib.hid hW
   clear hA hB hW
   go_enter Tryz.func51, Tryz.ntmps51
   go_wp2
   rw [← HWD.out]
   go_loopw [5] (fun i wr => ∃ k : Nat, k ≤ la ∧ i = .int .i64 k ∧ Hid (wss.take k = vss.take k) ∧ Below W.heap.size W wr) (fun i _ => la - (intOf i).toNat)
   case atStart => exact ⟨0, Nat.zero_le _, rfl, by simp [Hid], Below.refl _ _⟩
   case round =>
    obtain ⟨k, hk, rfl, HK, hBe⟩ := hrel
    have hw : Below w.heap.size w wr := hBW.trans (hBe.mono hBW.size)
    have h1 : wr.heap[w.heap.size]? = _ := (hBe.block _ (by omega)).trans hb1
    have h2 : wr.heap[w.heap.size + 1]? = _ := (hBe.block _ (by omega)).trans hb2
    have c1 : wr.cell? ⟨w.heap.size, 1, none⟩ = some (.slice a la ca) := by simp [World.cell?, h1]
    have c2 : wr.cell? ⟨w.heap.size + 1, 1, none⟩ = some (.slice b la cb) := by simp [World.cell?, h2]
    have hBd : ∀ n, Below W.heap.size W (wr.drewN n) := fun n => hBe.trans ⟨rfl, rfl, rfl, Nat.le_refl _, fun _ _ => rfl⟩
    have hwd : ∀ n, Below w.heap.size w (wr.drewN n) := fun n => hw.trans ⟨rfl, rfl, rfl, Nat.le_refl _, fun _ _ => rfl⟩
    by_cases hlt : k < la
    ·
     obtain ⟨bb, off, a', l, c, x, rfl, hbl, hcell, hx, hX, hlc⟩ := (hA1.below hBe).at_ hlt
     obtain ⟨bb2, off2, a2, l2, c2, y, rfl, hbl2, hcell2, hy, hY, hlc2⟩ := (hB1.below hBe).at_ hlt
     have hd : ∀ n, Below wr.heap.size wr (wr.drewN n) := fun n => ⟨rfl, rfl, rfl, Nat.le_refl _, fun _ _ => rfl⟩
     have hXn : ∀ n, Bys (wr.drewN n) a' l x := fun n => hX.below (hd n)
     have hYn : ∀ n, Bys (wr.drewN n) a2 l2 y := fun n => hY.below (hd n)
     have v1 : ∀ n cap, Sem.run Tryz.prog (convert 25 9 (.slice a' l cap)) (wr.drewN n) = .ok (.string (strOfNums x)) (wr.drewN n) := fun n cap => conv_bys (hXn n) cap
     have v2 : ∀ n cap, Sem.run Tryz.prog (convert 25 9 (.slice a2 l2 cap)) (wr.drewN n) = .ok (.string (strOfNums y)) (wr.drewN n) := fun n cap => conv_bys (hYn n) cap
     have hbeq := str_beq hX.2 hY.2
     have HX := Lib.hid hx
     have HY := Lib.hid hy
     clear hx hy hX hY hXn hYn hd
     by_cases h : x = y
     ·
      rw [decide_eq_true h] at hbeq
      have HS : Hid (wss.take (k + 1) = vss.take (k + 1)) := by rw [take_step HX.out, take_step HY.out, HK.out, h]; rfl
      clear h
      go_wp2
      go_quiet (fail)
      go_wp2
      go_roundw
      case rel => exact ⟨k + 1, by omega, by go_num, HS, hBd _⟩
      case measure => simp [intOf]; omega
     ·
      rw [decide_eq_false h] at hbeq
      have HS : Hid (sameS f f wss vss = false) := by
       have : wss ≠ vss := fun e => by
        have h1 := HX.out
        rw [e, HY.out] at h1
        exact h (Option.some.inj h1).symm
       simp [Hid, sameS, this]
      clear h
      go_wp2
      go_quiet (fail)
      go_wp2
      go_ret
      exact ⟨by rw [HS.out]; rfl, hwd _⟩
    ·
     obtain rfl : k = la := by omega
     have HS : Hid (sameS f f wss vss = true) := by
      have h := HK.out
      rw [List.take_of_length_le (by rw [HA.out]; exact Nat.le_refl _), List.take_of_length_le (by rw [HB.out]; exact Nat.le_refl _)] at h
      simp [Hid, sameS, h]
     go_wp2
     go_ret
     exact ⟨by rw [HS.out]; rfl, hw⟩
  ·
   have HS : Hid (sameS f f wss vss = false) := sameS_no (.inr (by rw [HA.out, HB.out]; exact hl))
   have hne : ((la : Int) != (lb : Int)) = true := by simp; omega
   clear hW
   go_enter Tryz.func51, Tryz.ntmps51
   go_wp2
   all_goals
    go_ret
    exact ⟨by rw [HS.out]; rfl, hBx⟩
 ·
  have HS : Hid (sameS f g wss vss = false) := sameS_no (.inl hfg)
  have hne : (f != g) = true := by simp [hfg]
  clear hW
  go_enter Tryz.func51, Tryz.ntmps51
  go_wp2
  all_goals
   go_ret
   exact ⟨by rw [HS.out]; rfl, hBx⟩

end Go.Proofs.YtglfdclpjmhoiaaGreat

/- A set of words, made, by the document (layer 5): walked. -/

namespace Go.Proofs.YtglfdclpjmhoiaaGreat
open Go.RowKit Go.Sort

set_option maxHeartbeats 1000000 in
theorem rmake_no (fold : Bool) (a : Option Addr) (la ca : Nat) (wss : List (List Int)) (w : World) (hA : Wds w a la wss) (hla : la ≤ 1000000) (hM : ∀ x ∈ wss, x.length ≤ 1000000) (hc : checkR fold wss ≠ 0) :
  Calls Tryz.prog 50 #[.bool fold, .slice a la ca] w fun e w' => e = .returned (.tuple #[.agg (setV false none 0 0), .int .i64 (checkR fold wss)]) ∧ Below w.heap.size w w' := by
 have hA1 := hA.below ((Below.refl _ _).alloc (Nat.le_refl _) (.cells (setV false none 0 0) 24))
 obtain ⟨n, hn⟩ : ∃ n, checkR fold wss = n := ⟨_, rfl⟩
 have HN : Hid (checkR fold wss = n) := hn
 rw [hn] at hc ⊢
 clear hn
 go_enter Tryz.func50, Tryz.ntmps50
 go_wp2_with fail
 refine (rcheck_any fold a la ca wss _ hA1 hla hM).mono ?_
 rintro e w1 ⟨rfl, hb⟩
 rw [HN.out]
 have hz : w1.heap[w.heap.size]? = some (.cells (setV false none 0 0) 24 (0, 0)) := (hb.block _ (by simp)).trans (World.alloc_heap_new _ _)
 have hB1 : Below w.heap.size w w1 := ((Below.refl _ _).alloc (Nat.le_refl _) _).trans (hb.mono (by simp))
 have z0 : w1.cell? ⟨w.heap.size, 0, none⟩ = some (.bool false) := by simp [World.cell?, hz]
 have z1 : w1.cell? ⟨w.heap.size, 1, none⟩ = some (.slice none 0 0) := by simp [World.cell?, hz]
 have y0 : w1.frozen? ⟨w.heap.size, 0, none⟩ = false := by simp [World.frozen?, hz]
 have y1 : w1.frozen? ⟨w.heap.size, 1, none⟩ = false := by simp [World.frozen?, hz]
 go_wp2
 have hz2 := set_at (i := 1) (set_at (i := 0) hz (.bool false)) (.slice none 0 0)
 refine bodyPost_ret (results_set rfl rfl (by simpa using hz2)) rfl ?_
 exact ⟨rfl, (hB1.setCell (Nat.le_refl _) _).setCell (Nat.le_refl _) _⟩

theorem text_o (fold : Bool) (a : Option Addr) (la ca : Nat) (xs : List Int) (w : World) (hA : Bys w a la xs) (hla : la ≤ 1000000) :
  Calls Tryz.prog 74 #[.bool fold, .slice a la ca] w fun e w' => ∃ a1 c1, e = .returned (.slice a1 la c1) ∧ OwnB w' w.heap.size (.slice a1 la c1) la (foldL fold xs) ∧ Below w.heap.size w w' :=
 (text_any fold a la ca xs w hA hla).mono fun e w' ⟨v, he, hown, hb⟩ => by
  obtain ⟨a1, c1, rfl, _, h⟩ := own_bys hown (foldL_bd hA.2)
  exact ⟨a1, c1, he, hown, hb⟩

set_option maxRecDepth 100000 in
set_option maxHeartbeats 4000000 in
theorem rmake_yes (fold : Bool) (a : Option Addr) (la ca : Nat) (wss : List (List Int)) (w : World) (hA : Wds w a la wss) (hla : la ≤ 1000000) (hM : ∀ x ∈ wss, x.length ≤ 1000000) (hc : checkR fold wss = 0) :
    Calls Tryz.prog 50 #[.bool fold, .slice a la ca] w fun e w' => ∃ v, e = .returned (.tuple #[.agg #[.bool fold, v], .int .i64 0]) ∧ OwnW w' w.heap.size v (makeL fold wss) ∧ Below w.heap.size w w' := by
  have hA1 := hA.below ((Below.refl _ _).alloc (Nat.le_refl _) (.cells (setV false none 0 0) 24))
  have HN : Hid (checkR fold wss = 0) := hc
  have HL := Lib.hid hA.len
  clear hc
  go_enter Tryz.func50, Tryz.ntmps50
  go_wp2_with fail
  refine (rcheck_any fold a la ca wss _ hA1 hla hM).mono ?_
  rintro e w1 ⟨rfl, hb⟩
  rw [HN.out]
  have hz : w1.heap[w.heap.size]? = some (.cells (setV false none 0 0) 24 (0, 0)) := (hb.block _ (by simp)).trans (World.alloc_heap_new _ _)
  have hB1 : Below w.heap.size w w1 := ((Below.refl _ _).alloc (Nat.le_refl _) _).trans (hb.mono (by simp))
  have hlt1 : w.heap.size < w1.heap.size := (Array.getElem?_eq_some_iff.1 hz).1
  go_wp2
  go_loopw [8] (fun i wr => ∃ (k : Nat) (v : Value), k ≤ la ∧ i = .int .i64 k ∧ Below w.heap.size w wr ∧ wr.heap[w.heap.size]? = some (.cells (setV false none 0 0) 24 (0, 0)) ∧ wr.heap[w1.heap.size]? = some (.cells #[.bool fold, v] 24 (0, 0)) ∧ OwnW wr w.heap.size v (makeL fold (wss.take k))) (fun i _ => la - (intOf i).toNat)
  case atStart => exact ⟨0, .slice none 0 0, Nat.zero_le _, rfl, hB1.alloc (by omega) _, (Below.heap_alloc _ _ _ hlt1).trans hz, World.alloc_heap_new _ _, by simpa [makeL] using OwnW.nil _ _⟩
  case round =>
    obtain ⟨k, v, hk, rfl, hBe, hzr, hsr, hown⟩ := hrel
    by_cases hlt : k < la
    · obtain ⟨bb, off, a', l, c, x, rfl, hbl, hcell, hx, hX, hlc⟩ := (hA.below hBe).at_ hlt
      have hxl : l ≤ 1000000 := by have := mem_bd hM hx; rw [hX.len] at this; exact this
      obtain ⟨av, cv, rfl, hcv, hW⟩ := hown.wds
      have s0 : wr.cell? ⟨w1.heap.size, 0, none⟩ = some (.bool fold) := by simp [World.cell?, hsr]
      have s1 : wr.cell? ⟨w1.heap.size, 1, none⟩ = some (.slice av (makeL fold (wss.take k)).length cv) := by simp [World.cell?, hsr]
      have hml : (makeL fold (wss.take k)).length ≤ 1000000 := by have := makeL_len fold (wss.take k); have := List.length_take_le k wss; omega
      have HX := Lib.hid hx
      clear hx
      have kc := cell_regrown hcell
      have ks := cell_regrown s1
      have cW : ∀ d os, Calls Tryz.prog 73 #[.bool fold, .slice a' l c, .slice av (makeL fold (wss.take k)).length cv] (grow (redrawn wr d) os) fun e w'' => e = .returned (.int .i64 (whichL fold x (makeL fold (wss.take k)))) ∧ ∃ p : Regrown, w'' = grow (redrawn wr p.d) p.os :=
        fun d os => Calls.regrown_of (rwhich_any fold a' av l c _ cv x (makeL fold (wss.take k)) _ (hX.below (below_regrown wr d os)) hxl (hW.below (below_regrown wr d os)) hml (makeL_mem _ (fun y hy => hM y (List.mem_of_mem_take hy))))
      go_wp2
      refine wp_region_quiet_below mixed (by kernel_rfl) ?_
      repeat (go_big_quiet_step (exact cW _ _))
      refine wpQuiet_nil ?_
      rintro _ ⟨⟨dq, osq⟩, rfl⟩
      obtain ⟨w2, hw2⟩ : ∃ w2, grow (redrawn wr dq) osq = w2 := ⟨_, rfl⟩
      rw [hw2]
      have hb2 : Below wr.heap.size wr w2 := hw2 ▸ below_regrown wr dq osq
      clear hw2 kc ks cW
      have hB2 : Below w.heap.size w w2 := hBe.trans (hb2.mono hBe.size)
      have hz2 : w2.heap[w.heap.size]? = _ := (hb2.block _ (Array.getElem?_eq_some_iff.1 hzr).1).trans hzr
      have hs2 : w2.heap[w1.heap.size]? = _ := (hb2.block _ (Array.getElem?_eq_some_iff.1 hsr).1).trans hsr
      have hown2 := hown.below hb2
      have hcl2 : w2.cell? ⟨bb, off + k, none⟩ = some (.slice a' l c) := (hb2.cell (p := ⟨bb, off + k, none⟩) hbl).trans hcell
      clear hown hW hsr hzr s0 s1 hcell
      have HM : Hid (makeL fold (wss.take (k + 1)) = addW fold (makeL fold (wss.take k)) x) := by rw [take_step HX.out, makeL_snoc]; rfl
      obtain ⟨q, hq⟩ : ∃ q, whichL fold x (makeL fold (wss.take k)) = q := ⟨_, rfl⟩
      have HQ : Hid (whichL fold x (makeL fold (wss.take k)) = q) := hq
      rw [hq]
      clear hq
      by_cases hq0 : 0 ≤ q
      · have HF : Hid (makeL fold (wss.take (k + 1)) = makeL fold (wss.take k)) := by
          rw [HM.out]
          unfold addW
          rw [HQ.out, if_neg (by omega)]
          rfl
        go_wp2
        go_roundw
        case rel => exact ⟨k + 1, _, by omega, by go_num, hB2, hz2, hs2, by rw [HF.out]; exact hown2⟩
        case measure => simp [intOf]; omega
      · have HF : Hid (makeL fold (wss.take (k + 1)) = makeL fold (wss.take k) ++ [foldL fold x]) := by
          rw [HM.out]
          unfold addW
          rw [HQ.out, if_pos (by omega)]
          rfl
        obtain ⟨i0, hi, hi0, hi1, hi2⟩ := info_parts words_info
        have s1 : w2.cell? ⟨w1.heap.size, 1, none⟩ = some (.slice av (makeL fold (wss.take k)).length cv) := by simp [World.cell?, hs2]
        obtain ⟨es, e1, e2, e3⟩ := hown2
        have hX2 : ∀ n, Bys (w2.drewN n) a' l x := fun n => (hX.below hb2).below ⟨rfl, rfl, rfl, Nat.le_refl _, fun _ _ => rfl⟩
        have hd : ∀ n, Below w2.heap.size w2 (w2.drewN n) := fun n => ⟨rfl, rfl, rfl, Nat.le_refl _, fun _ _ => rfl⟩
        obtain ⟨m, hm⟩ : ∃ m, (makeL fold (wss.take k)).length = m := ⟨_, rfl⟩
        rw [hm] at s1 hs2 e1 e2 hml ⊢
        have HMM := Lib.hid hm
        clear hm
        go_wp2
        have hXd : Bys w2.drew a' l x := hX2 1
        have hdd : Below w2.heap.size w2 w2.drew := hd 1
        go_region_law (first
          | (go_simp; go_at_call 74; refine (text_o fold a' l c x w2.drew hXd hxl).mono ?_; rintro e w3 ⟨a3, c3, rfl, hown3, hb3⟩
             have hB3 : Below w2.heap.size w2 w3 := hdd.trans hb3
             have e13 := own_below_ e1 hB3
             have hs3 : w3.heap[w1.heap.size]? = some (.cells #[.bool fold, .slice av m cv] 24 (0, 0)) := (hB3.block _ (Array.getElem?_eq_some_iff.1 hs2).1).trans hs2
             have s13 : w3.cell? ⟨w1.heap.size, 1, none⟩ = some (.slice av m cv) := by simp [World.cell?, hs3]
             have hl3 : w1.heap.size < w3.heap.size := (Array.getElem?_eq_some_iff.1 hs3).1
             have hl3b : w1.heap.size ≠ w3.heap.size := by omega
             have hl3c : w3.heap.size ≠ w1.heap.size := by omega
             have s14 : (w3.alloc (.cells #[.slice a3 l c3] 25)).cell? ⟨w1.heap.size, 1, none⟩ = some (.slice av m cv) := by rw [World.cell?_alloc_lt _ _ _ hl3]; exact s13
             have hne := own_far e13 hs3 (of_decide_eq_true (by kernel_rfl))
             have hB3w : Below w.heap.size w w3 := hB2.trans (hB3.mono hB2.size)
             dsimp only)
          | (refine step_append_lies _ (by rfl) _ _ 22 (by rfl) w.heap.size 25 i0 (.slice none 0 0) 1 24 Tryz.underlying22 hi hi0 hi1 hi2 rfl (by decide) (.slice av m cv) m es (by rfl) (e13.alloc _) ⟨w3.heap.size, 0, none⟩ 1 1 [.slice a3 l c3] (by rfl) rfl (cell_one_new _ _ _) (by simp [Value.oneCell']) (by decide) (by unfold maxLen; omega) (by omega) (by have := hB3w.size; simp; omega) _ rfl ?_
             intro g5 c5 w5 hown' hgrow hat hl5
             have hs5 : w5.heap[w1.heap.size]? = some (.cells #[.bool fold, .slice av m cv] 24 (0, 0)) := (hgrow.block _ (by simp; have := (Array.getElem?_eq_some_iff.1 hs3).1; omega) (Ne.symm hne)).trans ((Below.heap_alloc _ _ _ (Array.getElem?_eq_some_iff.1 hs3).1).trans hs3)
             have q0 : w5.cell? ⟨w1.heap.size, 1, none⟩ = some (.slice av m cv) := by simp [World.cell?, hs5]
             have q1 : w5.frozen? ⟨w1.heap.size, 1, none⟩ = false := by simp [World.frozen?, hs5]))
        all_goals
          go_wp2
          have hB5 : Below w.heap.size w w5 := (hB3w.alloc (by have := hB3w.size; omega) _).grown hgrow (by simp; have := hB3w.size; omega) (fun j hj => (e13.lt j hj).1)
          have hz5 : w5.heap[w.heap.size]? = some (.cells (setV false none 0 0) 24 (0, 0)) := by
            have h3 : w3.heap[w.heap.size]? = _ := (hB3.block _ (Array.getElem?_eq_some_iff.1 hz2).1).trans hz2
            exact (hgrow.block _ (by simp; have := (Array.getElem?_eq_some_iff.1 h3).1; omega) (Ne.symm (own_far e13 h3 (of_decide_eq_true (by kernel_rfl))))).trans ((Below.heap_alloc _ _ _ (Array.getElem?_eq_some_iff.1 h3).1).trans h3)
          go_roundw
          case rel =>
            refine ⟨k + 1, _, by omega, by go_num, hB5.setCell (by show w.heap.size ≤ w1.heap.size; omega) _, (Below.heap_setCell w5 ⟨w1.heap.size, 1, none⟩ _ _ (by simp; omega)).trans hz5, by simpa using set_at (i := 1) hs5 (.slice (some ⟨g5, 0, none⟩) (m + 1) c5), ?_⟩
            rw [HF.out]
            have hst := OwnW.step (wss := makeL fold (wss.take k)) (xs := foldL fold x) (e := .slice a3 l c3) (es := es) (v := .slice av m cv) (by rw [HMM.out]; exact e13.alloc _) (by rw [HMM.out]; exact e2)
              (fun i e xs he hx => ⟨own_below_ (own_below_ (e3 i e xs he hx).1 hB3) ((Below.refl _ _).alloc (Nat.le_refl _) _), (e3 i e xs he hx).2⟩) (by rw [foldL_length, hX.len]; exact (OwnB_mono (hown3.alloc _) (by have := hB2.size; simpa using this))) (foldL_bd hX.2) (by rw [HMM.out]; exact hown') hgrow
            exact hst.turned (grown_set2 w5 w1.heap.size 1 _) hs5 (of_decide_eq_true (by kernel_rfl)) (of_decide_eq_true (by kernel_rfl))
          case measure => simp [intOf]; omega
    · obtain rfl : k = la := by omega
      have HF : Hid (wss.take k = wss) := List.take_of_length_le (by have := HL.out; omega)
      have s0 : wr.cell? ⟨w1.heap.size, 0, none⟩ = some (.bool fold) := by simp [World.cell?, hsr]
      obtain ⟨av, cv, rfl, hcv, hW⟩ := hown.wds
      have s1 : wr.cell? ⟨w1.heap.size, 1, none⟩ = some (.slice av (makeL fold (wss.take k)).length cv) := by simp [World.cell?, hsr]
      have z0 : wr.cell? ⟨w.heap.size, 0, none⟩ = some (.bool false) := by simp [World.cell?, hzr]
      have z1 : wr.cell? ⟨w.heap.size, 1, none⟩ = some (.slice none 0 0) := by simp [World.cell?, hzr]
      have y0 : wr.frozen? ⟨w.heap.size, 0, none⟩ = false := by simp [World.frozen?, hzr]
      have y1 : wr.frozen? ⟨w.heap.size, 1, none⟩ = false := by simp [World.frozen?, hzr]
      go_wp2
      have hz2 := set_at (i := 1) (set_at (i := 0) hzr (.bool fold)) (.slice av (makeL fold (wss.take k)).length cv)
      refine bodyPost_ret (results_set rfl rfl (by simpa using hz2)) rfl ?_
      refine ⟨_, rfl, ?_, (hBe.setCell (Nat.le_refl _) _).setCell (Nat.le_refl _) _⟩
      have ho := (hown.turned (grown_set2 wr w.heap.size 0 (.bool fold)) hzr (of_decide_eq_true (by kernel_rfl)) (of_decide_eq_true (by kernel_rfl))).turned (grown_set2 _ w.heap.size 1 (.slice av (makeL fold (wss.take k)).length cv)) (set_at (i := 0) hzr (.bool fold)) (of_decide_eq_true (by kernel_rfl)) (of_decide_eq_true (by kernel_rfl))
      rw [HF.out] at ho ⊢
      exact ho

end Go.Proofs.YtglfdclpjmhoiaaGreat

/- Which sets may be, by the document (layer 5): walked. -/

namespace Go.Proofs.YtglfdclpjmhoiaaGreat
open Go.RowKit Go.Sort

def rightR (fold : Bool) (wss : List (List Int)) : Bool := decide (checkR fold wss = 0) && decide (makeL fold wss = wss)

set_option maxHeartbeats 1000000 in
theorem rright_any (fold : Bool) (a : Option Addr) (la ca : Nat) (wss : List (List Int)) (w : World) (hA : Wds w a la wss) (hla : la ≤ 1000000) (hM : ∀ x ∈ wss, x.length ≤ 1000000) :
  Calls Tryz.prog 35 #[.agg (setV fold a la ca)] w fun e w' => e = .returned (.bool (rightR fold wss)) ∧ Below w.heap.size w w' := by
 have hB0 : Below w.heap.size w (w.alloc (.cells (setV fold a la ca) 24)) := (Below.refl _ _).alloc (Nat.le_refl _) _
 have hA1 := hA.below hB0
 have hnew := World.alloc_heap_new w (.cells (setV fold a la ca) 24)
 by_cases hc : checkR fold wss = 0
 ·
  have HR : Hid (rightR fold wss = sameS fold fold (makeL fold wss) wss) := by simp [Hid, rightR, sameS, hc]
  go_enter Tryz.func35, Tryz.ntmps35
  go_wp2_with fail
  refine (rmake_yes fold a la ca wss _ hA1 hla hM hc).mono ?_
  rintro e w1 ⟨v, rfl, hown, hb⟩
  have hB1 : Below w.heap.size w w1 := hB0.trans (hb.mono (by simp))
  obtain ⟨av, cv, rfl, hcv, hW⟩ := hown.wds
  have h1 : w1.heap[w.heap.size]? = _ := (hb.block _ (by simp)).trans hnew
  have hs1 : w.heap.size < w1.heap.size := (Array.getElem?_eq_some_iff.1 h1).1
  have c0 : w1.cell? ⟨w.heap.size, 0, none⟩ = some (.bool fold) := by simp [World.cell?, h1]
  have c1 : w1.cell? ⟨w.heap.size, 1, none⟩ = some (.slice a la ca) := by simp [World.cell?, h1]
  have hlen : (makeL fold wss).length ≤ 1000000 := by have := makeL_len fold wss; have := hA.len; omega
  have hne : w.heap.size ≠ w1.heap.size := by omega
  have hB2 : Below w1.heap.size w1 (w1.alloc (.cells (setV fold av (makeL fold wss).length cv) 24)) := (Below.refl _ _).alloc (Nat.le_refl _) _
  have hW2 := hW.below hB2
  have hA2 := (hA.below hB1).below hB2
  clear hc
  go_wp2_with fail
  refine (rsames_any fold fold av a _ cv la ca (makeL fold wss) wss _ hW2 hA2 hlen).mono ?_
  rintro e w3 ⟨rfl, hb3⟩
  go_wp2
  go_ret
  exact ⟨by rw [HR.out]; rfl, hB1.trans ((hB2.trans (hb3.mono (by simp))).mono hB1.size)⟩
 ·
  have HR : Hid (rightR fold wss = false) := by simp [Hid, rightR, hc]
  obtain ⟨n, hn⟩ : ∃ n, checkR fold wss = n := ⟨_, rfl⟩
  have HC := Lib.hid hc
  have HN : Hid (checkR fold wss = n) := hn
  rw [hn] at hc
  clear hn
  have hnb : (n == 0) = false := by simp [hc]
  go_enter Tryz.func35, Tryz.ntmps35
  go_wp2_with fail
  refine (rmake_no fold a la ca wss _ hA1 hla hM HC.out).mono ?_
  rintro e w1 ⟨rfl, hb⟩
  rw [HN.out]
  have hB1 : Below w.heap.size w w1 := hB0.trans (hb.mono (by simp))
  go_wp2
  go_ret
  exact ⟨by rw [HR.out]; rfl, hB1.alloc hB1.size _⟩

end Go.Proofs.YtglfdclpjmhoiaaGreat

/- The code's check of words is the document's (layer 5). -/

namespace Go.Proofs.YtglfdclpjmhoiaaGreat

theorem snoc_ind {α : Type} {P : List α → Prop} (h0 : P []) (h1 : ∀ l x, P l → P (l ++ [x])) : ∀ l, P l := by
 intro l
 obtain ⟨n, hn⟩ : ∃ n, l.length = n := ⟨_, rfl⟩
 induction n generalizing l with
 | zero => obtain rfl := List.eq_nil_of_length_eq_zero hn; exact h0
 | succ n ih =>
  obtain ⟨l', x, rfl⟩ : ∃ l' x, l = l' ++ [x] := ⟨l.dropLast, l.getLast (by intro h; simp [h] at hn), (List.dropLast_concat_getLast _).symm⟩
  exact h1 l' x (ih l' (by simpa using hn))

theorem cnt_spec : ∀ (l : List (List Int)), (cnt l).1 = l.length ∧ (cnt l).2.1 = bsum l ∧ ((cnt l).2.2.1 > 32 ↔ ∃ x ∈ l, x.length > 32) ∧ 0 ≤ (cnt l).2.2.2 ∧ (l ≠ [] → ((cnt l).2.2.2 = 0 ↔ ∃ x ∈ l, x.length = 0)) := by
 apply snoc_ind
 · simp [cnt, bsum]
 ·
  intro l x ⟨h1, h2, h3, h4, h5⟩
  rw [cnt_snoc, bsum_snoc]
  simp only [cstep]
  refine ⟨by rw [h1]; simp, by rw [h2], ?_, by split <;> omega, fun _ => ?_⟩
  ·
   constructor
   ·
    intro h
    by_cases hx : x.length > 32
    · exact ⟨x, by simp, hx⟩
    ·
     obtain ⟨y, hy, hl⟩ := h3.1 (by omega)
     exact ⟨y, by simp [hy], hl⟩
   ·
    rintro ⟨y, hy, hl⟩
    rcases List.mem_append.1 hy with hy | hy
    ·
     have := h3.2 ⟨y, hy, hl⟩
     omega
    · simp at hy; subst hy; omega
  ·
   by_cases hn : l = []
   ·
    subst hn
    simp [cnt]
   ·
    have hlen : l.length ≠ 0 := fun e => hn (List.eq_nil_of_length_eq_zero e)
    have h6 := h5 hn
    constructor
    ·
     intro h
     by_cases hx : x.length = 0
     · exact ⟨x, by simp, hx⟩
     ·
      split at h
      · omega
      ·
       obtain ⟨y, hy, hl⟩ := h6.1 h
       exact ⟨y, by simp [hy], hl⟩
    ·
     rintro ⟨y, hy, hl⟩
     rcases List.mem_append.1 hy with hy | hy
     ·
      have := h6.2 ⟨y, hy, hl⟩
      rw [if_neg (by omega)]
      exact this
     ·
      simp at hy; subst hy
      split <;> omega

theorem firstAsk_eq (f : Nat → Bool) : firstAsk f = if f 0 then 50 else if f 1 then 51 else if f 2 then 52 else if f 3 then 53 else if f 4 then 54 else if f 5 then 55 else 0 := by
 unfold firstAsk
 simp only [List.range, List.range.loop, List.find?]
 cases f 0 <;> cases f 1 <;> cases f 2 <;> cases f 3 <;> cases f 4 <;> cases f 5 <;> rfl

theorem check_eq (fold : Bool) (wss : List (List Int)) : checkP fold wss = checkR fold wss := by
 obtain ⟨h1, h2, h3, h4, h5⟩ := cnt_spec wss
 unfold checkP checkR
 rw [firstAsk_eq]
 simp only [askB, h1, h2, nodes_eq, decide_eq_true_eq, h3]
 by_cases h0 : wss.length = 0
 · rw [if_pos (by omega), if_pos h0]
 ·
  rw [if_neg (by omega), if_neg h0]
  have hn : wss ≠ [] := fun e => h0 (by rw [e]; rfl)
  by_cases h64 : wss.length > 64
  · rw [if_pos (by omega), if_pos h64]
  ·
   rw [if_neg (by omega), if_neg h64]
   by_cases he : ∃ x ∈ wss, x.length = 0
   · rw [if_pos ((h5 hn).2 he), if_pos he]
   · rw [if_neg (fun h => he ((h5 hn).1 h)), if_neg he]

theorem right_eq (fold : Bool) (wss : List (List Int)) : rightP fold wss = rightR fold wss := by
 unfold rightP rightR
 rw [check_eq]

end Go.Proofs.YtglfdclpjmhoiaaGreat

/- Plain words of layer 6: hits, their order, all of a text. -/

namespace Go.Proofs.YtglfdclpjmhoiaaGreat

abbrev HitP := Int × Int
def lenW (wss : List (List Int)) (k : Int) : Int := if 0 ≤ k ∧ k < wss.length then (((wss[k.toNat]?).getD []).length : Int) else 0
def cmpI (a b : Int) : Int := if a < b then -1 else if b < a then 1 else 0
def orI (a b c : Int) : Int := if a ≠ 0 then a else if b ≠ 0 then b else c
def ordH (wss : List (List Int)) (a b : HitP) : Int := orI (cmpI a.1 b.1) (cmpI (lenW wss b.2) (lenW wss a.2)) (cmpI a.2 b.2)
def lessH (wss : List (List Int)) (a b : HitP) : Bool := decide (ordH wss a b < 0)
/-- Where a hit is put, among hits that rise: behind all that do not come behind it. -/
def putN (wss : List (List Int)) (l : List HitP) (h : HitP) : Nat := l.length - (l.reverse.takeWhile (fun x => lessH wss h x)).length
/-- Which words stand at a place. -/
def stands (fold : Bool) (wss : List (List Int)) (text : List Int) (place : Nat) (k : Nat) : Bool := atL fold text place ((wss[k]?).getD [])
end Go.Proofs.YtglfdclpjmhoiaaGreat

/- Which of two hits comes ahead (layer 6), walked. -/

namespace Go.Proofs.YtglfdclpjmhoiaaGreat
open Go.RowKit Go.Sort

theorem compare_any (x y : Int) (w : World) :
  Calls Tryz.prog 62 #[.int .i64 x, .int .i64 y] w fun e w' => e = .returned (.int .i64 (cmpI x y)) ∧ w = w' := by
 by_cases h1 : x < y
 ·
  have hE : Hid (cmpI x y = -1) := by simp [Hid, cmpI, h1]
  go_enter Tryz.func62, Tryz.ntmps62
  go_wp2
  go_ret
  exact ⟨by rw [hE.out]; rfl, rfl⟩
 ·
  by_cases h2 : y < x
  ·
   have hE : Hid (cmpI x y = 1) := by simp [Hid, cmpI, h1, h2]
   go_enter Tryz.func62, Tryz.ntmps62
   go_wp2
   go_ret
   exact ⟨by rw [hE.out]; rfl, rfl⟩
  ·
   have hE : Hid (cmpI x y = 0) := by simp [Hid, cmpI, h1, h2]
   go_enter Tryz.func62, Tryz.ntmps62
   go_wp2
   go_ret
   exact ⟨by rw [hE.out]; rfl, rfl⟩

def orL (zs : List Int) : Int := (zs.find? (fun z => z != 0)).getD 0
theorem orL_hit {pre rest : List Int} {z : Int} (h : ∀ x ∈ pre, x = 0) (hz : z ≠ 0) : orL (pre ++ z :: rest) = z := by
 unfold orL
 rw [List.find?_append, List.find?_eq_none.2 (fun x hx => by simp [h x hx])]
 simp [hz]
theorem orL_none {zs : List Int} (h : ∀ x ∈ zs, x = 0) : orL zs = 0 := by
 unfold orL
 rw [List.find?_eq_none.2 (fun x hx => by simp [h x hx])]
 rfl
set_option maxHeartbeats 1000000 in
theorem or_any (a : Option Addr) (la ca : Nat) (zs : List Int) (w : World) (hA : Sl1 (Value.int .i64) w a la zs) (hla : la ≤ 1000000) :
  Calls Tryz.prog 61 #[.slice a la ca] w fun e w' => e = .returned (.int .i64 (orL zs)) ∧ w = w' := by
 obtain ⟨hl, hm⟩ := hA
 have HL := Lib.hid hl
 clear hl
 go_enter Tryz.func61, Tryz.ntmps61
 go_wp2
 go_loop [8] (fun i => ∃ k : Nat, k ≤ la ∧ i = .int .i64 k ∧ Hid (∀ x ∈ zs.take k, x = 0)) (fun i => la - (intOf i).toNat)
 case atStart => exact ⟨0, Nat.zero_le _, rfl, fun x hx => by simp at hx⟩
 case round =>
  obtain ⟨k, hk, rfl, HK⟩ := hrel
  by_cases hlt : k < la
  ·
   obtain ⟨b, off, rfl, hb, hc⟩ := hm.resolve_left (by omega)
   obtain ⟨z, hz⟩ : ∃ z, zs[k]? = some z := ⟨zs[k]'(by rw [HL.out]; exact hlt), by simp⟩
   have hcell : w.cell? ⟨b, off + k, none⟩ = some (.int .i64 z) := hc k z hz
   have HZ := Lib.hid hz
   clear hz hc hm
   by_cases h0 : z = 0
   ·
    subst h0
    have HS : Hid (∀ x ∈ zs.take (k + 1), x = 0) := by
     rw [take_step HZ.out]
     intro x hx
     rcases List.mem_append.1 hx with hx | hx
     · exact HK.out x hx
     · simpa using hx
    go_wp2
    go_round
    case rel => exact ⟨k + 1, by omega, by go_num, HS⟩
    case measure => simp [intOf]; omega
   ·
    have HS : Hid (orL zs = z) := by
     have h := orL_hit (rest := zs.drop (k + 1)) HK.out h0
     rwa [← split_at HZ.out] at h
    have hne : (z != 0) = true := by simp [h0]
    clear h0
    go_wp2
    go_ret
    exact ⟨by rw [HS.out]; rfl, rfl⟩
  ·
   obtain rfl : k = la := by omega
   have HS : Hid (orL zs = 0) := by
    have h := HK.out
    rw [List.take_of_length_le (by rw [HL.out]; exact Nat.le_refl _)] at h
    exact orL_none h
   go_wp2
   go_ret
   exact ⟨by rw [HS.out]; rfl, rfl⟩

theorem Sl1.lay {α : Type} (enc : α → Value) (w : World) (zs : List α) (t : TypeId) (n : Nat) (h : w.heap.size = n) : Sl1 enc (w.alloc (.cells (zs.map enc).toArray t)) (some ⟨n, 0, none⟩) zs.length zs := by
 subst h
 refine ⟨rfl, .inr ⟨w.heap.size, 0, rfl, by simp, fun i x hx => ?_⟩⟩
 have hn := World.alloc_heap_new w (.cells (zs.map enc).toArray t)
 unfold World.cell?
 dsimp only
 rw [hn]
 simp [hx]

end Go.Proofs.YtglfdclpjmhoiaaGreat

/- Blocks that lie one behind the other; parts of slices of bytes. -/

namespace Go.Proofs.YtglfdclpjmhoiaaGreat
open Go.RowKit Go.Sort

theorem alloc_at {w : World} {n : Nat} (h : w.heap.size = n) (o : Obj) : (w.alloc o).heap[n]? = some o := by
 subst h; exact World.alloc_heap_new w o
/-- Blocks that lie one behind the other. -/
def Bx (n : Nat) (os : List Obj) (W : World) : Prop := ∀ (i : Nat) (o : Obj), os[i]? = some o → W.heap[n + i]? = some o
theorem Bx.below {n : Nat} {os : List Obj} {W W' : World} (h : Bx n os W) (hb : Below W.heap.size W W') : Bx n os W' := fun i o hi =>
 have := h i o hi
 (hb.block _ (Array.getElem?_eq_some_iff.1 this).1).trans this
theorem Bx.nil (n : Nat) (W : World) : Bx n [] W := fun i o hi => by simp at hi
theorem Bx.snoc {n : Nat} {os : List Obj} {W : World} (h : Bx n os W) (o : Obj) (hm : W.heap.size = n + os.length) : Bx n (os ++ [o]) (W.alloc o) := fun i x hi => by
 by_cases hl : i < os.length
 ·
  rw [List.getElem?_append_left hl] at hi
  exact (Below.heap_alloc _ _ _ (by omega)).trans (h i x hi)
 ·
  rw [List.getElem?_append_right (by omega)] at hi
  have : i - os.length = 0 := by
   by_cases e : i - os.length = 0
   · exact e
   · rw [List.getElem?_eq_none (by simp; omega)] at hi; cases hi
  rw [this] at hi
  simp at hi
  subst hi
  exact alloc_at (by omega) _
theorem Bx.cell {n i j : Nat} {os : List Obj} {W : World} (h : Bx n os W) {cs : Array Value} {t : TypeId} {fr : Nat × Nat} (hi : os[i]? = some (.cells cs t fr)) {v : Value} (hj : cs[j]? = some v) : W.cell? ⟨n + i, j, none⟩ = some v := by
 have := h i _ hi
 simp [World.cell?, this, hj]
theorem Bys.take {w : World} {a : Option Addr} {n : Nat} {l : List Int} (h : Bys w a n l) {m : Nat} (hm : m ≤ n) : Bys w a m (l.take m) := by
 refine ⟨⟨by rw [List.length_take, h.len]; omega, ?_⟩, fun x hx => h.2 x (List.mem_of_mem_take hx)⟩
 by_cases h0 : m = 0
 · exact .inl h0
 ·
  right
  obtain ⟨b, off, rfl, hlt, hcell⟩ := h.1.2.resolve_left (by omega)
  refine ⟨b, off, rfl, hlt, fun i u hu => hcell i u ?_⟩
  rw [List.getElem?_take] at hu
  split at hu
  · exact hu
  · cases hu
theorem Bys.drop {w : World} {a : Option Addr} {n : Nat} {l : List Int} (h : Bys w a n l) {m : Nat} (hm : m ≤ n) : Bys w (a.map (·.add m)) (n - m) (l.drop m) := by
 have hc := h.cut (lo := m) (m := n - m) (by omega)
 rwa [List.take_of_length_le (by rw [List.length_drop, h.len]; exact Nat.le_refl _)] at hc
theorem Bys.rest {V : World} {b : Option Addr} {lb cb n : Nat} {l : List Int} (h : Bys V b lb l) (hn : n ≤ lb) (hcb : lb ≤ cb) : Bys V (if cb = n then b else Option.map (fun x => x.add n) b) (lb - n) (l.drop n) := by
 split
 ·
  have e : l.drop n = [] := List.drop_eq_nil_of_le (by rw [h.len]; omega)
  rw [e, show lb - n = 0 by omega]
  exact Bys.nil _ _
 · exact h.drop hn
theorem bel_drewN (W : World) (n : Nat) : Below W.heap.size W (W.drewN n) := ⟨rfl, rfl, rfl, Nat.le_refl _, fun _ _ => rfl⟩
def heW : List (List Int) := [[104, 101], [115, 104, 101], [104, 101, 114]]
theorem he_beg : (begL false heW).length ≤ 1000000 := by decide +kernel
theorem he_len : ∀ x ∈ heW, x.length ≤ 1000000 := by decide +kernel
set_option maxHeartbeats 1000000 in
theorem bys_lay {w : World} {n : Nat} (xs : List Int) (hx : ∀ x ∈ xs, 0 ≤ x ∧ x ≤ 255) (t : TypeId) (fr : Nat × Nat) (h : w.heap.size = n) : Bys (w.alloc (.cells (xs.map (Value.int .u8)).toArray t fr)) (some ⟨n, 0, none⟩) xs.length xs := by
 subst h
 refine ⟨⟨rfl, .inr ⟨w.heap.size, 0, rfl, by simp, fun i x hx => ?_⟩⟩, hx⟩
 have hn := World.alloc_heap_new w (.cells (xs.map (Value.int .u8)).toArray t fr)
 unfold World.cell?
 dsimp only
 rw [hn]
 simp [hx]
theorem below_alloc (w : World) (o : Obj) : Below w.heap.size w (w.alloc o) := (Below.refl _ _).alloc (Nat.le_refl _) _
theorem wds3 {w : World} {a : Option Addr} {v1 v2 v3 : Option Addr × Nat × Nat} {x1 x2 x3 : List Int} (h : Sl1 (fun v : Option Addr × Nat × Nat => Value.slice v.1 v.2.1 v.2.2) w a 3 [v1, v2, v3]) (h1 : Bys w v1.1 v1.2.1 x1) (h2 : Bys w v2.1 v2.2.1 x2) (h3 : Bys w v3.1 v3.2.1 x3)
  (c1 : v1.2.1 ≤ v1.2.2) (c2 : v2.2.1 ≤ v2.2.2) (c3 : v3.2.1 ≤ v3.2.2) : Wds w a 3 [x1, x2, x3] := by
 refine ⟨_, h, rfl, fun i v xs hv hx => ?_⟩
 match i with
 | 0 => simp at hv hx; subst hv hx; exact ⟨h1, c1⟩
 | 1 => simp at hv hx; subst hv hx; exact ⟨h2, c2⟩
 | 2 => simp at hv hx; subst hv hx; exact ⟨h3, c3⟩
 | n + 3 => simp at hv

theorem conv_lit (w : World) (C : Array Value) (n c k : Nat) (h : w.heap.size = k) : (convert 25 25 (.slice (some ⟨k, 0, none⟩) n c)).run Tryz.prog (w.alloc (.cells C 5)) = .ok (.slice (some ⟨k, 0, none⟩) n c) (w.alloc (.cells C 5 (C.size, C.size + 1))) := by
 subst h
 exact Lib.run_convert_bytes_const (P := Tryz.prog) w 25 5 C n c Tryz.underlying25 Tryz.underlying5
theorem gb_of_below {W W' : World} (h : Below W.heap.size W W') (g : Nat) : W.grownBy W' (some g) := ⟨h.os, h.tape, h.output, h.size, fun k hk _ => h.block k hk⟩
theorem cells_new {w : World} (cs : Array Value) (t : TypeId) {n : Nat} (h : w.heap.size = n) : ∀ j u, cs.toList[j]? = some u → (w.alloc (.cells cs t)).cell? ((⟨n, 0, none⟩ : Addr).add j) = some u := by
 intro j u hu
 subst h
 rw [add_plain]
 have hn := World.alloc_heap_new w (.cells cs t)
 unfold World.cell?
 dsimp only
 rw [hn]
 simpa using hu
end Go.Proofs.YtglfdclpjmhoiaaGreat

/- Slices of cells, slices of hits; append of them (layer 6). -/

namespace Go.Proofs.YtglfdclpjmhoiaaGreat
open Go.RowKit Go.Sort

/-- A slice whose elements have some cells each: what they hold. -/
def SlK (size : Nat) (w : World) (a : Option Addr) (len : Nat) (cs : List Value) : Prop :=
 cs.length = len * size ∧ (len = 0 ∨ ∃ b off, a = some ⟨b, off, none⟩ ∧ b < w.heap.size ∧ ∀ (i : Nat) (u : Value), cs[i]? = some u → w.cell? ⟨b, off + i, none⟩ = some u)
theorem SlK.below {size : Nat} {w w' : World} {a : Option Addr} {len : Nat} {cs : List Value} (h : SlK size w a len cs) (hb : Below w.heap.size w w') : SlK size w' a len cs := by
 obtain ⟨h1, h2 | ⟨b, off, e, hlt, hc⟩⟩ := h
 · exact ⟨h1, .inl h2⟩
 · exact ⟨h1, .inr ⟨b, off, e, Nat.lt_of_lt_of_le hlt hb.size, fun i u hu => (hb.cell (p := ⟨b, off + i, none⟩) hlt).trans (hc i u hu)⟩⟩
theorem SlK.kept {size : Nat} {w w' : World} {a : Option Addr} {len : Nat} {cs : List Value} (h : SlK size w a len cs) (hk : kept w w') (hs : w.heap.size ≤ w'.heap.size) : SlK size w' a len cs := by
 obtain ⟨h1, h2 | ⟨b, off, e, hlt, hc⟩⟩ := h
 · exact ⟨h1, .inl h2⟩
 · exact ⟨h1, .inr ⟨b, off, e, Nat.lt_of_lt_of_le hlt hs, fun i u hu => (kept_cell hk (p := ⟨b, off + i, none⟩) hlt).trans (hc i u hu)⟩⟩
theorem SlK.news {size : Nat} {w : World} {ad : Addr} {m : Nat} {cs : List Value} (h : SlK size w (some ad) m cs) : ∀ j u, cs[j]? = some u → w.cell? (ad.add j) = some u := by
 intro j u hu
 obtain ⟨h1, h2⟩ := h
 have hj := (List.getElem?_eq_some_iff.1 hu).1
 have h0 : m ≠ 0 := by
  intro e
  subst e
  rw [h1, Nat.zero_mul] at hj
  omega
 obtain ⟨b, off, e, hlt, hc⟩ := h2.resolve_left h0
 obtain rfl := Option.some.inj e
 rw [add_plain]
 exact hc j u hu
theorem SlK.own {size base n : Nat} {w : World} {e : TypeId} {v : Value} {cs : List Value} (h : w.ownsRow base e size v n cs) : ∃ a c, v = .slice a n c ∧ n ≤ c ∧ SlK size w a n cs := by
 have hl := h.1
 rcases h.2 with ⟨rfl, rfl⟩ | ⟨g, cap, cur, rfl, hg, hh, hn, _, _, hc⟩
 · exact ⟨none, 0, rfl, Nat.le_refl _, hl, .inl rfl⟩
 ·
  refine ⟨_, cap, rfl, hn, hl, .inr ⟨g, 0, rfl, (Array.getElem?_eq_some_iff.1 hh).1, fun i x hx => ?_⟩⟩
  have := h.cells (g := g) rfl i x hx
  rwa [add_plain] at this

theorem run_append_slK {P : Program} (w : World) (base : Nat) (t ty e : TypeId) (i : TypeInfo) (z : Value) (size bytes : Nat) (ht : P.underlying t = some (.slice e)) (hi : P.info? e = some i) (hz : i.zero = some z)
  (hsize : i.size = size) (hby : i.bytes = bytes) (hzs : z.cells.size = size) (hsz : 0 < size) (v : Value) (n : Nat) (xs : List Value) (hown : w.ownsRow base e size v n xs)
  (A : Option Addr) (m c : Nat) (cs : List Value) (hs : SlK size w A m cs) (hone : ∀ u ∈ cs, u.oneCell' = true) (h63 : n + m ≤ maxLen) (hbytes : (n + m) * bytes ≤ 140737488355328) (hbase : base ≤ w.heap.size) :
  ∃ v' w', (Builtin.append_ #[t, t] ty #[v, .slice A m c]).run P w = .ok v' w' ∧ w'.ownsRow base e size v' (n + m) (xs ++ cs) ∧ w.grownBy w' v.ownBlock ∧
   (v'.ownBlock = v.ownBlock ∨ v'.ownBlock = some w.heap.size) := by
 cases A with
 | some ad =>
  obtain ⟨v', w', hr, h2, h3, _, h5⟩ := run_append_own_at (P := P) w base t ty e i z size bytes ht hi hz hsize hby hzs hsz v n xs hown ad m c cs hs.1 hs.news hone h63 hbytes hbase
  exact ⟨v', w', hr, h2, h3, h5⟩
 | none =>
  have hm : m = 0 := hs.2.elim id fun ⟨b, off, e, _⟩ => by cases e
  subst hm
  have hy : cs = [] := List.eq_nil_of_length_eq_zero (by rw [hs.1, Nat.zero_mul])
  subst hy
  refine ⟨v, w, ?_, by simpa using hown, World.grownBy.refl w _, .inl rfl⟩
  rcases hown.2 with ⟨rfl, rfl⟩ | ⟨g, cap, cur, rfl, _, _, hnc, _⟩
  · simp [Builtin.append_, run_underlying ht, sizeOf, typeInfo, hi, Builtin.lenOf, Builtin.firstCells]
  · simp [Builtin.append_, run_underlying ht, sizeOf, typeInfo, hi, Builtin.lenOf, Builtin.firstCells, hnc, storeCells]

theorem wpList_append_slK {P : Program} {w : World} {ops : Array Oper} {rest : List Oper} {o : Oper} {a : Act} {Q : Exit → Act → World → Prop} (hgd : o.guard = none) (s x : Operand) (t : TypeId)
  (ho : o.op = .call { callee := .builtin .append, args := #[s, x], argTypes := #[t, t] })
  (base : Nat) (e : TypeId) (i : TypeInfo) (z : Value) (size bytes : Nat) (ht : P.underlying t = some (.slice e)) (hi : P.info? e = some i) (hz : i.zero = some z) (hsize : i.size = size) (hby : i.bytes = bytes) (hzs : z.cells.size = size) (hsz : 0 < size)
  (v : Value) (n : Nat) (xs : List Value) (hs : a.eval s = v) (hown : w.ownsRow base e size v n xs) (A : Option Addr) (m c : Nat) (cs : List Value) (hx : a.eval x = .slice A m c) (hsl : SlK size w A m cs) (hone : ∀ u ∈ cs, u.oneCell' = true)
  (h63 : n + m ≤ maxLen) (hbytes : (n + m) * bytes ≤ 140737488355328) (hbase : base ≤ w.heap.size)
  (h : ∀ v' w', w'.ownsRow base e size v' (n + m) (xs ++ cs) → w.grownBy w' v.ownBlock → (v'.ownBlock = v.ownBlock ∨ v'.ownBlock = some w.heap.size) → wpList P ops Q rest (a.put o.dst v') w') : wpList P ops Q (o :: rest) a w := by
 refine wpList_plain hgd fun K hK => ?_
 obtain ⟨v', w', hr, h2, h3, h4⟩ := run_append_slK (P := P) w base t o.type e i z size bytes ht hi hz hsize hby hzs hsz v n xs hown A m c cs hsl hone h63 hbytes hbase
 unfold Oper.wp execOp
 simp only [ho, resolve, invoke, builtin, Sem.run_bind, Sem.run_pure, Result.andThen_ok, List.map_toArray, List.map_cons, List.map_nil, hs, hx, hr]
 exact hK _ _ (h v' w' h2 h3 h4)

/-! ### hits -/
def I64 (n : Int) : Prop := -9223372036854775808 ≤ n ∧ n ≤ 9223372036854775807
def hitE (h : HitP) : List Value := [.int .i64 h.1, .int .i64 h.2]
def hcells (l : List HitP) : List Value := l.flatMap hitE
theorem hcells_append (l m : List HitP) : hcells (l ++ m) = hcells l ++ hcells m := by simp [hcells]
theorem hcells_length : ∀ (l : List HitP), (hcells l).length = l.length * 2
 | [] => rfl
 | h :: l => by
  have := hcells_length l
  simp only [hcells, hitE, List.flatMap_cons, List.length_append, List.length_cons, List.length_nil] at this ⊢
  omega
theorem hcells_at : ∀ {l : List HitP} {i : Nat} {h : HitP}, l[i]? = some h → (hcells l)[i * 2]? = some (.int .i64 h.1) ∧ (hcells l)[i * 2 + 1]? = some (.int .i64 h.2)
 | [], i, h, e => by simp at e
 | x :: l, 0, h, e => by
  simp at e
  subst e
  exact ⟨rfl, rfl⟩
 | x :: l, i + 1, h, e => by
  have ih := hcells_at (l := l) (i := i) (h := h) (by simpa using e)
  have hc : hcells (x :: l) = .int .i64 x.1 :: .int .i64 x.2 :: hcells l := rfl
  rw [hc, show (i + 1) * 2 = i * 2 + 1 + 1 by omega, show i * 2 + 1 + 1 + 1 = (i * 2 + 1) + 1 + 1 by omega]
  simpa using ih
def Hts (w : World) (a : Option Addr) (len : Nat) (l : List HitP) : Prop := SlK 2 w a len (hcells l) ∧ ∀ h ∈ l, I64 h.1 ∧ I64 h.2
theorem Hts.below {w w' : World} {a : Option Addr} {len : Nat} {l : List HitP} (h : Hts w a len l) (hb : Below w.heap.size w w') : Hts w' a len l := ⟨h.1.below hb, h.2⟩
theorem Hts.len {w : World} {a : Option Addr} {len : Nat} {l : List HitP} (h : Hts w a len l) : l.length = len := by
 have := h.1.1
 rw [hcells_length] at this
 omega
theorem Hts.at_ {w : World} {a : Option Addr} {len : Nat} {l : List HitP} (h : Hts w a len l) {k : Nat} (hk : k < len) :
  ∃ b off x, a = some ⟨b, off, none⟩ ∧ b < w.heap.size ∧ w.cell? ⟨b, off + k * 2, none⟩ = some (.int .i64 x.1) ∧ w.cell? ⟨b, off + k * 2 + 1, none⟩ = some (.int .i64 x.2) ∧ l[k]? = some x ∧ I64 x.1 ∧ I64 x.2 := by
 have hl := h.len
 obtain ⟨b, off, e, hlt, hc⟩ := h.1.2.resolve_left (by omega)
 obtain ⟨x, hx⟩ : ∃ x, l[k]? = some x := ⟨l[k]'(by omega), by simp⟩
 obtain ⟨c0, c1⟩ := hcells_at hx
 exact ⟨b, off, x, e, hlt, hc _ _ c0, by rw [Nat.add_assoc]; exact hc _ _ c1, hx, (h.2 x (List.mem_of_getElem? hx)).1, (h.2 x (List.mem_of_getElem? hx)).2⟩
theorem Hts.cut {w : World} {a : Option Addr} {n : Nat} {l : List HitP} (h : Hts w a n l) {lo m : Nat} (hm : lo + m ≤ n) : Hts w (a.map (·.add (lo * 2))) m ((l.drop lo).take m) := by
 have hl := h.len
 refine ⟨⟨by rw [hcells_length]; simp; omega, ?_⟩, fun x hx => h.2 x (List.mem_of_mem_drop (List.mem_of_mem_take hx))⟩
 by_cases h0 : m = 0
 · exact .inl h0
 ·
  right
  obtain ⟨b, off, rfl, hlt, hcell⟩ := h.1.2.resolve_left (by omega)
  refine ⟨b, off + lo * 2, by simp [add_plain], hlt, fun i u hu => ?_⟩
  have hi := (List.getElem?_eq_some_iff.1 hu).1
  rw [hcells_length] at hi
  simp at hi
  rw [Nat.add_assoc]
  refine hcell _ u ?_
  have e1 : hcells l = hcells (l.take lo) ++ (hcells ((l.drop lo).take m) ++ hcells ((l.drop lo).drop m)) := by
   rw [← hcells_append, ← hcells_append, List.take_append_drop, List.take_append_drop]
  rw [e1, List.getElem?_append_right (by rw [hcells_length]; simp; omega), hcells_length, List.length_take, Nat.min_eq_left (by omega), Nat.add_sub_cancel_left, List.getElem?_append_left (by rw [hcells_length]; simp; omega)]
  exact hu
end Go.Proofs.YtglfdclpjmhoiaaGreat

/- Steps of a drawn region with held cells, with what is reckoned left to Lean. -/

namespace Go.Proofs.YtglfdclpjmhoiaaGreat
open Go.RowKit Go.Sort

section
variable {P : Program} {md : Region.Mode} {ops : Array Oper} {Q : Exit → Act → World → Prop} {S : World → Prop}
/-- An operation that is wanted is taken first. -/
theorem tkW (i : Nat) {oi : Oper} {v : Value} {fuel : Nat} {listed : Array Bool} {a : Act} {w : World}
  (hv : ∀ w, S w → (execOp a.eval oi).run P w = .ok (.value v) w)
  (h : wpAnyH P md ops Q S fuel (listed.setIfInBounds i true) (a.put oi.dst v) w)
  (hi : ops[i]? = some oi := by (simp only [List.getElem?_toArray, List.getElem?_cons_zero, List.getElem?_cons_succ]; rfl))
  (hs : Region.noSelect ops = true := by as_aux_lemma => kernel_rfl) (hf : Region.free md ops listed i = true := by as_aux_lemma => kernel_rfl) (hr : (Region.ready md ops listed).contains i = true := by as_aux_lemma => kernel_rfl)
  (hQ : ∀ c a w, Q (.panic c) (a.put oi.dst v) w → Q (.panic c) a w := by exact fun _ _ _ h => h) (hw : Region.wanted oi (yielded ops a.tmps) = true := by rfl) (hS : S w := by assumption) : wpAnyH P md ops Q S (fuel + 1) listed a w :=
 wpAnyH_take hi hs hf hr hQ (.inl ⟨hw, hv⟩) hS h
/-- One that its guard does not want. -/
theorem tkN (i : Nat) {oi : Oper} {fuel : Nat} {listed : Array Bool} {a : Act} {w : World}
  (h : wpAnyH P md ops Q S fuel (listed.setIfInBounds i true) (a.put oi.dst undef) w)
  (hi : ops[i]? = some oi := by (simp only [List.getElem?_toArray, List.getElem?_cons_zero, List.getElem?_cons_succ]; rfl))
  (hs : Region.noSelect ops = true := by as_aux_lemma => kernel_rfl) (hf : Region.free md ops listed i = true := by as_aux_lemma => kernel_rfl) (hr : (Region.ready md ops listed).contains i = true := by as_aux_lemma => kernel_rfl)
  (hQ : ∀ c a w, Q (.panic c) (a.put oi.dst undef) w → Q (.panic c) a w := by exact fun _ _ _ h => h) (hw : Region.wanted oi (yielded ops a.tmps) = false := by rfl) (hS : S w := by assumption) : wpAnyH P md ops Q S (fuel + 1) listed a w :=
 wpAnyH_take hi hs hf hr hQ (.inr ⟨hw, rfl⟩) hS h
/-- .. the one whose number is c less the steps that are left. -/
theorem tkF (c : Nat) {oi : Oper} {v : Value} {fuel : Nat} {listed : Array Bool} {a : Act} {w : World}
  (hv : ∀ w, S w → (execOp a.eval oi).run P w = .ok (.value v) w)
  (h : wpAnyH P md ops Q S fuel (listed.setIfInBounds (c - fuel) true) (a.put oi.dst v) w)
  (hi : ops[c - fuel]? = some oi := by (simp only [Nat.reduceSub, List.getElem?_toArray, List.getElem?_cons_zero, List.getElem?_cons_succ]; rfl))
  (hs : Region.noSelect ops = true := by as_aux_lemma => kernel_rfl) (hf : Region.free md ops listed (c - fuel) = true := by as_aux_lemma => kernel_rfl) (hr : (Region.ready md ops listed).contains (c - fuel) = true := by as_aux_lemma => kernel_rfl)
  (hQ : ∀ c a w, Q (.panic c) (a.put oi.dst v) w → Q (.panic c) a w := by exact fun _ _ _ h => h) (hw : Region.wanted oi (yielded ops a.tmps) = true := by rfl) (hS : S w := by assumption) : wpAnyH P md ops Q S (fuel + 1) listed a w :=
 wpAnyH_take hi hs hf hr hQ (.inl ⟨hw, hv⟩) hS h
/-- One operation that is ready alone. -/
theorem rdy (i : Nat) {oi : Oper} {fuel : Nat} {listed : Array Bool} {a : Act} {w : World}
  (h : ∀ K' : Act → World → Prop, Shut (∀ a w, S w → (S w → wpAnyH P md ops Q S fuel (listed.setIfInBounds i true) a w) → K' a w) → if Region.wanted oi (yielded ops a.tmps) = true then Oper.wp P oi a w K' Q else K' (a.put oi.dst undef) w)
  (hi : ops[i]? = some oi := by (simp only [List.getElem?_toArray, List.getElem?_cons_zero, List.getElem?_cons_succ]; rfl)) (hr : Region.ready md ops listed = [i] := by as_aux_lemma => kernel_rfl) : wpAnyH P md ops Q S (fuel + 1) listed a w :=
 wpAnyH_ready (rs := [i]) hr (by simp) (AllReadyH.cons hi h AllReadyH.nil)
end
section
variable {α : Type}
theorem pA (l : List α) (i : Nat) (a : α) : l.toArray.setIfInBounds i a = (l.set i a).toArray := by simp
theorem pB (a b : α) (l : List α) : (a :: l).set 0 b = b :: l := rfl
theorem pC (a b : α) (l : List α) (n : Nat) : (a :: l).set (n + 1) b = a :: l.set n b := rfl
theorem pD (l : List α) (i : Nat) : l.toArray[i]? = l[i]? := by simp
theorem pE (a : α) (l : List α) : (a :: l)[0]? = some a := rfl
theorem pF (a : α) (l : List α) (n : Nat) : (a :: l)[n + 1]? = l[n]? := rfl
end
end Go.Proofs.YtglfdclpjmhoiaaGreat

/- Opening the arguments of laws: sets, slices of bytes, hits, slices of hits. -/

namespace Go.Proofs.YtglfdclpjmhoiaaGreat
open Go.ChangeShapes Go.WideShapes Go.ChangeAt Go.RowKit Go.Joins Go.Deep
set_option maxRecDepth 100000

theorem cells_Set : Tryz.prog.cellsOf 24 = 2 := by kernel_rfl
theorem cells_bool : Tryz.prog.cellsOf 4 = 1 := by kernel_rfl
theorem cells_u8 : Tryz.prog.cellsOf 5 = 1 := by kernel_rfl
theorem cells_u8s : Tryz.prog.cellsOf 25 = 1 := by kernel_rfl
theorem cells_wds : Tryz.prog.cellsOf 22 = 1 := by kernel_rfl
theorem wf_u8 {n : Int} (h : (Lit.int .u8 n).wf = true) : 0 ≤ n ∧ n ≤ 255 := by
 simp [Lit.wf, IntKind.min, IntKind.max, IntKind.signed, IntKind.bits] at h
 omega

section
variable {H : Type} {enc : TypeId × Value → H} {W : World} {r : Reach} {base : Nat} {d : DataW H} {p : List MemPlace} {v : Value}

theorem open_sl_u8 (hv : Value.okWide Tryz.prog W r base 25 v) (h : DataW.Trod enc Tryz.prog W 0 (fun _ => true) true 25 v d p) :
  ∃ (a : Option Addr) (len cap : Nat) (zs : List Int), v = .slice a len cap ∧ Bys W a len zs ∧ len ≤ cap ∧ cap ≤ maxLen := by
 obtain ⟨a, len, cap, rfl⟩ := okWide_slice Tryz.underlying25 hv
 obtain ⟨fuel, hf⟩ := h
 rcases open_ints Tryz.underlying25 Tryz.underlying5 (by kernel_rfl) hf with ⟨hcs, _⟩ | ⟨x, l, c, zs, hcs, _, hl, hm, hz, _, hcell, hwz⟩
 ·
  simp [Value.cells] at hcs
  obtain ⟨rfl, rfl, rfl⟩ := hcs
  exact ⟨none, 0, 0, [], rfl, Bys.nil _ _, Nat.le_refl _, by unfold maxLen; omega⟩
 ·
  simp [Value.cells] at hcs
  obtain ⟨rfl, rfl, rfl⟩ := hcs
  have hz' : zs.length = cap := by simpa using hz
  refine ⟨_, len, _, zs.take len, rfl, ⟨⟨by simp; omega, ?_⟩, fun n hn => wf_u8 (hwz n (List.mem_of_mem_take hn))⟩, hl, hm⟩
  by_cases h0 : len = 0
  · exact .inl h0
  ·
   right
   obtain ⟨b, off, spot⟩ := x
   have hc := hcell 0 (by omega)
   obtain rfl : spot = none := by simpa [Addr.add] using World.cell?_spot hc
   refine ⟨b, off, rfl, ?_, fun i u hu => ?_⟩
   ·
    have := World.block_lt_of_cell? W _ hc
    rwa [add_plain] at this
   ·
    have hi : i < len := by have := (List.getElem?_eq_some_iff.1 hu).1; simp at this; omega
    have h1 := hcell i (by omega)
    rw [add_plain] at h1
    rw [h1]
    rw [List.getElem?_take, if_pos hi] at hu
    simp [hu]

/-- The cells of a row of texts, read. -/
theorem wds_cells {fuel : Nat} {v : Value} {x : DataW H × List MemPlace} (h : DataW.trod enc Tryz.prog W 0 (fun _ => true) true fuel 22 [v] = some x) : ∃ (a : Option Addr) (len cap : Nat) (wss : List (List Int)), v = .slice a len cap ∧ Wds W a len wss ∧ len ≤ cap ∧ cap ≤ maxLen := by
 rcases open_int_rows Tryz.underlying22 Tryz.underlying25 Tryz.underlying5 cells_u8s cells_u8 h with ⟨hcs, _⟩ | ⟨x, len, cap, A, L, C, Z, hcs, _, hl, hm, _, hi⟩
 ·
  simp at hcs
  exact ⟨none, 0, 0, [], hcs, ⟨[], ⟨rfl, .inl rfl⟩, rfl, fun i v xs h => by simp at h⟩, Nat.le_refl _, by unfold maxLen; omega⟩
 ·
  simp at hcs
  refine ⟨some x, len, cap, (List.range len).map fun i => (Z i).take (L i), hcs, ⟨(List.range len).map fun i => (A i, L i, C i), ⟨by simp, ?_⟩, by simp, fun i v xs hv hx => ?_⟩, hl, hm⟩
  ·
   by_cases h0 : len = 0
   · exact .inl h0
   ·
    right
    obtain ⟨b, off, spot⟩ := x
    have hc := (hi 0 (by omega)).1
    obtain rfl : spot = none := by simpa [Addr.add] using World.cell?_spot hc
    refine ⟨b, off, rfl, ?_, fun i u hu => ?_⟩
    ·
     have := World.block_lt_of_cell? W _ hc
     rwa [add_plain] at this
    ·
     have hil : i < len := by have := (List.getElem?_eq_some_iff.1 hu).1; simpa using this
     simp [hil] at hu
     have h1 := (hi i (by omega)).1
     rw [add_plain] at h1
     rw [h1, ← hu]
  ·
   have hil : i < len := by have := (List.getElem?_eq_some_iff.1 hv).1; simpa using this
   simp [hil] at hv hx
   subst hv hx
   obtain ⟨_, hLC, hCm, hZ, hwf, hAn, hA⟩ := hi i (by omega)
   refine ⟨⟨⟨by simp; omega, ?_⟩, fun n hn => wf_u8 (hwf n (List.mem_of_mem_take hn))⟩, hLC⟩
   by_cases h0 : L i = 0
   · exact .inl h0
   ·
    right
    cases hAi : A i with
    | none => have := hAn hAi; omega
    | some y =>
     obtain ⟨_, hc⟩ := hA y hAi
     obtain ⟨b, off, spot⟩ := y
     have hc0 := hc 0 (by omega)
     obtain rfl : spot = none := by simpa [Addr.add] using World.cell?_spot hc0
     refine ⟨b, off, rfl, ?_, fun j u hu => ?_⟩
     ·
      have := World.block_lt_of_cell? W _ hc0
      rwa [add_plain] at this
     ·
      have hj : j < L i := by have := (List.getElem?_eq_some_iff.1 hu).1; simp at this; omega
      have h1 := hc j (by omega)
      rw [add_plain] at h1
      rw [h1]
      rw [List.getElem?_take, if_pos hj] at hu
      simp [hu]

theorem open_set (hv : Value.okWide Tryz.prog W r base 24 v) (h : DataW.Trod enc Tryz.prog W 0 (fun _ => true) true 24 v d p) :
  ∃ (fold : Bool) (a : Option Addr) (len cap : Nat) (wss : List (List Int)), v = .agg #[.bool fold, .slice a len cap] ∧ Wds W a len wss ∧ len ≤ cap ∧ cap ≤ maxLen := by
 obtain ⟨cs, rfl, hsz⟩ := okWide_struct Tryz.underlying24 hv
 obtain ⟨l⟩ := cs
 match l, hsz.trans cells_Set with
 | [c0, c1], _ =>
  obtain ⟨fuel, hf⟩ := h
  obtain ⟨xs, n, _, _, _, hlen, hx⟩ := DataW.trod_struct Tryz.underlying24 hf
  have hlen' : xs.length = 2 := hlen
  obtain ⟨y0, hy0⟩ : ∃ y, xs[0]? = some y := ⟨xs[0]'(by omega), by simp⟩
  obtain ⟨y1, hy1⟩ : ∃ y, xs[1]? = some y := ⟨xs[1]'(by omega), by simp⟩
  have h0 := hx 0
  simp only [pD, pE, pF, Option.some.injEq, forall_eq', cells_bool, hy0] at h0
  obtain ⟨b, e0, _⟩ := DataW.trod_bool Tryz.underlying4 h0
  have h1 := hx 1
  simp only [pD, pE, pF, Option.some.injEq, forall_eq', cells_wds, hy1] at h1
  simp [Value.cells] at e0 h1
  obtain ⟨a, len, cap, wss, e1, hw, hc, hm⟩ := wds_cells h1
  exact ⟨b, a, len, cap, wss, by rw [e0, e1], hw, hc, hm⟩
end

end Go.Proofs.YtglfdclpjmhoiaaGreat

/- Plain words of layer 7: the beginnings of words in order, the trie of words. -/

namespace Go.Proofs.YtglfdclpjmhoiaaGreat

/-- Of one length: lesser in the first byte in which they differ. -/
def lexB : List Int → List Int → Bool
 | x :: xs, y :: ys => if x < y then true else if y < x then false else lexB xs ys
 | _, _ => false
def ltS (x y : List Int) : Bool := if x.length < y.length then true else if y.length < x.length then false else lexB x y
theorem lexB_irrefl : ∀ x, lexB x x = false
 | [] => rfl
 | x :: xs => by simp [lexB, lexB_irrefl xs]
theorem lexB_trans : ∀ {x y z : List Int}, lexB x y = true → lexB y z = true → lexB x z = true
 | [], _, _, h, _ => by simp [lexB] at h
 | _ :: _, [], _, h, _ => by simp [lexB] at h
 | _ :: _, _ :: _, [], _, h => by simp [lexB] at h
 | x :: xs, y :: ys, z :: zs, h1, h2 => by
  have ih := lexB_trans (x := xs) (y := ys) (z := zs)
  unfold lexB at h1 h2 ⊢
  by_cases a : x < y
  ·
   by_cases b : y < z
   · rw [if_pos (by omega)]
   ·
    rw [if_neg b] at h2
    by_cases c : z < y
    · rw [if_pos c] at h2; cases h2
    · rw [if_pos (by omega)]
  ·
   rw [if_neg a] at h1
   by_cases a' : y < x
   · rw [if_pos a'] at h1; cases h1
   ·
    rw [if_neg a'] at h1
    by_cases b : y < z
    · rw [if_pos (by omega)]
    ·
     rw [if_neg b] at h2
     by_cases c : z < y
     · rw [if_pos c] at h2; cases h2
     ·
      rw [if_neg c] at h2
      rw [if_neg (by omega), if_neg (by omega)]
      exact ih h1 h2
theorem lexB_total : ∀ {x y : List Int}, x.length = y.length → lexB x y = false → lexB y x = false → x = y
 | [], [], _, _, _ => rfl
 | [], _ :: _, h, _, _ => by simp at h
 | _ :: _, [], h, _, _ => by simp at h
 | x :: xs, y :: ys, h, h1, h2 => by
  unfold lexB at h1 h2
  by_cases a : x < y
  · rw [if_pos a] at h1; cases h1
  ·
   by_cases b : y < x
   · rw [if_pos b] at h2; cases h2
   ·
    rw [if_neg a, if_neg b] at h1
    rw [if_neg b, if_neg a] at h2
    have e : x = y := by omega
    rw [e, lexB_total (by simpa using h) h1 h2]
theorem ltS_irrefl (x : List Int) : ltS x x = false := by simp [ltS, lexB_irrefl]
theorem ltS_trans {x y z : List Int} (h1 : ltS x y = true) (h2 : ltS y z = true) : ltS x z = true := by
 unfold ltS at h1 h2 ⊢
 by_cases a : x.length < y.length
 ·
  by_cases b : y.length < z.length
  · rw [if_pos (by omega)]
  ·
   rw [if_neg b] at h2
   by_cases c : z.length < y.length
   · rw [if_pos c] at h2; cases h2
   · rw [if_pos (by omega)]
 ·
  rw [if_neg a] at h1
  by_cases a' : y.length < x.length
  · rw [if_pos a'] at h1; cases h1
  ·
   rw [if_neg a'] at h1
   by_cases b : y.length < z.length
   · rw [if_pos (by omega)]
   ·
    rw [if_neg b] at h2
    by_cases c : z.length < y.length
    · rw [if_pos c] at h2; cases h2
    ·
     rw [if_neg c] at h2
     rw [if_neg (by omega), if_neg (by omega)]
     exact lexB_trans h1 h2
theorem ltS_asymm {x y : List Int} (h : ltS x y = true) : ltS y x = false := by
 cases e : ltS y x with
 | false => rfl
 | true => have := ltS_trans h e; rw [ltS_irrefl] at this; cases this
theorem ltS_total {x y : List Int} (h1 : ltS x y = false) (h2 : ltS y x = false) : x = y := by
 unfold ltS at h1 h2
 by_cases a : x.length < y.length
 · rw [if_pos a] at h1; cases h1
 ·
  by_cases b : y.length < x.length
  · rw [if_pos b] at h2; cases h2
  ·
   rw [if_neg a, if_neg b] at h1
   rw [if_neg b, if_neg a] at h2
   exact lexB_total (by omega) h1 h2
theorem ltS_len {x y : List Int} (h : ltS x y = true) : x.length ≤ y.length := by
 unfold ltS at h
 by_cases a : x.length < y.length
 · omega
 ·
  rw [if_neg a] at h
  by_cases b : y.length < x.length
  · rw [if_pos b] at h; cases h
  · omega
abbrev SrtS (l : List (List Int)) : Prop := l.Pairwise (fun a b => ltS a b = true)
theorem SrtS.nodup {l : List (List Int)} (h : SrtS l) : l.Nodup := by
 rw [List.nodup_iff_pairwise_ne]
 exact h.imp fun hab e => by rw [e, ltS_irrefl] at hab; cases hab
/-- Two lists in order that have the same members are the same. -/
theorem srtS_unique : ∀ {l m : List (List Int)}, SrtS l → SrtS m → (∀ x, x ∈ l ↔ x ∈ m) → l = m
 | [], [], _, _, _ => rfl
 | [], b :: m, _, _, h => by have := (h b).2 (by simp); simp at this
 | a :: l, [], _, _, h => by have := (h a).1 (by simp); simp at this
 | a :: l, b :: m, h1, h2, h => by
  rw [SrtS, List.pairwise_cons] at h1 h2
  have hab : a = b := by
   have ha := (h a).1 (by simp)
   have hb := (h b).2 (by simp)
   rcases List.mem_cons.1 ha with e | ha
   · exact e
   ·
    rcases List.mem_cons.1 hb with e | hb
    · exact e.symm
    ·
     have g1 := h2.1 a ha
     have g2 := h1.1 b hb
     rw [ltS_asymm g1] at g2
     cases g2
  subst hab
  have hnl : a ∉ l := fun hm => by have := h1.1 a hm; rw [ltS_irrefl] at this; cases this
  have hnm : a ∉ m := fun hm => by have := h2.1 a hm; rw [ltS_irrefl] at this; cases this
  congr 1
  refine srtS_unique h1.2 h2.2 fun x => ⟨fun hx => ?_, fun hx => ?_⟩
  ·
   rcases List.mem_cons.1 ((h x).1 (by simp [hx])) with e | hm
   · subst e; exact absurd hx hnl
   · exact hm
  ·
   rcases List.mem_cons.1 ((h x).2 (by simp [hx])) with e | hm
   · subst e; exact absurd hx hnm
   · exact hm

/-- A list of texts in order, with one more, if it is not there (the document's way). -/
def putS (l : List (List Int)) (b : List Int) : List (List Int) :=
 match l with
 | [] => [b]
 | x :: xs => if ltS x b then x :: putS xs b else if x = b then x :: xs else b :: x :: xs
theorem mem_putS : ∀ {l : List (List Int)} {b x : List Int}, x ∈ putS l b ↔ x = b ∨ x ∈ l
 | [], b, x => by simp [putS]
 | y :: ys, b, x => by
  have ih := mem_putS (l := ys) (b := b) (x := x)
  unfold putS
  split
  ·
   rw [List.mem_cons, ih, List.mem_cons]
   constructor
   ·
    rintro (h | h | h)
    · exact .inr (.inl h)
    · exact .inl h
    · exact .inr (.inr h)
   ·
    rintro (h | h | h)
    · exact .inr (.inl h)
    · exact .inl h
    · exact .inr (.inr h)
  ·
   split
   ·
    rename_i e
    rw [List.mem_cons]
    constructor
    ·
     rintro (h | h)
     · exact .inl (h.trans e)
     · exact .inr (.inr h)
    ·
     rintro (h | h | h)
     · exact .inl (h.trans e.symm)
     · exact .inl h
     · exact .inr h
   · rw [List.mem_cons, List.mem_cons]
theorem putS_srt : ∀ {l : List (List Int)} {b : List Int}, SrtS l → SrtS (putS l b)
 | [], b, _ => by simp [putS]
 | y :: ys, b, h => by
  have h' := h
  rw [SrtS, List.pairwise_cons] at h'
  have ih := putS_srt (b := b) h'.2
  unfold putS
  split
  ·
   rename_i e
   rw [SrtS, List.pairwise_cons]
   refine ⟨fun x hx => ?_, ih⟩
   rcases mem_putS.1 hx with rfl | hx
   · exact e
   · exact h'.1 x hx
  ·
   split
   · exact h
   ·
    rename_i e1 e2
    rw [SrtS, List.pairwise_cons]
    have hby : ltS b y = true := by
     cases e : ltS b y with
     | true => rfl
     | false => exact absurd (ltS_total (by simpa using e1) e) e2
    refine ⟨fun x hx => ?_, h⟩
    rcases List.mem_cons.1 hx with rfl | hx
    · exact hby
    · exact ltS_trans hby (h'.1 x hx)

/-- A beginning of one of the words, or none of their bytes. -/
def IsBeg (wss : List (List Int)) (x : List Int) : Prop := x = [] ∨ ∃ w ∈ wss, ∃ k, 1 ≤ k ∧ k ≤ w.length ∧ x = w.take k
theorem IsBeg.iff {wss : List (List Int)} {x : List Int} : IsBeg wss x ↔ x = [] ∨ x ≠ [] ∧ ∃ w ∈ wss, x <+: w := by
 constructor
 ·
  rintro (h | ⟨w, hw, k, h1, h2, rfl⟩)
  · exact .inl h
  ·
   right
   refine ⟨fun e => ?_, w, hw, List.take_prefix _ _⟩
   have := congrArg List.length e
   rw [List.length_take, List.length_nil] at this
   omega
 ·
  rintro (h | ⟨h0, w, hw, h⟩)
  · exact .inl h
  ·
   right
   obtain ⟨t, rfl⟩ := h
   refine ⟨_, hw, x.length, ?_, by simp, by simp⟩
   cases x with
   | nil => exact absurd rfl h0
   | cons a b => simp
theorem IsBeg.up {wss : List (List Int)} {x : List Int} (h : IsBeg wss x) : IsBeg wss x.dropLast := by
 rw [IsBeg.iff] at h ⊢
 rcases h with rfl | ⟨h0, w, hw, hp⟩
 · exact .inl rfl
 ·
  by_cases e : x.dropLast = []
  · exact .inl e
  · exact .inr ⟨e, w, hw, (List.dropLast_prefix x).trans hp⟩
theorem IsBeg.mono {wss vss : List (List Int)} {x : List Int} (h : IsBeg wss x) (hs : ∀ w ∈ wss, w ∈ vss) : IsBeg vss x := by
 rcases h with h | ⟨w, hw, r⟩
 · exact .inl h
 · exact .inr ⟨w, hs w hw, r⟩
/-- All the beginnings of a word, put in. -/
def putW (l : List (List Int)) (w : List Int) (k : Nat) : List (List Int) := (List.range k).foldl (fun l j => putS l (w.take (j + 1))) l
theorem putW_succ (l : List (List Int)) (w : List Int) (k : Nat) : putW l w (k + 1) = putS (putW l w k) (w.take (k + 1)) := by simp [putW, List.range_succ, List.foldl_append]
theorem putW_srt {l : List (List Int)} {w : List Int} (h : SrtS l) : ∀ k, SrtS (putW l w k)
 | 0 => by simpa [putW] using h
 | k + 1 => by rw [putW_succ]; exact putS_srt (putW_srt h k)
theorem mem_putW {l : List (List Int)} {w x : List Int} : ∀ {k : Nat}, x ∈ putW l w k ↔ x ∈ l ∨ ∃ j, 1 ≤ j ∧ j ≤ k ∧ x = w.take j
 | 0 => by simp [putW]; omega
 | k + 1 => by
  rw [putW_succ, mem_putS, mem_putW (k := k)]
  constructor
  ·
   rintro (h | h | ⟨j, h1, h2, h3⟩)
   · exact .inr ⟨k + 1, by omega, by omega, h⟩
   · exact .inl h
   · exact .inr ⟨j, h1, by omega, h3⟩
  ·
   rintro (h | ⟨j, h1, h2, h3⟩)
   · exact .inr (.inl h)
   ·
    by_cases e : j = k + 1
    · subst e; exact .inl h3
    · exact .inr (.inr ⟨j, h1, by omega, h3⟩)
/-- The beginnings of words, in order. -/
def nodesL (wss : List (List Int)) : List (List Int) := wss.foldl (fun l w => putW l w w.length) [[]]
theorem nodesL_snoc (wss : List (List Int)) (w : List Int) : nodesL (wss ++ [w]) = putW (nodesL wss) w w.length := by simp [nodesL, List.foldl_append]
theorem nodesL_srt (wss : List (List Int)) : SrtS (nodesL wss) := by
 refine snoc_ind (P := fun wss => SrtS (nodesL wss)) (by simp [nodesL]) (fun l x ih => ?_) wss
 rw [nodesL_snoc]; exact putW_srt ih _
theorem mem_nodesL {x : List Int} (wss : List (List Int)) : x ∈ nodesL wss ↔ IsBeg wss x := by
 refine snoc_ind (P := fun wss => x ∈ nodesL wss ↔ IsBeg wss x) (by simp [nodesL, IsBeg]) (fun l w ih => ?_) wss
 rw [nodesL_snoc, mem_putW, ih]
 unfold IsBeg
 constructor
 ·
  rintro ((h | ⟨v, hv, r⟩) | ⟨j, h1, h2, h3⟩)
  · exact .inl h
  · exact .inr ⟨v, by simp [hv], r⟩
  · exact .inr ⟨w, by simp, j, h1, h2, h3⟩
 ·
  rintro (h | ⟨v, hv, r⟩)
  · exact .inl (.inl h)
  ·
   rcases List.mem_append.1 hv with hv | hv
   · exact .inl (.inr ⟨v, hv, r⟩)
   · simp at hv; subst hv; exact .inr r
theorem nodesL_unique {wss l : List (List Int)} (h1 : SrtS l) (h2 : ∀ x, x ∈ l ↔ IsBeg wss x) : l = nodesL wss := srtS_unique h1 (nodesL_srt wss) fun x => (h2 x).trans (mem_nodesL wss).symm
theorem nodesL_ne (wss : List (List Int)) : nodesL wss ≠ [] := fun e => by
 have := (mem_nodesL (x := []) wss).2 (.inl rfl)
 rw [e] at this; cases this
theorem nodesL_head (wss : List (List Int)) : (nodesL wss)[0]? = some [] := by
 have h1 := nodesL_srt wss
 have h2 := (mem_nodesL (x := []) wss).2 (.inl rfl)
 revert h1 h2
 cases nodesL wss with
 | nil => intro _ h; cases h
 | cons a l =>
  intro h1 h2
  rw [SrtS, List.pairwise_cons] at h1
  rcases List.mem_cons.1 h2 with e | h
  · simp [e]
  ·
   have := ltS_len (h1.1 _ h)
   simp at this
   simp [this]

/-- Where a text stands in a list; -1: nowhere. -/
def placeS (l : List (List Int)) (b : List Int) : Int := if b ∈ l then (l.idxOf b : Int) else -1
theorem placeS_at {l : List (List Int)} (hn : l.Nodup) {i : Nat} {b : List Int} (h : l[i]? = some b) : placeS l b = i := by
 have hi := (List.getElem?_eq_some_iff.1 h).1
 unfold placeS
 rw [if_pos (List.mem_of_getElem? h)]
 have := List.Nodup.idxOf_getElem hn i hi
 rw [(List.getElem?_eq_some_iff.1 h).2] at this
 rw [this]
theorem placeS_no {l : List (List Int)} {b : List Int} (h : b ∉ l) : placeS l b = -1 := by unfold placeS; rw [if_neg h]
def lastB (x : List Int) : Int := (x.getLast?).getD 0
structure TrieT where
 up : List Int
 dep : List Int
 wrd : List Int
 byt : List Int
/-- The trie of words. -/
def trieP (wss : List (List Int)) : TrieT :=
 ⟨(nodesL wss).map fun x => placeS (nodesL wss) x.dropLast, (nodesL wss).map fun x => (x.length : Int), (nodesL wss).map fun x => placeS wss x, (nodesL wss).map lastB⟩

end Go.Proofs.YtglfdclpjmhoiaaGreat
