/- Parts of the proof, one behind the other: D3, Ep, Eq, D4, D5, D6, D7, Er, Op, O1, T0, O2, O3. No condition but what each theorem states. -/
import Derived.Deep.AppendLies
import Derived.Deep.DrawnRows
import Derived.Deep.RegionHeld3
import Derived.Deep.RegionLaw
import Derived.Lib.SmallJoins
import Derived.Shelf.Abstract
import Derived.Maps.AppendAt
import Derived.Lib.SlBytesConst
import Derived.Deep.CutBlock
import Derived.Deep.DeepCutAuto
import Derived.BigRegion
import Derived.IntWalk
import Derived.Lib.MinMax
import Derived.Test.YtbiinfnekhhfkaaGreatZS1
import Derived.Test.YtbiinfnekhhfkaaGreatZS2

/- How many nodes words have, by the document (layer 5): walked. -/

namespace Go.Proofs.YtbiinfnekhhfkaaGreat
open Go.RowKit Go.Sort
set_option linter.unusedVariables false

def oldR (fold : Bool) (pre : List (List Int)) (x : List Int) : Int := pre.foldl (fun m y => max m (commonL (foldL fold x) (foldL fold y) : Int)) 0
def nodesG (fold : Bool) : List (List Int) → List (List Int) → Int → Int
  | _, [], n => n
  | pre, x :: rest, n => nodesG fold (pre ++ [x]) rest (n + x.length - oldR fold pre x)
def nodesR (fold : Bool) (wss : List (List Int)) : Int := nodesG fold [] wss 1
theorem oldR_snoc (fold : Bool) (pre : List (List Int)) (x y : List Int) : oldR fold (pre ++ [y]) x = max (oldR fold pre x) (commonL (foldL fold x) (foldL fold y) : Int) := by simp [oldR, List.foldl_append]
theorem nodesG_snoc (fold : Bool) : ∀ (rest pre : List (List Int)) (x : List Int) (n : Int), nodesG fold pre (rest ++ [x]) n = nodesG fold pre rest n + x.length - oldR fold (pre ++ rest) x
  | [], pre, x, n => by simp [nodesG]
  | y :: rest, pre, x, n => by
    rw [List.cons_append, nodesG, nodesG, nodesG_snoc fold rest (pre ++ [y]) x]
    simp
theorem nodesR_snoc (fold : Bool) (l : List (List Int)) (x : List Int) : nodesR fold (l ++ [x]) = nodesR fold l + x.length - oldR fold l x := by
  unfold nodesR
  rw [nodesG_snoc, List.nil_append]
theorem commonL_le : ∀ (xs ys : List Int), commonL xs ys ≤ xs.length
  | [], _ => by simp [commonL]
  | _ :: _, [] => by simp [commonL]
  | x :: xs, y :: ys => by
    have := commonL_le xs ys
    unfold commonL
    split <;> simp <;> omega
theorem oldR_bd (fold : Bool) (x : List Int) (pre : List (List Int)) : 0 ≤ oldR fold pre x ∧ oldR fold pre x ≤ x.length := by
  obtain ⟨n, hn⟩ : ∃ n, pre.length = n := ⟨_, rfl⟩
  induction n generalizing pre with
  | zero => obtain rfl := List.eq_nil_of_length_eq_zero hn; simp [oldR]
  | succ n ih =>
    obtain ⟨l', y, rfl⟩ : ∃ l' y, pre = l' ++ [y] := ⟨pre.dropLast, pre.getLast (by intro h; simp [h] at hn), (List.dropLast_concat_getLast _).symm⟩
    have h1 := ih l' (by simpa using hn)
    have h2 := commonL_le (foldL fold x) (foldL fold y)
    rw [foldL_length] at h2
    rw [oldR_snoc]
    omega
theorem nodesR_bd {fold : Bool} {M : Nat} (l : List (List Int)) (h : ∀ x ∈ l, x.length ≤ M) : 1 ≤ nodesR fold l ∧ nodesR fold l ≤ 1 + l.length * (M : Int) := by
  obtain ⟨n, hn⟩ : ∃ n, l.length = n := ⟨_, rfl⟩
  induction n generalizing l with
  | zero => obtain rfl := List.eq_nil_of_length_eq_zero hn; simp [nodesR, nodesG]
  | succ n ih =>
    obtain ⟨l', x, rfl⟩ : ∃ l' x, l = l' ++ [x] := ⟨l.dropLast, l.getLast (by intro h; simp [h] at hn), (List.dropLast_concat_getLast _).symm⟩
    have h1 := ih l' (fun y hy => h y (by simp [hy])) (by simpa using hn)
    have h2 := oldR_bd fold x l'
    have hx := h x (by simp)
    rw [nodesR_snoc]
    have e : ((l' ++ [x]).length : Int) * (M : Int) = l'.length * (M : Int) + M := by
      rw [List.length_append, List.length_cons, List.length_nil, Int.natCast_add, Int.add_mul]; simp
    rw [e]
    omega

theorem text_c (fold : Bool) (a : Option Addr) (la ca : Nat) (xs : List Int) (w : World) (hA : Bys w a la xs) (hla : la ≤ 1000000) :
    Calls Tryz.prog 111 #[.bool fold, .slice a la ca] w fun e w' => ∃ a1 c1, e = .returned (.slice a1 la c1) ∧ Bys w' a1 la (foldL fold xs) ∧ Below w.heap.size w w' :=
  (text_any fold a la ca xs w hA hla).mono fun e w' ⟨v, he, hown, hb⟩ => by
    obtain ⟨a1, c1, rfl, _, h⟩ := own_bys hown (foldL_bd hA.2)
    exact ⟨a1, c1, he, h, hb⟩

set_option maxRecDepth 100000 in
set_option maxHeartbeats 4000000 in
theorem rnodes_any (fold : Bool) (a : Option Addr) (la ca : Nat) (wss : List (List Int)) (w : World) (hA : Wds w a la wss) (hla : la ≤ 1000000) (hM : ∀ x ∈ wss, x.length ≤ 1000000) :
    Calls Tryz.prog 142 #[.bool fold, .slice a la ca] w fun e w' => e = .returned (.int .i64 (nodesR fold wss)) ∧ Below w.heap.size w w' := by
  have HL := Lib.hid hA.len
  have HM := Lib.hid hM
  have HA := Lib.hid hA
  clear hA hM
  go_enter Tryz.func142, Tryz.ntmps142
  go_wp2
  go_loopw [5, 6] (fun s i wr => ∃ (k : Nat) (n : Int), k ≤ la ∧ i = .int .i64 k ∧ s = .int .i64 n ∧ Hid (n = nodesR fold (wss.take k)) ∧ Below w.heap.size w wr) (fun _ i _ => la - (intOf i).toNat)
  case atStart => exact ⟨0, 1, Nat.zero_le _, rfl, rfl, by simp [Hid, nodesR, nodesG], Below.refl _ _⟩
  case round =>
    obtain ⟨k, n, hk, rfl, rfl, HN, hBe⟩ := hrel
    by_cases hlt : k < la
    · obtain ⟨bb, off, a', l, c, x, rfl, hbl, hcell0, hx, hX, hlc⟩ := HA.out.at_ hlt
      have hxl : l ≤ 1000000 := by have := mem_bd HM.out hx; rw [hX.len] at this; exact this
      have HX := Lib.hid hx
      have HXX := Lib.hid hX
      have hcell : ∀ v : World, Below w.heap.size w v → v.cell? ⟨bb, off + k, none⟩ = some (.slice a' l c) := fun v hv => (hv.cell (p := ⟨bb, off + k, none⟩) hbl).trans hcell0
      have HCL := Lib.hid hcell
      clear hx hX hcell hcell0
      go_wp2
      go_loopw [7, 8] (fun o i wr => ∃ (j : Nat) (m : Int), j ≤ k ∧ i = .int .i64 j ∧ o = .int .i64 m ∧ Hid (m = oldR fold (wss.take j) x) ∧ Below w.heap.size w wr) (fun _ i _ => k - (intOf i).toNat)
      case atStart => exact ⟨0, 0, Nat.zero_le _, rfl, rfl, by simp [Hid, oldR], hBe⟩
      case round =>
        clear hBe
        obtain ⟨j, m, hj, rfl, rfl, HO, hBe⟩ := hrel
        by_cases hjk : j < k
        · obtain ⟨b2, off2, a2, l2, c2, y, e2, hbl2, hcell2, hy, hY, hlc2⟩ := HA.out.at_ (show j < la by omega)
          simp only [Option.some.injEq, Addr.mk.injEq, and_true] at e2
          obtain ⟨rfl, rfl⟩ := e2
          have hyl : l2 ≤ 1000000 := by have := mem_bd HM.out hy; rw [hY.len] at this; exact this
          have HCL2 : Hid (∀ v : World, Below w.heap.size w v → v.cell? ⟨bb, off + j, none⟩ = some (.slice a2 l2 c2)) := fun v hv => (hv.cell (p := ⟨bb, off + j, none⟩) hbl2).trans hcell2
          have HS : Hid (max m (commonL (foldL fold x) (foldL fold y) : Int) = oldR fold (wss.take (j + 1)) x) := by
            rw [Hid, HO.out, take_step (show wss[j]? = some y from hy), oldR_snoc]
          have HYY := Lib.hid hY
          clear hcell2 hy hY
          have hXd : Bys wr.drew a' l x := HXX.out.below (hBe.trans ⟨rfl, rfl, rfl, Nat.le_refl _, fun _ _ => rfl⟩)
          have hBd : Below w.heap.size w wr.drew := hBe.trans ⟨rfl, rfl, rfl, Nat.le_refl _, fun _ _ => rfl⟩
          have k1 := HCL.out wr hBe
          have k2 := HCL2.out wr hBe
          have i1 : (0 : Int) ≤ (j : Int) := by omega
          have i2 : (j : Int) < (la : Int) := by omega
          have i3 : (0 : Int) ≤ (k : Int) := by omega
          have i4 : (k : Int) < (la : Int) := by omega
          go_wp2
          go_region_held3 (fun w' => w'.cell? ⟨bb, off + k, none⟩ = some (.slice a' l c) ∧ w'.cell? ⟨bb, off + j, none⟩ = some (.slice a2 l2 c2)) (go_keep) (first
            | (go_at_call 111; refine (text_c fold a' l c x wr.drew hXd hxl).mono ?_; rintro e w1 ⟨a1, c1, rfl, h12, hb1⟩
               have hBe1 : Below w.heap.size w w1 := hBd.trans (hb1.mono hBd.size)
               have d1 := HCL.out w1 hBe1
               have d2 := HCL2.out w1 hBe1
               have hY1 := HYY.out.below hBe1
               clear hXd)
            | (go_at_call 111; refine (text_c fold a2 l2 c2 y w1 hY1 hyl).mono ?_; rintro e w2 ⟨a3, c3, rfl, h22, hb2⟩
               have hBe2 : Below w.heap.size w w2 := hBe1.trans (hb2.mono hBe1.size)
               have d3 := HCL.out w2 hBe2
               have d4 := HCL2.out w2 hBe2
               have h12b := h12.below hb2
               clear hY1)
            | (go_at_call 162; refine (common_any a1 a3 l c1 l2 c3 _ _ w2 h12b h22 hxl hyl).mono ?_; rintro e w3 ⟨rfl, hb3⟩
               have hBe3 : Below w.heap.size w w3 := hBe2.trans (hb3.mono hBe2.size)
               have d5 := HCL.out w3 hBe3
               have d6 := HCL2.out w3 hBe3))
          all_goals
            go_wp2
            go_roundw
            case rel => exact ⟨j + 1, _, by omega, by go_num, rfl, HS, hBe3⟩
            case measure => simp [intOf]; omega
        · obtain rfl : j = k := by omega
          have hob := oldR_bd fold x (wss.take j)
          have hnb := nodesR_bd (fold := fold) (M := 1000000) (wss.take j) (fun y hy => HM.out y (List.mem_of_mem_take hy))
          rw [← HO.out, HXX.out.len] at hob
          rw [← HN.out, List.length_take] at hnb
          have hnb2 : n ≤ 1 + 1000000 * 1000000 := by omega
          have HS : Hid (n + (l : Int) - m = nodesR fold (wss.take (j + 1))) := by rw [Hid, take_step HX.out, nodesR_snoc, HXX.out.len, ← HN.out, ← HO.out]
          have k1 := HCL.out wr hBe
          have hn1 := hnb.1
          clear hnb
          go_wp2
          go_roundw
          case rel => exact ⟨j + 1, _, by omega, by go_num, rfl, HS, hBe⟩
          case measure => simp [intOf]; omega
    · obtain rfl : k = la := by omega
      have HF : Hid (n = nodesR fold wss) := by
        have h := HN.out
        rwa [List.take_of_length_le (by have := HL.out; omega)] at h
      go_wp2
      go_ret
      exact ⟨by rw [← HF.out]; rfl, hBe⟩

end Go.Proofs.YtbiinfnekhhfkaaGreat

/- The code's way to count nodes tells what the document's does: paths. -/

namespace Go.Proofs.YtbiinfnekhhfkaaGreat
set_option linter.unusedVariables false

/-- The paths that there are, and the one at which one is. -/
def pstep (s : List (List Int) × List Int) (p : Bool × Int) : List (List Int) × List Int :=
  let q := (if p.1 then [] else s.2) ++ [p.2]
  (if q ∈ s.1 then s.1 else s.1 ++ [q], q)
def prun (l : List (Bool × Int)) : List (List Int) × List Int := l.foldl pstep ([[]], [])
theorem prun_snoc (l : List (Bool × Int)) (p : Bool × Int) : prun (l ++ [p]) = pstep (prun l) p := by simp [prun, List.foldl_append]

structure Rep (s : NSt) (ps : List (List Int)) (p : List Int) : Prop where
  many : s.many = ps.length
  nodup : ps.Nodup
  root : ps[0]? = some []
  closed : ∀ (q : List Int) (c : Int), q ++ [c] ∈ ps → q ∈ ps
  at_ : ∃ n : Nat, s.node = n ∧ ps[n]? = some p
  down : ∀ (i c m : Int), s.f (i, c) = some m → ∃ (a b : Nat) (q : List Int), i = a ∧ m = b ∧ ps[a]? = some q ∧ ps[b]? = some (q ++ [c])
  up : ∀ (a b : Nat) (q : List Int) (c : Int), ps[a]? = some q → ps[b]? = some (q ++ [c]) → s.f ((a : Int), c) = some (b : Int)

theorem nodup_at {ps : List (List Int)} (h : ps.Nodup) {a b : Nat} {q : List Int} (ha : ps[a]? = some q) (hb : ps[b]? = some q) : a = b := by
  have h1 := (List.getElem?_eq_some_iff.1 ha)
  have h2 := (List.getElem?_eq_some_iff.1 hb)
  obtain ⟨l1, e1⟩ := h1
  obtain ⟨l2, e2⟩ := h2
  exact (List.getElem_inj h).1 (e1.trans e2.symm)

theorem rep_step {s : NSt} {ps : List (List Int)} {p : List Int} (h : Rep s ps p) (x : Bool × Int) : Rep (nstep s x) (pstep (ps, p) x).1 (pstep (ps, p) x).2 := by
  obtain ⟨n0, hn0, hp0⟩ := h.at_
  obtain ⟨n, r, hn, hr, hq⟩ : ∃ (n : Nat) (r : List Int), (if x.1 then 0 else s.node) = (n : Int) ∧ ps[n]? = some r ∧ (if x.1 then [] else p) = r := by
    cases x.1 with
    | true => exact ⟨0, [], rfl, h.root, rfl⟩
    | false => exact ⟨n0, p, hn0, hp0, rfl⟩
  have hps : pstep (ps, p) x = (if r ++ [x.2] ∈ ps then ps else ps ++ [r ++ [x.2]], r ++ [x.2]) := by
    unfold pstep
    simp only [hq]
  rw [hps]
  by_cases hm : r ++ [x.2] ∈ ps
  · obtain ⟨b, hb⟩ := List.getElem?_of_mem hm
    have hf := h.up n b r x.2 hr hb
    have hs : nstep s x = { s with node := (b : Int) } := nstep_found (by rw [hn]; exact hf)
    rw [hs, if_pos hm]
    exact ⟨h.many, h.nodup, h.root, h.closed, ⟨b, rfl, hb⟩, h.down, h.up⟩
  · have hf : s.f ((n : Int), x.2) = none := by
      cases e : s.f ((n : Int), x.2) with
      | none => rfl
      | some m =>
        obtain ⟨a, b, q, h1, h2, h3, h4⟩ := h.down _ _ _ e
        have : n = a := by omega
        subst this
        rw [hr] at h3
        obtain rfl := Option.some.inj h3
        exact absurd (List.mem_of_getElem? h4) hm
    have hs := nstep_new (s := s) (p := x) (by rw [hn]; exact hf)
    rw [hs, if_neg hm, hn]
    have hlt : ∀ {i : Nat} {q : List Int}, ps[i]? = some q → (ps ++ [r ++ [x.2]])[i]? = some q := by
      intro i q hi
      rw [List.getElem?_append_left (List.getElem?_eq_some_iff.1 hi).1, hi]
    have hlast : (ps ++ [r ++ [x.2]])[ps.length]? = some (r ++ [x.2]) := by simp
    refine ⟨?_, ?_, hlt h.root, ?_, ⟨ps.length, h.many, hlast⟩, ?_, ?_⟩
    · simp [h.many]
    · rw [List.nodup_append]
      refine ⟨h.nodup, by simp, ?_⟩
      intro a ha b hb
      simp at hb
      rw [hb]
      exact fun e => hm (e ▸ ha)
    · intro q c hq
      rcases List.mem_append.1 hq with hq | hq
      · exact List.mem_append_left _ (h.closed q c hq)
      · simp at hq
        rw [hq.1]
        exact List.mem_append_left _ (List.mem_of_getElem? hr)
    · intro i c m hi
      dsimp only at hi
      by_cases e : (i, c) = ((n : Int), x.2)
      · rw [if_pos e] at hi
        simp only [Prod.mk.injEq] at e
        obtain ⟨rfl, rfl⟩ := e
        refine ⟨n, ps.length, r, rfl, ?_, hlt hr, hlast⟩
        rw [← Option.some.inj hi, h.many]
      · rw [if_neg e] at hi
        obtain ⟨a, b, q, h1, h2, h3, h4⟩ := h.down i c m hi
        exact ⟨a, b, q, h1, h2, hlt h3, hlt h4⟩
    · intro a b q c ha hb
      dsimp only
      rw [List.getElem?_append] at ha hb
      by_cases hbl : b < ps.length
      · rw [if_pos hbl] at hb
        by_cases hal : a < ps.length
        · rw [if_pos hal] at ha
          rw [if_neg]
          · exact h.up a b q c ha hb
          · intro e
            simp only [Prod.mk.injEq] at e
            obtain ⟨e1, rfl⟩ := e
            have : a = n := by omega
            subst this
            rw [hr] at ha
            obtain rfl := Option.some.inj ha
            exact hm (List.mem_of_getElem? hb)
        · exfalso
          rw [if_neg hal] at ha
          have h0 : a - ps.length = 0 := by have := (List.getElem?_eq_some_iff.1 ha).1; simp at this; omega
          rw [h0] at ha
          simp at ha
          subst ha
          exact hm (h.closed _ _ (List.mem_of_getElem? hb))
      · rw [if_neg hbl] at hb
        have h0 : b - ps.length = 0 := by have := (List.getElem?_eq_some_iff.1 hb).1; simp at this; omega
        rw [h0] at hb
        simp at hb
        obtain ⟨h1, h2⟩ := hb
        subst h1 h2
        by_cases hal : a < ps.length
        · rw [if_pos hal] at ha
          have := nodup_at h.nodup ha hr
          subst this
          rw [if_pos rfl, h.many, show b = ps.length by omega]
        · exfalso
          rw [if_neg hal] at ha
          have h0 : a - ps.length = 0 := by have := (List.getElem?_eq_some_iff.1 ha).1; simp at this; omega
          rw [h0] at ha
          simp at ha

end Go.Proofs.YtbiinfnekhhfkaaGreat

/- The code's count of nodes is the document's (layer 5). -/

namespace Go.Proofs.YtbiinfnekhhfkaaGreat
set_option linter.unusedVariables false

theorem rep_run (l : List (Bool × Int)) : Rep (nrun l) (prun l).1 (prun l).2 := by
  obtain ⟨n, hn⟩ : ∃ n, l.length = n := ⟨_, rfl⟩
  induction n generalizing l with
  | zero =>
    obtain rfl := List.eq_nil_of_length_eq_zero hn
    refine ⟨rfl, by simp [prun], rfl, ?_, ⟨0, rfl, rfl⟩, fun i c m h => by simp [nrun] at h, ?_⟩
    · intro q c h
      simp [prun] at h
    · intro a b q c ha hb
      have := List.mem_of_getElem? hb
      simp [prun] at this
  | succ n ih =>
    obtain ⟨l', x, rfl⟩ : ∃ l' x, l = l' ++ [x] := ⟨l.dropLast, l.getLast (by intro h; simp [h] at hn), (List.dropLast_concat_getLast _).symm⟩
    rw [nrun_snoc, prun_snoc]
    exact rep_step (ih l' (by simpa using hn)) x

/-- Which paths there are: the beginnings of the words. -/
def Begs (fold : Bool) (wss : List (List Int)) (q : List Int) : Prop := q = [] ∨ ∃ w ∈ wss, q <+: foldL fold w

theorem common_prefix : ∀ {j : Nat} {ys zs : List Int}, j ≤ ys.length → (ys.take j <+: zs ↔ j ≤ commonL ys zs)
  | 0, ys, zs, _ => by simp
  | j + 1, [], zs, h => by simp at h
  | j + 1, y :: ys, [], h => by simp [commonL]
  | j + 1, y :: ys, z :: zs, h => by
    have ih := common_prefix (j := j) (ys := ys) (zs := zs) (by simpa using h)
    rw [List.take_succ_cons, List.cons_prefix_cons]
    unfold commonL
    by_cases e : y = z
    · simp [e, ih]
    · simp [e]
theorem oldR_le (fold : Bool) (x : List Int) {j : Nat} (hj : 1 ≤ j) (pre : List (List Int)) : (j : Int) ≤ oldR fold pre x ↔ ∃ w ∈ pre, j ≤ commonL (foldL fold x) (foldL fold w) := by
  obtain ⟨n, hn⟩ : ∃ n, pre.length = n := ⟨_, rfl⟩
  induction n generalizing pre with
  | zero => obtain rfl := List.eq_nil_of_length_eq_zero hn; simp [oldR]; omega
  | succ n ih =>
    obtain ⟨l', y, rfl⟩ : ∃ l' y, pre = l' ++ [y] := ⟨pre.dropLast, pre.getLast (by intro h; simp [h] at hn), (List.dropLast_concat_getLast _).symm⟩
    have h1 := ih l' (by simpa using hn)
    rw [oldR_snoc]
    constructor
    · intro h
      by_cases h2 : (j : Int) ≤ oldR fold l' x
      · obtain ⟨w, hw, hc⟩ := h1.1 h2
        exact ⟨w, by simp [hw], hc⟩
      · exact ⟨y, by simp, by omega⟩
    · rintro ⟨w, hw, hc⟩
      rcases List.mem_append.1 hw with hw | hw
      · have := h1.2 ⟨w, hw, hc⟩
        omega
      · simp at hw
        subst hw
        omega

theorem pstep_def (s : List (List Int) × List Int) (p : Bool × Int) : pstep s p = (if ((if p.1 = true then [] else s.2) ++ [p.2]) ∈ s.1 then s.1 else s.1 ++ [(if p.1 = true then [] else s.2) ++ [p.2]], (if p.1 = true then [] else s.2) ++ [p.2]) := rfl
/-- The paths behind i bytes of a word. -/
theorem word_run (ys : List Int) (old : Nat) (ps : List (List Int)) (p : List Int) (hold : ∀ j, 1 ≤ j → j ≤ ys.length → (ys.take j ∈ ps ↔ j ≤ old)) :
    ∀ i, i ≤ ys.length → ∃ qs, (((begW ys).take i).foldl pstep (ps, p)).1 = qs ∧ qs.length = ps.length + (i - min i old) ∧ (1 ≤ i → (((begW ys).take i).foldl pstep (ps, p)).2 = ys.take i) ∧
      ∀ q, q ∈ qs ↔ q ∈ ps ∨ ∃ j, 1 ≤ j ∧ j ≤ i ∧ q = ys.take j
  | 0, _ => ⟨ps, by simp, by simp, by simp, fun q => by simp; intro j h1 h2; omega⟩
  | i + 1, hi => by
    obtain ⟨qs, h1, h2, h3, h4⟩ := word_run ys old ps p hold i (by omega)
    obtain ⟨c, hc⟩ : ∃ c, ys[i]? = some c := ⟨ys[i]'(by omega), by simp⟩
    have hb := begW_at hc
    rw [take_step hb, List.foldl_append, List.foldl_cons, List.foldl_nil]
    have hq : (if ((i : Int) == 0) = true then [] else (((begW ys).take i).foldl pstep (ps, p)).2) ++ [c] = ys.take (i + 1) := by
      rw [take_step hc]
      by_cases h0 : i = 0
      · subst h0; simp
      · have hne : ((i : Int) == 0) = false := by simp; omega
        rw [hne, h3 (by omega)]
        simp
    have hstep : pstep (((begW ys).take i).foldl pstep (ps, p)) (((i : Int) == 0), c) = (if ys.take (i + 1) ∈ qs then qs else qs ++ [ys.take (i + 1)], ys.take (i + 1)) := by
      rw [pstep_def]
      dsimp only
      rw [hq, h1]
    rw [hstep]
    have hmem : ys.take (i + 1) ∈ qs ↔ i + 1 ≤ old := by
      rw [h4, hold (i + 1) (by omega) hi]
      constructor
      · rintro (h | ⟨j, hj1, hj2, e⟩)
        · exact h
        · have := congrArg List.length e
          simp at this
          omega
      · exact fun h => .inl h
    by_cases hm : ys.take (i + 1) ∈ qs
    · have ho := hmem.1 hm
      refine ⟨qs, by simp [hm], by rw [h2]; omega, fun _ => rfl, fun q => ?_⟩
      rw [h4]
      constructor
      · rintro (h | ⟨j, hj1, hj2, e⟩)
        · exact .inl h
        · exact .inr ⟨j, hj1, by omega, e⟩
      · rintro (h | ⟨j, hj1, hj2, e⟩)
        · exact .inl h
        · by_cases hj : j = i + 1
          · subst hj; rw [e]; exact .inl ((hold _ hj1 hi).2 ho)
          · exact .inr ⟨j, hj1, by omega, e⟩
    · have ho : ¬ i + 1 ≤ old := fun h => hm (hmem.2 h)
      refine ⟨qs ++ [ys.take (i + 1)], by simp [hm], by rw [List.length_append, h2]; simp; omega, fun _ => rfl, fun q => ?_⟩
      rw [List.mem_append, h4]
      constructor
      · rintro ((h | ⟨j, hj1, hj2, e⟩) | h)
        · exact .inl h
        · exact .inr ⟨j, hj1, by omega, e⟩
        · exact .inr ⟨i + 1, by omega, by omega, by simpa using h⟩
      · rintro (h | ⟨j, hj1, hj2, e⟩)
        · exact .inl (.inl h)
        · by_cases hj : j = i + 1
          · subst hj; exact .inr (by simp [e])
          · exact .inl (.inr ⟨j, hj1, by omega, e⟩)

theorem count_eq (fold : Bool) (wss : List (List Int)) : ((prun (begL fold wss)).1.length : Int) = nodesR fold wss ∧ ∀ q, q ∈ (prun (begL fold wss)).1 ↔ Begs fold wss q := by
  obtain ⟨n, hn⟩ : ∃ n, wss.length = n := ⟨_, rfl⟩
  induction n generalizing wss with
  | zero =>
    obtain rfl := List.eq_nil_of_length_eq_zero hn
    refine ⟨rfl, fun q => ?_⟩
    simp [begL, prun, Begs]
  | succ n ih =>
    obtain ⟨l', x, rfl⟩ : ∃ l' x, wss = l' ++ [x] := ⟨wss.dropLast, wss.getLast (by intro h; simp [h] at hn), (List.dropLast_concat_getLast _).symm⟩
    obtain ⟨h1, h2⟩ := ih l' (by simpa using hn)
    have hbd := oldR_bd fold x l'
    have hold : ∀ j, 1 ≤ j → j ≤ (foldL fold x).length → ((foldL fold x).take j ∈ (prun (begL fold l')).1 ↔ j ≤ (oldR fold l' x).toNat) := by
      intro j hj1 hj2
      rw [h2]
      have e1 : j ≤ (oldR fold l' x).toNat ↔ (j : Int) ≤ oldR fold l' x := by omega
      rw [e1, oldR_le fold x hj1]
      constructor
      · rintro (h | ⟨w, hw, h⟩)
        · have := congrArg List.length h
          rw [List.length_take, List.length_nil] at this
          omega
        · exact ⟨w, hw, (common_prefix hj2).1 h⟩
      · rintro ⟨w, hw, h⟩
        exact .inr ⟨w, hw, (common_prefix hj2).2 h⟩
    obtain ⟨qs, g1, g2, g3, g4⟩ := word_run (foldL fold x) (oldR fold l' x).toNat (prun (begL fold l')).1 (prun (begL fold l')).2 hold (foldL fold x).length (Nat.le_refl _)
    have hrun : prun (begL fold (l' ++ [x])) = ((begW (foldL fold x)).take (foldL fold x).length).foldl pstep ((prun (begL fold l')).1, (prun (begL fold l')).2) := by
      rw [begL_snoc, List.take_of_length_le (by rw [begW_length]; exact Nat.le_refl _)]
      unfold prun
      rw [List.foldl_append]
    rw [hrun, g1]
    refine ⟨?_, fun q => ?_⟩
    · rw [nodesR_snoc, g2, foldL_length, ← h1]
      omega
    · rw [g4, h2]
      unfold Begs
      constructor
      · rintro ((h | ⟨w, hw, h⟩) | ⟨j, hj1, hj2, rfl⟩)
        · exact .inl h
        · exact .inr ⟨w, by simp [hw], h⟩
        · exact .inr ⟨x, by simp, List.take_prefix _ _⟩
      · rintro (h | ⟨w, hw, h⟩)
        · exact .inl (.inl h)
        · rcases List.mem_append.1 hw with hw | hw
          · exact .inl (.inr ⟨w, hw, h⟩)
          · simp at hw
            subst hw
            by_cases h0 : q = []
            · exact .inl (.inl h0)
            · refine .inr ⟨q.length, ?_, h.length_le, List.prefix_iff_eq_take.1 h⟩
              exact List.length_pos_iff.2 h0

theorem nodes_eq (fold : Bool) (wss : List (List Int)) : (nrun (begL fold wss)).many = nodesR fold wss := by
  rw [(rep_run (begL fold wss)).many, (count_eq fold wss).1]

end Go.Proofs.YtbiinfnekhhfkaaGreat

/- Which error a list of words has, by the document (layer 5): walked. -/

namespace Go.Proofs.YtbiinfnekhhfkaaGreat
open Go.RowKit Go.Sort
set_option linter.unusedVariables false

def bsum (wss : List (List Int)) : Int := (wss.map fun w => (w.length : Int)).sum
theorem bsum_snoc (l : List (List Int)) (x : List Int) : bsum (l ++ [x]) = bsum l + x.length := by simp [bsum]
theorem bsum_bd : ∀ (l : List (List Int)), (∀ x ∈ l, x.length ≤ 1000000) → 0 ≤ bsum l ∧ bsum l ≤ l.length * 1000000
  | [], _ => by simp [bsum]
  | x :: l, h => by
    have h1 := bsum_bd l (fun y hy => h y (by simp [hy]))
    have h2 := h x (by simp)
    simp only [bsum, List.map_cons, List.sum_cons, List.length_cons] at h1 ⊢
    omega
def checkR (fold : Bool) (wss : List (List Int)) : Int :=
  if wss.length = 0 then 50 else if wss.length > 64 then 51 else if (∃ x ∈ wss, x.length = 0) then 52 else if (∃ x ∈ wss, x.length > 32) then 53 else if bsum wss > 600 then 54 else if nodesR fold wss > 400 then 55 else 0

set_option maxHeartbeats 4000000 in
theorem rcheck_any (fold : Bool) (a : Option Addr) (la ca : Nat) (wss : List (List Int)) (w : World) (hA : Wds w a la wss) (hla : la ≤ 1000000) (hM : ∀ x ∈ wss, x.length ≤ 1000000) :
    Calls Tryz.prog 109 #[.bool fold, .slice a la ca] w fun e w' => e = .returned (.int .i64 (checkR fold wss)) ∧ Below w.heap.size w w' := by
  have HL := Lib.hid hA.len
  have HM := Lib.hid hM
  obtain ⟨G, hG⟩ : ∃ G, checkR fold wss = G := ⟨_, rfl⟩
  have HG : Hid (checkR fold wss = G) := hG
  rw [hG]
  clear hG hM
  by_cases h0 : la = 0
  · have HE : Hid (G = 50) := by rw [Hid, ← HG.out, checkR, if_pos (by rw [HL.out, h0])]
    go_enter Tryz.func109, Tryz.ntmps109
    go_wp2
    go_ret
    exact ⟨by rw [HE.out]; rfl, Below.refl _ _⟩
  · by_cases h64 : 64 < la
    · have HE : Hid (G = 51) := by rw [Hid, ← HG.out, checkR, if_neg (by rw [HL.out]; exact h0), if_pos (by rw [HL.out]; exact h64)]
      go_enter Tryz.func109, Tryz.ntmps109
      go_wp2
      go_ret
      exact ⟨by rw [HE.out]; rfl, Below.refl _ _⟩
    · have HG2 : Hid (G = if (∃ x ∈ wss, x.length = 0) then 52 else if (∃ x ∈ wss, x.length > 32) then 53 else if bsum wss > 600 then 54 else if nodesR fold wss > 400 then 55 else 0) := by
        rw [Hid, ← HG.out, checkR, if_neg (by rw [HL.out]; exact h0), if_neg (by rw [HL.out]; exact h64)]
      go_enter Tryz.func109, Tryz.ntmps109
      go_wp2
      go_loop [6] (fun i => ∃ k : Nat, k ≤ la ∧ i = .int .i64 k ∧ Hid (∀ x ∈ wss.take k, x.length ≠ 0)) (fun i => la - (intOf i).toNat)
      case atStart => exact ⟨0, Nat.zero_le _, rfl, fun x hx => by simp at hx⟩
      case round =>
        obtain ⟨k, hk, rfl, HK⟩ := hrel
        by_cases hlt : k < la
        · obtain ⟨bb, off, a', l, c, x, rfl, hbl, hcell, hx, hX, hlc⟩ := hA.at_ hlt
          have HX := Lib.hid hx
          have HXL := Lib.hid hX.len
          clear hx hX
          by_cases hl0 : l = 0
          · have HE : Hid (G = 52) := by rw [Hid, HG2.out, if_pos ⟨x, List.mem_of_getElem? HX.out, by rw [HXL.out, hl0]⟩]
            go_wp2
            go_ret
            exact ⟨by rw [HE.out]; rfl, Below.refl _ _⟩
          · have HK2 : Hid (∀ x ∈ wss.take (k + 1), x.length ≠ 0) := by
              rw [take_step HX.out]
              intro y hy
              rcases List.mem_append.1 hy with hy | hy
              · exact HK.out y hy
              · simp at hy; rw [hy, HXL.out]; exact hl0
            go_wp2
            go_round
            case rel => exact ⟨k + 1, by omega, by go_num, HK2⟩
            case measure => simp [intOf]; omega
        · obtain rfl : k = la := by omega
          have HK0 : Hid (∀ x ∈ wss, x.length ≠ 0) := by
            have h := HK.out
            rwa [List.take_of_length_le (by rw [HL.out]; exact Nat.le_refl _)] at h
          have HG3 : Hid (G = if (∃ x ∈ wss, x.length > 32) then 53 else if bsum wss > 600 then 54 else if nodesR fold wss > 400 then 55 else 0) := by
            rw [Hid, HG2.out, if_neg (by rintro ⟨x, hx, h⟩; exact HK0.out x hx h)]
          clear HG2 HK
          go_wp2
          go_loop [5, 7] (fun s i => ∃ (j : Nat) (n : Int), j ≤ k ∧ i = .int .i64 j ∧ s = .int .i64 n ∧ Hid (n = bsum (wss.take j)) ∧ Hid (∀ x ∈ wss.take j, ¬ x.length > 32)) (fun _ i => k - (intOf i).toNat)
          case atStart => exact ⟨0, 0, Nat.zero_le _, rfl, rfl, by simp [Hid, bsum], fun x hx => by simp at hx⟩
          case round =>
            obtain ⟨j, n, hj, rfl, rfl, HN, HJ⟩ := hrel
            have hnb := bsum_bd (wss.take j) (fun y hy => HM.out y (List.mem_of_mem_take hy))
            rw [← HN.out] at hnb
            have hnl : ((wss.take j).length : Int) ≤ 64 := by have := List.length_take_le j wss; omega
            have hn0 := hnb.1
            have hn1 : n ≤ 64000000 := by omega
            clear hnb hnl
            by_cases hjl : j < k
            · obtain ⟨bb, off, a', l, c, x, rfl, hbl, hcell, hx, hX, hlc⟩ := hA.at_ hjl
              have hxl : l ≤ 1000000 := by have := mem_bd HM.out hx; rw [hX.len] at this; exact this
              have HX := Lib.hid hx
              have HXL := Lib.hid hX.len
              clear hx hX
              by_cases hl32 : 32 < l
              · have HE : Hid (G = 53) := by rw [Hid, HG3.out, if_pos ⟨x, List.mem_of_getElem? HX.out, by rw [HXL.out]; exact hl32⟩]
                go_wp2
                go_ret
                exact ⟨by rw [HE.out]; rfl, Below.refl _ _⟩
              · have HJ2 : Hid (∀ x ∈ wss.take (j + 1), ¬ x.length > 32) := by
                  rw [take_step HX.out]
                  intro y hy
                  rcases List.mem_append.1 hy with hy | hy
                  · exact HJ.out y hy
                  · simp at hy; rw [hy, HXL.out]; exact hl32
                have HS : Hid (n + (l : Int) = bsum (wss.take (j + 1))) := by rw [Hid, take_step HX.out, bsum_snoc, HXL.out, HN.out]
                go_wp2
                go_round
                case rel => exact ⟨j + 1, _, by omega, by go_num, rfl, HS, HJ2⟩
                case measure => simp [intOf]; omega
            · obtain rfl : j = k := by omega
              have hfull : wss.take j = wss := List.take_of_length_le (by rw [HL.out]; exact Nat.le_refl _)
              have HG4 : Hid (G = if n > 600 then 54 else if nodesR fold wss > 400 then 55 else 0) := by
                have h2 := HN.out
                rw [hfull] at h2
                rw [Hid, HG3.out, if_neg (by rintro ⟨x, hx, h⟩; exact HJ.out x (by rw [hfull]; exact hx) h), h2]
              clear hfull HG3 HN HJ
              by_cases h6 : 600 < n
              · have HE : Hid (G = 54) := by rw [Hid, HG4.out, if_pos h6]
                go_wp2
                go_ret
                exact ⟨by rw [HE.out]; rfl, Below.refl _ _⟩
              · go_wp2_with fail
                refine (rnodes_any fold a j ca wss w hA hla HM.out).mono ?_
                rintro e w1 ⟨rfl, hb⟩
                obtain ⟨N, hN⟩ : ∃ N, nodesR fold wss = N := ⟨_, rfl⟩
                rw [hN]
                have HN : Hid (nodesR fold wss = N) := hN
                clear hN
                by_cases h4 : 400 < N
                · have HE : Hid (G = 55) := by rw [Hid, HG4.out, if_neg (by omega), HN.out, if_pos h4]
                  go_wp2
                  go_ret
                  exact ⟨by rw [HE.out]; rfl, hb⟩
                · have HE : Hid (G = 0) := by rw [Hid, HG4.out, if_neg (by omega), HN.out, if_neg (by omega)]
                  go_wp2
                  go_ret
                  exact ⟨by rw [HE.out]; rfl, hb⟩

end Go.Proofs.YtbiinfnekhhfkaaGreat

/- Two sets that are the same, by the document (layer 5): walked. -/

namespace Go.Proofs.YtbiinfnekhhfkaaGreat
open Go.RowKit Go.Sort
set_option linter.unusedVariables false

set_option maxHeartbeats 2000000 in
theorem rsames_any (f g : Bool) (a b : Option Addr) (la ca lb cb : Nat) (wss vss : List (List Int)) (w : World) (hA : Wds w a la wss) (hB : Wds w b lb vss) (hla : la ≤ 1000000) :
    Calls Tryz.prog 28 #[.agg (setV f a la ca), .agg (setV g b lb cb)] w fun e w' => e = .returned (.bool (sameS f g wss vss)) ∧ Below w.heap.size w w' := by
  obtain ⟨W, hW⟩ : ∃ W, W = (w.alloc (.cells (setV f a la ca) 24)).alloc (.cells (setV g b lb cb) 24) := ⟨_, rfl⟩
  have hBx : Below w.heap.size w ((w.alloc (.cells (setV f a la ca) 24)).alloc (.cells (setV g b lb cb) 24)) := ((Below.refl _ _).alloc (Nat.le_refl _) _).alloc (by simp) _
  have HA := Lib.hid hA.len
  have HB := Lib.hid hB.len
  by_cases hfg : f = g
  · subst hfg
    by_cases hl : la = lb
    · subst hl
      have hb1 : W.heap[w.heap.size]? = some (.cells (setV f a la ca) 24 (0, 0)) := by
        rw [hW]
        exact (Below.heap_alloc _ _ _ (by simp)).trans (World.alloc_heap_new _ _)
      have hb2 : W.heap[w.heap.size + 1]? = some (.cells (setV f b la cb) 24 (0, 0)) := by
        rw [hW]
        have := World.alloc_heap_new (w.alloc (.cells (setV f a la ca) 24)) (.cells (setV f b la cb) 24)
        rwa [World.size_alloc] at this
      have hA1 : Wds W a la wss := by rw [hW]; exact hA.below hBx
      have hB1 : Wds W b la vss := by rw [hW]; exact hB.below hBx
      have hBW : Below w.heap.size w W := by rw [hW]; exact hBx
      have hz : W.heap.size = w.heap.size + 2 := by rw [hW]; simp
      have HWD := Lib.hid hW
      clear hA hB hW
      go_enter Tryz.func28, Tryz.ntmps28
      go_wp2
      rw [← HWD.out]
      go_loopw [5] (fun i wr => ∃ k : Nat, k ≤ la ∧ i = .int .i64 k ∧ Hid (wss.take k = vss.take k) ∧ Below W.heap.size W wr) (fun i _ => la - (intOf i).toNat)
      case atStart => exact ⟨0, Nat.zero_le _, rfl, by simp [Hid], Below.refl _ _⟩
      case round =>
        obtain ⟨k, hk, rfl, HK, hBe⟩ := hrel
        have hw : Below w.heap.size w wr := hBW.trans (hBe.mono hBW.size)
        have h1 : wr.heap[w.heap.size]? = _ := (hBe.block _ (by omega)).trans hb1
        have h2 : wr.heap[w.heap.size + 1]? = _ := (hBe.block _ (by omega)).trans hb2
        have c1 : wr.cell? ⟨w.heap.size, 1, none⟩ = some (.slice a la ca) := by simp [World.cell?, h1]
        have c2 : wr.cell? ⟨w.heap.size + 1, 1, none⟩ = some (.slice b la cb) := by simp [World.cell?, h2]
        have hBd : ∀ n, Below W.heap.size W (wr.drewN n) := fun n => hBe.trans ⟨rfl, rfl, rfl, Nat.le_refl _, fun _ _ => rfl⟩
        have hwd : ∀ n, Below w.heap.size w (wr.drewN n) := fun n => hw.trans ⟨rfl, rfl, rfl, Nat.le_refl _, fun _ _ => rfl⟩
        by_cases hlt : k < la
        · obtain ⟨bb, off, a', l, c, x, rfl, hbl, hcell, hx, hX, hlc⟩ := (hA1.below hBe).at_ hlt
          obtain ⟨bb2, off2, a2, l2, c2, y, rfl, hbl2, hcell2, hy, hY, hlc2⟩ := (hB1.below hBe).at_ hlt
          have hd : ∀ n, Below wr.heap.size wr (wr.drewN n) := fun n => ⟨rfl, rfl, rfl, Nat.le_refl _, fun _ _ => rfl⟩
          have hXn : ∀ n, Bys (wr.drewN n) a' l x := fun n => hX.below (hd n)
          have hYn : ∀ n, Bys (wr.drewN n) a2 l2 y := fun n => hY.below (hd n)
          have v1 : ∀ n cap, Sem.run Tryz.prog (convert 25 9 (.slice a' l cap)) (wr.drewN n) = .ok (.string (strOfNums x)) (wr.drewN n) := fun n cap => conv_bys (hXn n) cap
          have v2 : ∀ n cap, Sem.run Tryz.prog (convert 25 9 (.slice a2 l2 cap)) (wr.drewN n) = .ok (.string (strOfNums y)) (wr.drewN n) := fun n cap => conv_bys (hYn n) cap
          have hbeq := str_beq hX.2 hY.2
          have HX := Lib.hid hx
          have HY := Lib.hid hy
          clear hx hy hX hY hXn hYn hd
          by_cases h : x = y
          · rw [decide_eq_true h] at hbeq
            have HS : Hid (wss.take (k + 1) = vss.take (k + 1)) := by rw [take_step HX.out, take_step HY.out, HK.out, h]; rfl
            clear h
            go_wp2
            go_quiet (fail)
            go_wp2
            go_roundw
            case rel => exact ⟨k + 1, by omega, by go_num, HS, hBd _⟩
            case measure => simp [intOf]; omega
          · rw [decide_eq_false h] at hbeq
            have HS : Hid (sameS f f wss vss = false) := by
              have : wss ≠ vss := fun e => by
                have h1 := HX.out
                rw [e, HY.out] at h1
                exact h (Option.some.inj h1).symm
              simp [Hid, sameS, this]
            clear h
            go_wp2
            go_quiet (fail)
            go_wp2
            go_ret
            exact ⟨by rw [HS.out]; rfl, hwd _⟩
        · obtain rfl : k = la := by omega
          have HS : Hid (sameS f f wss vss = true) := by
            have h := HK.out
            rw [List.take_of_length_le (by rw [HA.out]; exact Nat.le_refl _), List.take_of_length_le (by rw [HB.out]; exact Nat.le_refl _)] at h
            simp [Hid, sameS, h]
          go_wp2
          go_ret
          exact ⟨by rw [HS.out]; rfl, hw⟩
    · have HS : Hid (sameS f f wss vss = false) := sameS_no (.inr (by rw [HA.out, HB.out]; exact hl))
      have hne : ((la : Int) != (lb : Int)) = true := by simp; omega
      clear hW
      go_enter Tryz.func28, Tryz.ntmps28
      go_wp2
      all_goals
        go_ret
        exact ⟨by rw [HS.out]; rfl, hBx⟩
  · have HS : Hid (sameS f g wss vss = false) := sameS_no (.inl hfg)
    have hne : (f != g) = true := by simp [hfg]
    clear hW
    go_enter Tryz.func28, Tryz.ntmps28
    go_wp2
    all_goals
      go_ret
      exact ⟨by rw [HS.out]; rfl, hBx⟩

end Go.Proofs.YtbiinfnekhhfkaaGreat

/- A set of words, made, by the document (layer 5): walked. -/







namespace Go.Proofs.YtbiinfnekhhfkaaGreat
open Go.RowKit Go.Sort
set_option linter.unusedVariables false

set_option maxHeartbeats 1000000 in
theorem rmake_no (fold : Bool) (a : Option Addr) (la ca : Nat) (wss : List (List Int)) (w : World) (hA : Wds w a la wss) (hla : la ≤ 1000000) (hM : ∀ x ∈ wss, x.length ≤ 1000000) (hc : checkR fold wss ≠ 0) :
    Calls Tryz.prog 74 #[.bool fold, .slice a la ca] w fun e w' => e = .returned (.tuple #[.agg (setV false none 0 0), .int .i64 (checkR fold wss)]) ∧ Below w.heap.size w w' := by
  have hA1 := hA.below ((Below.refl _ _).alloc (Nat.le_refl _) (.cells (setV false none 0 0) 24))
  obtain ⟨n, hn⟩ : ∃ n, checkR fold wss = n := ⟨_, rfl⟩
  have HN : Hid (checkR fold wss = n) := hn
  rw [hn] at hc ⊢
  clear hn
  go_enter Tryz.func74, Tryz.ntmps74
  go_wp2_with fail
  refine (rcheck_any fold a la ca wss _ hA1 hla hM).mono ?_
  rintro e w1 ⟨rfl, hb⟩
  rw [HN.out]
  have hz : w1.heap[w.heap.size]? = some (.cells (setV false none 0 0) 24 (0, 0)) := (hb.block _ (by simp)).trans (World.alloc_heap_new _ _)
  have hB1 : Below w.heap.size w w1 := ((Below.refl _ _).alloc (Nat.le_refl _) _).trans (hb.mono (by simp))
  have z0 : w1.cell? ⟨w.heap.size, 0, none⟩ = some (.bool false) := by simp [World.cell?, hz]
  have z1 : w1.cell? ⟨w.heap.size, 1, none⟩ = some (.slice none 0 0) := by simp [World.cell?, hz]
  have y0 : w1.frozen? ⟨w.heap.size, 0, none⟩ = false := by simp [World.frozen?, hz]
  have y1 : w1.frozen? ⟨w.heap.size, 1, none⟩ = false := by simp [World.frozen?, hz]
  go_wp2
  have hz2 := set_at (i := 1) (set_at (i := 0) hz (.bool false)) (.slice none 0 0)
  refine bodyPost_ret (results_set rfl rfl (by simpa using hz2)) rfl ?_
  exact ⟨rfl, (hB1.setCell (Nat.le_refl _) _).setCell (Nat.le_refl _) _⟩

theorem text_o (fold : Bool) (a : Option Addr) (la ca : Nat) (xs : List Int) (w : World) (hA : Bys w a la xs) (hla : la ≤ 1000000) :
    Calls Tryz.prog 111 #[.bool fold, .slice a la ca] w fun e w' => ∃ a1 c1, e = .returned (.slice a1 la c1) ∧ OwnB w' w.heap.size (.slice a1 la c1) la (foldL fold xs) ∧ Below w.heap.size w w' :=
  (text_any fold a la ca xs w hA hla).mono fun e w' ⟨v, he, hown, hb⟩ => by
    obtain ⟨a1, c1, rfl, _, h⟩ := own_bys hown (foldL_bd hA.2)
    exact ⟨a1, c1, he, hown, hb⟩

set_option maxRecDepth 100000 in
set_option maxHeartbeats 4000000 in
theorem rmake_yes (fold : Bool) (a : Option Addr) (la ca : Nat) (wss : List (List Int)) (w : World) (hA : Wds w a la wss) (hla : la ≤ 1000000) (hM : ∀ x ∈ wss, x.length ≤ 1000000) (hc : checkR fold wss = 0) :
    Calls Tryz.prog 74 #[.bool fold, .slice a la ca] w fun e w' => ∃ v, e = .returned (.tuple #[.agg #[.bool fold, v], .int .i64 0]) ∧ OwnW w' w.heap.size v (makeL fold wss) ∧ Below w.heap.size w w' := by
  have hA1 := hA.below ((Below.refl _ _).alloc (Nat.le_refl _) (.cells (setV false none 0 0) 24))
  have HN : Hid (checkR fold wss = 0) := hc
  have HL := Lib.hid hA.len
  clear hc
  go_enter Tryz.func74, Tryz.ntmps74
  go_wp2_with fail
  refine (rcheck_any fold a la ca wss _ hA1 hla hM).mono ?_
  rintro e w1 ⟨rfl, hb⟩
  rw [HN.out]
  have hz : w1.heap[w.heap.size]? = some (.cells (setV false none 0 0) 24 (0, 0)) := (hb.block _ (by simp)).trans (World.alloc_heap_new _ _)
  have hB1 : Below w.heap.size w w1 := ((Below.refl _ _).alloc (Nat.le_refl _) _).trans (hb.mono (by simp))
  have hlt1 : w.heap.size < w1.heap.size := (Array.getElem?_eq_some_iff.1 hz).1
  go_wp2
  go_loopw [8] (fun i wr => ∃ (k : Nat) (v : Value), k ≤ la ∧ i = .int .i64 k ∧ Below w.heap.size w wr ∧ wr.heap[w.heap.size]? = some (.cells (setV false none 0 0) 24 (0, 0)) ∧ wr.heap[w1.heap.size]? = some (.cells #[.bool fold, v] 24 (0, 0)) ∧ OwnW wr w.heap.size v (makeL fold (wss.take k))) (fun i _ => la - (intOf i).toNat)
  case atStart => exact ⟨0, .slice none 0 0, Nat.zero_le _, rfl, hB1.alloc (by omega) _, (Below.heap_alloc _ _ _ hlt1).trans hz, World.alloc_heap_new _ _, by simpa [makeL] using OwnW.nil _ _⟩
  case round =>
    obtain ⟨k, v, hk, rfl, hBe, hzr, hsr, hown⟩ := hrel
    by_cases hlt : k < la
    · obtain ⟨bb, off, a', l, c, x, rfl, hbl, hcell, hx, hX, hlc⟩ := (hA.below hBe).at_ hlt
      have hxl : l ≤ 1000000 := by have := mem_bd hM hx; rw [hX.len] at this; exact this
      obtain ⟨av, cv, rfl, hcv, hW⟩ := hown.wds
      have s0 : wr.cell? ⟨w1.heap.size, 0, none⟩ = some (.bool fold) := by simp [World.cell?, hsr]
      have s1 : wr.cell? ⟨w1.heap.size, 1, none⟩ = some (.slice av (makeL fold (wss.take k)).length cv) := by simp [World.cell?, hsr]
      have hml : (makeL fold (wss.take k)).length ≤ 1000000 := by have := makeL_len fold (wss.take k); have := List.length_take_le k wss; omega
      have HX := Lib.hid hx
      clear hx
      have kc := cell_regrown hcell
      have ks := cell_regrown s1
      have cW : ∀ d os, Calls Tryz.prog 110 #[.bool fold, .slice a' l c, .slice av (makeL fold (wss.take k)).length cv] (grow (redrawn wr d) os) fun e w'' => e = .returned (.int .i64 (whichL fold x (makeL fold (wss.take k)))) ∧ ∃ p : Regrown, w'' = grow (redrawn wr p.d) p.os :=
        fun d os => Calls.regrown_of (rwhich_any fold a' av l c _ cv x (makeL fold (wss.take k)) _ (hX.below (below_regrown wr d os)) hxl (hW.below (below_regrown wr d os)) hml (makeL_mem _ (fun y hy => hM y (List.mem_of_mem_take hy))))
      go_wp2
      refine wp_region_quiet_below mixed (by kernel_rfl) ?_
      repeat (go_big_quiet_step (exact cW _ _))
      refine wpQuiet_nil ?_
      rintro _ ⟨⟨dq, osq⟩, rfl⟩
      obtain ⟨w2, hw2⟩ : ∃ w2, grow (redrawn wr dq) osq = w2 := ⟨_, rfl⟩
      rw [hw2]
      have hb2 : Below wr.heap.size wr w2 := hw2 ▸ below_regrown wr dq osq
      clear hw2 kc ks cW
      have hB2 : Below w.heap.size w w2 := hBe.trans (hb2.mono hBe.size)
      have hz2 : w2.heap[w.heap.size]? = _ := (hb2.block _ (Array.getElem?_eq_some_iff.1 hzr).1).trans hzr
      have hs2 : w2.heap[w1.heap.size]? = _ := (hb2.block _ (Array.getElem?_eq_some_iff.1 hsr).1).trans hsr
      have hown2 := hown.below hb2
      have hcl2 : w2.cell? ⟨bb, off + k, none⟩ = some (.slice a' l c) := (hb2.cell (p := ⟨bb, off + k, none⟩) hbl).trans hcell
      clear hown hW hsr hzr s0 s1 hcell
      have HM : Hid (makeL fold (wss.take (k + 1)) = addW fold (makeL fold (wss.take k)) x) := by rw [take_step HX.out, makeL_snoc]; rfl
      obtain ⟨q, hq⟩ : ∃ q, whichL fold x (makeL fold (wss.take k)) = q := ⟨_, rfl⟩
      have HQ : Hid (whichL fold x (makeL fold (wss.take k)) = q) := hq
      rw [hq]
      clear hq
      by_cases hq0 : 0 ≤ q
      · have HF : Hid (makeL fold (wss.take (k + 1)) = makeL fold (wss.take k)) := by
          rw [HM.out]
          unfold addW
          rw [HQ.out, if_neg (by omega)]
          rfl
        go_wp2
        go_roundw
        case rel => exact ⟨k + 1, _, by omega, by go_num, hB2, hz2, hs2, by rw [HF.out]; exact hown2⟩
        case measure => simp [intOf]; omega
      · have HF : Hid (makeL fold (wss.take (k + 1)) = makeL fold (wss.take k) ++ [foldL fold x]) := by
          rw [HM.out]
          unfold addW
          rw [HQ.out, if_pos (by omega)]
          rfl
        obtain ⟨i0, hi, hi0, hi1, hi2⟩ := info_parts words_info
        have s1 : w2.cell? ⟨w1.heap.size, 1, none⟩ = some (.slice av (makeL fold (wss.take k)).length cv) := by simp [World.cell?, hs2]
        obtain ⟨es, e1, e2, e3⟩ := hown2
        have hX2 : ∀ n, Bys (w2.drewN n) a' l x := fun n => (hX.below hb2).below ⟨rfl, rfl, rfl, Nat.le_refl _, fun _ _ => rfl⟩
        have hd : ∀ n, Below w2.heap.size w2 (w2.drewN n) := fun n => ⟨rfl, rfl, rfl, Nat.le_refl _, fun _ _ => rfl⟩
        obtain ⟨m, hm⟩ : ∃ m, (makeL fold (wss.take k)).length = m := ⟨_, rfl⟩
        rw [hm] at s1 hs2 e1 e2 hml ⊢
        have HMM := Lib.hid hm
        clear hm
        go_wp2
        have hXd : Bys w2.drew a' l x := hX2 1
        have hdd : Below w2.heap.size w2 w2.drew := hd 1
        go_region_law (first
          | (go_simp; go_at_call 111; refine (text_o fold a' l c x w2.drew hXd hxl).mono ?_; rintro e w3 ⟨a3, c3, rfl, hown3, hb3⟩
             have hB3 : Below w2.heap.size w2 w3 := hdd.trans hb3
             have e13 := own_below_ e1 hB3
             have hs3 : w3.heap[w1.heap.size]? = some (.cells #[.bool fold, .slice av m cv] 24 (0, 0)) := (hB3.block _ (Array.getElem?_eq_some_iff.1 hs2).1).trans hs2
             have s13 : w3.cell? ⟨w1.heap.size, 1, none⟩ = some (.slice av m cv) := by simp [World.cell?, hs3]
             have hl3 : w1.heap.size < w3.heap.size := (Array.getElem?_eq_some_iff.1 hs3).1
             have hl3b : w1.heap.size ≠ w3.heap.size := by omega
             have hl3c : w3.heap.size ≠ w1.heap.size := by omega
             have s14 : (w3.alloc (.cells #[.slice a3 l c3] 25)).cell? ⟨w1.heap.size, 1, none⟩ = some (.slice av m cv) := by rw [World.cell?_alloc_lt _ _ _ hl3]; exact s13
             have hne := own_far e13 hs3 (of_decide_eq_true (by kernel_rfl))
             have hB3w : Below w.heap.size w w3 := hB2.trans (hB3.mono hB2.size)
             dsimp only)
          | (refine step_append_lies _ (by rfl) _ _ 22 (by rfl) w.heap.size 25 i0 (.slice none 0 0) 1 24 Tryz.underlying22 hi hi0 hi1 hi2 rfl (by decide) (.slice av m cv) m es (by rfl) (e13.alloc _) ⟨w3.heap.size, 0, none⟩ 1 1 [.slice a3 l c3] (by rfl) rfl (cell_one_new _ _ _) (by simp [Value.oneCell']) (by decide) (by unfold maxLen; omega) (by omega) (by have := hB3w.size; simp; omega) _ rfl ?_
             intro g5 c5 w5 hown' hgrow hat hl5
             have hs5 : w5.heap[w1.heap.size]? = some (.cells #[.bool fold, .slice av m cv] 24 (0, 0)) := (hgrow.block _ (by simp; have := (Array.getElem?_eq_some_iff.1 hs3).1; omega) (Ne.symm hne)).trans ((Below.heap_alloc _ _ _ (Array.getElem?_eq_some_iff.1 hs3).1).trans hs3)
             have q0 : w5.cell? ⟨w1.heap.size, 1, none⟩ = some (.slice av m cv) := by simp [World.cell?, hs5]
             have q1 : w5.frozen? ⟨w1.heap.size, 1, none⟩ = false := by simp [World.frozen?, hs5]))
        all_goals
          go_wp2
          have hB5 : Below w.heap.size w w5 := (hB3w.alloc (by have := hB3w.size; omega) _).grown hgrow (by simp; have := hB3w.size; omega) (fun j hj => (e13.lt j hj).1)
          have hz5 : w5.heap[w.heap.size]? = some (.cells (setV false none 0 0) 24 (0, 0)) := by
            have h3 : w3.heap[w.heap.size]? = _ := (hB3.block _ (Array.getElem?_eq_some_iff.1 hz2).1).trans hz2
            exact (hgrow.block _ (by simp; have := (Array.getElem?_eq_some_iff.1 h3).1; omega) (Ne.symm (own_far e13 h3 (of_decide_eq_true (by kernel_rfl))))).trans ((Below.heap_alloc _ _ _ (Array.getElem?_eq_some_iff.1 h3).1).trans h3)
          go_roundw
          case rel =>
            refine ⟨k + 1, _, by omega, by go_num, hB5.setCell (by show w.heap.size ≤ w1.heap.size; omega) _, (Below.heap_setCell w5 ⟨w1.heap.size, 1, none⟩ _ _ (by simp; omega)).trans hz5, by simpa using set_at (i := 1) hs5 (.slice (some ⟨g5, 0, none⟩) (m + 1) c5), ?_⟩
            rw [HF.out]
            have hst := OwnW.step (wss := makeL fold (wss.take k)) (xs := foldL fold x) (e := .slice a3 l c3) (es := es) (v := .slice av m cv) (by rw [HMM.out]; exact e13.alloc _) (by rw [HMM.out]; exact e2)
              (fun i e xs he hx => ⟨own_below_ (own_below_ (e3 i e xs he hx).1 hB3) ((Below.refl _ _).alloc (Nat.le_refl _) _), (e3 i e xs he hx).2⟩) (by rw [foldL_length, hX.len]; exact (OwnB_mono (hown3.alloc _) (by have := hB2.size; simpa using this))) (foldL_bd hX.2) (by rw [HMM.out]; exact hown') hgrow
            exact hst.turned (grown_set2 w5 w1.heap.size 1 _) hs5 (of_decide_eq_true (by kernel_rfl)) (of_decide_eq_true (by kernel_rfl))
          case measure => simp [intOf]; omega
    · obtain rfl : k = la := by omega
      have HF : Hid (wss.take k = wss) := List.take_of_length_le (by have := HL.out; omega)
      have s0 : wr.cell? ⟨w1.heap.size, 0, none⟩ = some (.bool fold) := by simp [World.cell?, hsr]
      obtain ⟨av, cv, rfl, hcv, hW⟩ := hown.wds
      have s1 : wr.cell? ⟨w1.heap.size, 1, none⟩ = some (.slice av (makeL fold (wss.take k)).length cv) := by simp [World.cell?, hsr]
      have z0 : wr.cell? ⟨w.heap.size, 0, none⟩ = some (.bool false) := by simp [World.cell?, hzr]
      have z1 : wr.cell? ⟨w.heap.size, 1, none⟩ = some (.slice none 0 0) := by simp [World.cell?, hzr]
      have y0 : wr.frozen? ⟨w.heap.size, 0, none⟩ = false := by simp [World.frozen?, hzr]
      have y1 : wr.frozen? ⟨w.heap.size, 1, none⟩ = false := by simp [World.frozen?, hzr]
      go_wp2
      have hz2 := set_at (i := 1) (set_at (i := 0) hzr (.bool fold)) (.slice av (makeL fold (wss.take k)).length cv)
      refine bodyPost_ret (results_set rfl rfl (by simpa using hz2)) rfl ?_
      refine ⟨_, rfl, ?_, (hBe.setCell (Nat.le_refl _) _).setCell (Nat.le_refl _) _⟩
      have ho := (hown.turned (grown_set2 wr w.heap.size 0 (.bool fold)) hzr (of_decide_eq_true (by kernel_rfl)) (of_decide_eq_true (by kernel_rfl))).turned (grown_set2 _ w.heap.size 1 (.slice av (makeL fold (wss.take k)).length cv)) (set_at (i := 0) hzr (.bool fold)) (of_decide_eq_true (by kernel_rfl)) (of_decide_eq_true (by kernel_rfl))
      rw [HF.out] at ho ⊢
      exact ho

end Go.Proofs.YtbiinfnekhhfkaaGreat

/- Which sets may be, by the document (layer 5): walked. -/

namespace Go.Proofs.YtbiinfnekhhfkaaGreat
open Go.RowKit Go.Sort
set_option linter.unusedVariables false

def rightR (fold : Bool) (wss : List (List Int)) : Bool := decide (checkR fold wss = 0) && decide (makeL fold wss = wss)

set_option maxHeartbeats 1000000 in
theorem rright_any (fold : Bool) (a : Option Addr) (la ca : Nat) (wss : List (List Int)) (w : World) (hA : Wds w a la wss) (hla : la ≤ 1000000) (hM : ∀ x ∈ wss, x.length ≤ 1000000) :
    Calls Tryz.prog 18 #[.agg (setV fold a la ca)] w fun e w' => e = .returned (.bool (rightR fold wss)) ∧ Below w.heap.size w w' := by
  have hB0 : Below w.heap.size w (w.alloc (.cells (setV fold a la ca) 24)) := (Below.refl _ _).alloc (Nat.le_refl _) _
  have hA1 := hA.below hB0
  have hnew := World.alloc_heap_new w (.cells (setV fold a la ca) 24)
  by_cases hc : checkR fold wss = 0
  · have HR : Hid (rightR fold wss = sameS fold fold (makeL fold wss) wss) := by simp [Hid, rightR, sameS, hc]
    go_enter Tryz.func18, Tryz.ntmps18
    go_wp2_with fail
    refine (rmake_yes fold a la ca wss _ hA1 hla hM hc).mono ?_
    rintro e w1 ⟨v, rfl, hown, hb⟩
    have hB1 : Below w.heap.size w w1 := hB0.trans (hb.mono (by simp))
    obtain ⟨av, cv, rfl, hcv, hW⟩ := hown.wds
    have h1 : w1.heap[w.heap.size]? = _ := (hb.block _ (by simp)).trans hnew
    have hs1 : w.heap.size < w1.heap.size := (Array.getElem?_eq_some_iff.1 h1).1
    have c0 : w1.cell? ⟨w.heap.size, 0, none⟩ = some (.bool fold) := by simp [World.cell?, h1]
    have c1 : w1.cell? ⟨w.heap.size, 1, none⟩ = some (.slice a la ca) := by simp [World.cell?, h1]
    have hlen : (makeL fold wss).length ≤ 1000000 := by have := makeL_len fold wss; have := hA.len; omega
    have hne : w.heap.size ≠ w1.heap.size := by omega
    have hB2 : Below w1.heap.size w1 (w1.alloc (.cells (setV fold av (makeL fold wss).length cv) 24)) := (Below.refl _ _).alloc (Nat.le_refl _) _
    have hW2 := hW.below hB2
    have hA2 := (hA.below hB1).below hB2
    clear hc
    go_wp2_with fail
    refine (rsames_any fold fold av a _ cv la ca (makeL fold wss) wss _ hW2 hA2 hlen).mono ?_
    rintro e w3 ⟨rfl, hb3⟩
    go_wp2
    go_ret
    exact ⟨by rw [HR.out]; rfl, hB1.trans ((hB2.trans (hb3.mono (by simp))).mono hB1.size)⟩
  · have HR : Hid (rightR fold wss = false) := by simp [Hid, rightR, hc]
    obtain ⟨n, hn⟩ : ∃ n, checkR fold wss = n := ⟨_, rfl⟩
    have HC := Lib.hid hc
    have HN : Hid (checkR fold wss = n) := hn
    rw [hn] at hc
    clear hn
    have hnb : (n == 0) = false := by simp [hc]
    go_enter Tryz.func18, Tryz.ntmps18
    go_wp2_with fail
    refine (rmake_no fold a la ca wss _ hA1 hla hM HC.out).mono ?_
    rintro e w1 ⟨rfl, hb⟩
    rw [HN.out]
    have hB1 : Below w.heap.size w w1 := hB0.trans (hb.mono (by simp))
    go_wp2
    go_ret
    exact ⟨by rw [HR.out]; rfl, hB1.alloc hB1.size _⟩

end Go.Proofs.YtbiinfnekhhfkaaGreat

/- The code's check of words is the document's (layer 5). -/


namespace Go.Proofs.YtbiinfnekhhfkaaGreat
set_option linter.unusedVariables false

theorem snoc_ind {α : Type} {P : List α → Prop} (h0 : P []) (h1 : ∀ l x, P l → P (l ++ [x])) : ∀ l, P l := by
  intro l
  obtain ⟨n, hn⟩ : ∃ n, l.length = n := ⟨_, rfl⟩
  induction n generalizing l with
  | zero => obtain rfl := List.eq_nil_of_length_eq_zero hn; exact h0
  | succ n ih =>
    obtain ⟨l', x, rfl⟩ : ∃ l' x, l = l' ++ [x] := ⟨l.dropLast, l.getLast (by intro h; simp [h] at hn), (List.dropLast_concat_getLast _).symm⟩
    exact h1 l' x (ih l' (by simpa using hn))

theorem cnt_spec : ∀ (l : List (List Int)), (cnt l).1 = l.length ∧ (cnt l).2.1 = bsum l ∧ ((cnt l).2.2.1 > 32 ↔ ∃ x ∈ l, x.length > 32) ∧ 0 ≤ (cnt l).2.2.2 ∧ (l ≠ [] → ((cnt l).2.2.2 = 0 ↔ ∃ x ∈ l, x.length = 0)) := by
  apply snoc_ind
  · simp [cnt, bsum]
  · intro l x ⟨h1, h2, h3, h4, h5⟩
    rw [cnt_snoc, bsum_snoc]
    simp only [cstep]
    refine ⟨by rw [h1]; simp, by rw [h2], ?_, by split <;> omega, fun _ => ?_⟩
    · constructor
      · intro h
        by_cases hx : x.length > 32
        · exact ⟨x, by simp, hx⟩
        · obtain ⟨y, hy, hl⟩ := h3.1 (by omega)
          exact ⟨y, by simp [hy], hl⟩
      · rintro ⟨y, hy, hl⟩
        rcases List.mem_append.1 hy with hy | hy
        · have := h3.2 ⟨y, hy, hl⟩
          omega
        · simp at hy; subst hy; omega
    · by_cases hn : l = []
      · subst hn
        simp [cnt]
      · have hlen : l.length ≠ 0 := fun e => hn (List.eq_nil_of_length_eq_zero e)
        have h6 := h5 hn
        constructor
        · intro h
          by_cases hx : x.length = 0
          · exact ⟨x, by simp, hx⟩
          · split at h
            · omega
            · obtain ⟨y, hy, hl⟩ := h6.1 h
              exact ⟨y, by simp [hy], hl⟩
        · rintro ⟨y, hy, hl⟩
          rcases List.mem_append.1 hy with hy | hy
          · have := h6.2 ⟨y, hy, hl⟩
            rw [if_neg (by omega)]
            exact this
          · simp at hy; subst hy
            split <;> omega

theorem firstAsk_eq (f : Nat → Bool) : firstAsk f = if f 0 then 50 else if f 1 then 51 else if f 2 then 52 else if f 3 then 53 else if f 4 then 54 else if f 5 then 55 else 0 := by
  unfold firstAsk
  simp only [List.range, List.range.loop, List.find?]
  cases f 0 <;> cases f 1 <;> cases f 2 <;> cases f 3 <;> cases f 4 <;> cases f 5 <;> rfl

theorem check_eq (fold : Bool) (wss : List (List Int)) : checkP fold wss = checkR fold wss := by
  obtain ⟨h1, h2, h3, h4, h5⟩ := cnt_spec wss
  unfold checkP checkR
  rw [firstAsk_eq]
  simp only [askB, h1, h2, nodes_eq, decide_eq_true_eq, h3]
  by_cases h0 : wss.length = 0
  · rw [if_pos (by omega), if_pos h0]
  · rw [if_neg (by omega), if_neg h0]
    have hn : wss ≠ [] := fun e => h0 (by rw [e]; rfl)
    by_cases h64 : wss.length > 64
    · rw [if_pos (by omega), if_pos h64]
    · rw [if_neg (by omega), if_neg h64]
      by_cases he : ∃ x ∈ wss, x.length = 0
      · rw [if_pos ((h5 hn).2 he), if_pos he]
      · rw [if_neg (fun h => he ((h5 hn).1 h)), if_neg he]

theorem right_eq (fold : Bool) (wss : List (List Int)) : rightP fold wss = rightR fold wss := by
  unfold rightP rightR
  rw [check_eq]

end Go.Proofs.YtbiinfnekhhfkaaGreat

/- Plain words of layer 6: hits, their order, all of a text. -/

namespace Go.Proofs.YtbiinfnekhhfkaaGreat
set_option linter.unusedVariables false

abbrev HitP := Int × Int
def lenW (wss : List (List Int)) (k : Int) : Int := if 0 ≤ k ∧ k < wss.length then (((wss[k.toNat]?).getD []).length : Int) else 0
def cmpI (a b : Int) : Int := if a < b then -1 else if b < a then 1 else 0
def orI (a b c : Int) : Int := if a ≠ 0 then a else if b ≠ 0 then b else c
def ordH (wss : List (List Int)) (a b : HitP) : Int := orI (cmpI a.1 b.1) (cmpI (lenW wss b.2) (lenW wss a.2)) (cmpI a.2 b.2)
def lessH (wss : List (List Int)) (a b : HitP) : Bool := decide (ordH wss a b < 0)
theorem lessH_iff {wss : List (List Int)} {a b : HitP} : lessH wss a b = true ↔ a.1 < b.1 ∨ a.1 = b.1 ∧ (lenW wss b.2 < lenW wss a.2 ∨ lenW wss b.2 = lenW wss a.2 ∧ a.2 < b.2) := by
  unfold lessH ordH orI cmpI
  simp only [decide_eq_true_eq]
  by_cases h1 : a.1 < b.1
  · simp [h1]
  · by_cases h2 : b.1 < a.1
    · simp [h1, h2]; try omega
    · by_cases h3 : lenW wss b.2 < lenW wss a.2
      · simp [h1, h2, h3]; try omega
      · by_cases h4 : lenW wss a.2 < lenW wss b.2
        · simp [h1, h2, h3, h4]; try omega
        · by_cases h5 : a.2 < b.2
          · simp [h1, h2, h3, h4, h5]; try omega
          · by_cases h6 : b.2 < a.2
            · simp [h1, h2, h3, h4, h5, h6]; try omega
            · simp [h1, h2, h3, h4, h5, h6]
theorem lessH_irrefl (wss : List (List Int)) (a : HitP) : lessH wss a a = false := by
  cases e : lessH wss a a with
  | false => rfl
  | true => have := lessH_iff.1 e; omega
theorem lessH_trans {wss : List (List Int)} {a b c : HitP} (h1 : lessH wss a b = true) (h2 : lessH wss b c = true) : lessH wss a c = true := by
  have h1 := lessH_iff.1 h1
  have h2 := lessH_iff.1 h2
  exact lessH_iff.2 (by omega)
theorem lessH_asymm {wss : List (List Int)} {a b : HitP} (h1 : lessH wss a b = true) : lessH wss b a = false := by
  cases e : lessH wss b a with
  | false => rfl
  | true =>
    have h1 := lessH_iff.1 h1
    have h2 := lessH_iff.1 e
    omega
theorem lessH_total {wss : List (List Int)} {a b : HitP} (h1 : lessH wss a b = false) (h2 : lessH wss b a = false) : a = b := by
  have h1 : ¬ lessH wss a b = true := by rw [h1]; simp
  have h2 : ¬ lessH wss b a = true := by rw [h2]; simp
  rw [lessH_iff] at h1 h2
  obtain ⟨x, y⟩ := a
  obtain ⟨u, v⟩ := b
  dsimp only at h1 h2
  simp only [Prod.mk.injEq]
  by_cases hy : y = v
  · subst hy; omega
  · omega
/-- Two lists that rise and have the same members are the same. -/
theorem rise_unique {wss : List (List Int)} : ∀ {l m : List HitP}, l.Pairwise (fun a b => lessH wss a b = true) → m.Pairwise (fun a b => lessH wss a b = true) → (∀ x, x ∈ l ↔ x ∈ m) → l = m
  | [], [], _, _, _ => rfl
  | [], b :: m, _, _, h => by have := (h b).2 (by simp); simp at this
  | a :: l, [], _, _, h => by have := (h a).1 (by simp); simp at this
  | a :: l, b :: m, h1, h2, h => by
    rw [List.pairwise_cons] at h1 h2
    have hab : a = b := by
      have ha := (h a).1 (by simp)
      have hb := (h b).2 (by simp)
      rcases List.mem_cons.1 ha with e | ha
      · exact e
      · rcases List.mem_cons.1 hb with e | hb
        · exact e.symm
        · have g1 := h2.1 a ha
          have g2 := h1.1 b hb
          rw [lessH_asymm g1] at g2
          cases g2
    subst hab
    have hnl : a ∉ l := fun hm => by have := h1.1 a hm; rw [lessH_irrefl] at this; cases this
    have hnm : a ∉ m := fun hm => by have := h2.1 a hm; rw [lessH_irrefl] at this; cases this
    congr 1
    refine rise_unique h1.2 h2.2 fun x => ⟨fun hx => ?_, fun hx => ?_⟩
    · rcases List.mem_cons.1 ((h x).1 (by simp [hx])) with e | hm
      · subst e; exact absurd hx hnl
      · exact hm
    · rcases List.mem_cons.1 ((h x).2 (by simp [hx])) with e | hm
      · subst e; exact absurd hx hnm
      · exact hm

/-- Where a hit is put, among hits that rise: behind all that do not come behind it. -/
def putN (wss : List (List Int)) (l : List HitP) (h : HitP) : Nat := l.length - (l.reverse.takeWhile (fun x => lessH wss h x)).length
def putH (wss : List (List Int)) (l : List HitP) (h : HitP) : List HitP := l.take (putN wss l h) ++ h :: l.drop (putN wss l h)
theorem takeWhile_all {α : Type} {p : α → Bool} : ∀ {xs ys : List α}, (∀ x ∈ xs, p x = true) → (∀ y, ys[0]? = some y → p y = false) → (xs ++ ys).takeWhile p = xs
  | [], [], _, _ => rfl
  | [], y :: ys, _, h => by
    have := h y rfl
    simp [this]
  | x :: xs, ys, h1, h2 => by
    rw [List.cons_append, List.takeWhile_cons, h1 x (by simp)]
    simp only [if_true]
    rw [takeWhile_all (fun z hz => h1 z (by simp [hz])) h2]
theorem putN_is {wss : List (List Int)} {l : List HitP} {h : HitP} {k : Nat} (hk : k ≤ l.length) (h1 : ∀ x ∈ l.drop k, lessH wss h x = true) (h2 : ∀ x, 0 < k → l[k - 1]? = some x → lessH wss h x = false) : putN wss l h = k := by
  unfold putN
  have e : l.reverse = (l.drop k).reverse ++ (l.take k).reverse := by rw [← List.reverse_append, List.take_append_drop]
  rw [e, takeWhile_all]
  · simp; omega
  · intro x hx; exact h1 x (by simpa using hx)
  · intro y hy
    by_cases h0 : k = 0
    · subst h0; simp at hy
    · refine h2 y (by omega) ?_
      rw [List.getElem?_reverse (by rw [List.length_take]; omega), List.length_take, List.getElem?_take] at hy
      rw [if_pos (by omega)] at hy
      rw [← hy]
      congr 1
      omega
theorem putN_le (wss : List (List Int)) (l : List HitP) (h : HitP) : putN wss l h ≤ l.length := by unfold putN; omega
theorem mem_putH {wss : List (List Int)} {l : List HitP} {h x : HitP} : x ∈ putH wss l h ↔ x = h ∨ x ∈ l := by
  unfold putH
  rw [List.mem_append, List.mem_cons]
  constructor
  · rintro (h1 | h1 | h1)
    · exact .inr (List.mem_of_mem_take h1)
    · exact .inl h1
    · exact .inr (List.mem_of_mem_drop h1)
  · rintro (h1 | h1)
    · exact .inr (.inl h1)
    · rw [← List.take_append_drop (putN wss l h) l, List.mem_append] at h1
      rcases h1 with h1 | h1
      · exact .inl h1
      · exact .inr (.inr h1)
theorem putH_rises {wss : List (List Int)} {l : List HitP} {h : HitP} (hr : l.Pairwise (fun a b => lessH wss a b = true)) (hn : h ∉ l) : (putH wss l h).Pairwise (fun a b => lessH wss a b = true) := by
  obtain ⟨k, hk, h1, h2⟩ : ∃ k, k ≤ l.length ∧ (∀ x ∈ l.drop k, lessH wss h x = true) ∧ (∀ x, 0 < k → l[k - 1]? = some x → lessH wss h x = false) := by
    have key : ∀ n, n ≤ l.length → (∀ x ∈ l.drop n, lessH wss h x = true) → ∃ k, k ≤ l.length ∧ (∀ x ∈ l.drop k, lessH wss h x = true) ∧ (∀ x, 0 < k → l[k - 1]? = some x → lessH wss h x = false) := by
      intro n
      induction n with
      | zero => intro h1 h2; exact ⟨0, h1, h2, fun x h0 => by omega⟩
      | succ n ih =>
        intro h1 h2
        obtain ⟨x, hx⟩ : ∃ x, l[n]? = some x := ⟨l[n]'(by omega), by simp⟩
        cases e : lessH wss h x with
        | false => exact ⟨n + 1, h1, h2, fun y _ hy => by simp at hy; rw [hx] at hy; rw [← Option.some.inj hy]; exact e⟩
        | true =>
          refine ih (by omega) fun y hy => ?_
          rw [List.drop_eq_getElem_cons (show n < l.length by omega)] at hy
          have : l[n]'(by omega) = x := by have := hx; rw [List.getElem?_eq_getElem (by omega)] at this; exact Option.some.inj this
          rw [this] at hy
          rcases List.mem_cons.1 hy with rfl | hy
          · exact e
          · exact h2 y hy
    exact key l.length (Nat.le_refl _) (by simp)
  have hp := putN_is hk h1 h2
  unfold putH
  rw [hp]
  rw [List.pairwise_append, List.pairwise_cons]
  have hsplit := hr
  rw [← List.take_append_drop k l, List.pairwise_append] at hsplit
  refine ⟨hsplit.1, ⟨h1, hsplit.2.1⟩, fun a ha b hb => ?_⟩
  have hah : lessH wss a h = true := by
    have hk0 : 0 < k := by
      by_cases h0 : k = 0
      · subst h0; simp at ha
      · omega
    obtain ⟨x, hx⟩ : ∃ x, l[k - 1]? = some x := ⟨l[k - 1]'(by omega), by simp⟩
    have hxh : lessH wss x h = true := by
      cases e : lessH wss x h with
      | true => rfl
      | false => exact absurd (by rw [lessH_total e (h2 x hk0 hx)] at hx; exact List.mem_of_getElem? hx) hn
    obtain ⟨i, hi⟩ := List.getElem?_of_mem ha
    have hi2 : l[i]? = some a := by rw [List.getElem?_take] at hi; split at hi; exact hi; cases hi
    have hik : i < k := by have := (List.getElem?_eq_some_iff.1 hi).1; simp at this; omega
    by_cases hlast : i = k - 1
    · subst hlast; rw [hx] at hi2; rw [← Option.some.inj hi2]; exact hxh
    · have := List.pairwise_iff_getElem.1 hr i (k - 1) (by omega) (by omega) (by omega)
      rw [(List.getElem?_eq_some_iff.1 hi2).2, (List.getElem?_eq_some_iff.1 hx).2] at this
      exact lessH_trans this hxh
  rcases List.mem_cons.1 hb with rfl | hb
  · exact hah
  · exact lessH_trans hah (h1 b hb)

/-- Which words stand at a place. -/
def stands (fold : Bool) (wss : List (List Int)) (text : List Int) (place : Nat) (k : Nat) : Bool := atL fold text place ((wss[k]?).getD [])
def hereD (fold : Bool) (wss : List (List Int)) (frm : Int) (text : List Int) (place : Nat) (n : Nat) : List HitP :=
  (List.range n).foldl (fun l k => if stands fold wss text place k then putH wss l (frm + place, (k : Int)) else l) []
theorem hereD_succ (fold : Bool) (wss : List (List Int)) (frm : Int) (text : List Int) (place n : Nat) :
    hereD fold wss frm text place (n + 1) = if stands fold wss text place n then putH wss (hereD fold wss frm text place n) (frm + place, (n : Int)) else hereD fold wss frm text place n := by
  simp [hereD, List.range_succ, List.foldl_append]
theorem mem_hereD {fold : Bool} {wss : List (List Int)} {frm : Int} {text : List Int} {place : Nat} {h : HitP} : ∀ {n : Nat}, h ∈ hereD fold wss frm text place n ↔ ∃ k, k < n ∧ stands fold wss text place k = true ∧ h = (frm + place, (k : Int))
  | 0 => by simp [hereD]
  | n + 1 => by
    have ih := mem_hereD (fold := fold) (wss := wss) (frm := frm) (text := text) (place := place) (h := h) (n := n)
    rw [hereD_succ]
    cases e : stands fold wss text place n with
    | false =>
      simp only [Bool.false_eq_true, if_false, ih]
      constructor
      · rintro ⟨k, h1, h2, h3⟩; exact ⟨k, by omega, h2, h3⟩
      · rintro ⟨k, h1, h2, h3⟩
        by_cases hk : k = n
        · subst hk; rw [e] at h2; cases h2
        · exact ⟨k, by omega, h2, h3⟩
    | true =>
      simp only [if_true, mem_putH, ih]
      constructor
      · rintro (h1 | ⟨k, h1, h2, h3⟩)
        · exact ⟨n, by omega, e, h1⟩
        · exact ⟨k, by omega, h2, h3⟩
      · rintro ⟨k, h1, h2, h3⟩
        by_cases hk : k = n
        · subst hk; exact .inl h3
        · exact .inr ⟨k, by omega, h2, h3⟩
theorem hereD_rises (fold : Bool) (wss : List (List Int)) (frm : Int) (text : List Int) (place : Nat) : ∀ n, (hereD fold wss frm text place n).Pairwise (fun a b => lessH wss a b = true)
  | 0 => by simp [hereD]
  | n + 1 => by
    have ih := hereD_rises fold wss frm text place n
    rw [hereD_succ]
    split
    · refine putH_rises ih fun hm => ?_
      obtain ⟨k, h1, h2, h3⟩ := mem_hereD.1 hm
      simp at h3
      omega
    · exact ih
/-- All hits, as the document has them. -/
def occTo (fold : Bool) (wss : List (List Int)) (frm : Int) (text : List Int) (n : Nat) : List HitP := (List.range n).flatMap fun place => hereD fold wss frm text place wss.length
def occD (fold : Bool) (wss : List (List Int)) (frm : Int) (text : List Int) : List HitP := occTo fold wss frm text (text.length + 1)
theorem occTo_succ (fold : Bool) (wss : List (List Int)) (frm : Int) (text : List Int) (n : Nat) : occTo fold wss frm text (n + 1) = occTo fold wss frm text n ++ hereD fold wss frm text n wss.length := by
  simp [occTo, List.range_succ]
theorem mem_occTo {fold : Bool} {wss : List (List Int)} {frm : Int} {text : List Int} {n : Nat} {h : HitP} : h ∈ occTo fold wss frm text n ↔ ∃ place k, place < n ∧ k < wss.length ∧ stands fold wss text place k = true ∧ h = (frm + place, (k : Int)) := by
  unfold occTo
  rw [List.mem_flatMap]
  constructor
  · rintro ⟨p, hp, hm⟩
    obtain ⟨k, h1, h2, h3⟩ := mem_hereD.1 hm
    exact ⟨p, k, by simpa using hp, h1, h2, h3⟩
  · rintro ⟨p, k, h1, h2, h3, h4⟩
    exact ⟨p, by simpa using h1, mem_hereD.2 ⟨k, h2, h3, h4⟩⟩
end Go.Proofs.YtbiinfnekhhfkaaGreat

/- Which of two hits comes ahead (layer 6), walked. -/



namespace Go.Proofs.YtbiinfnekhhfkaaGreat
open Go.RowKit Go.Sort
set_option linter.unusedVariables false

theorem compare_any (x y : Int) (w : World) :
    Calls Tryz.prog 138 #[.int .i64 x, .int .i64 y] w fun e w' => e = .returned (.int .i64 (cmpI x y)) ∧ w = w' := by
  by_cases h1 : x < y
  · have hE : Hid (cmpI x y = -1) := by simp [Hid, cmpI, h1]
    go_enter Tryz.func138, Tryz.ntmps138
    go_wp2
    go_ret
    exact ⟨by rw [hE.out]; rfl, rfl⟩
  · by_cases h2 : y < x
    · have hE : Hid (cmpI x y = 1) := by simp [Hid, cmpI, h1, h2]
      go_enter Tryz.func138, Tryz.ntmps138
      go_wp2
      go_ret
      exact ⟨by rw [hE.out]; rfl, rfl⟩
    · have hE : Hid (cmpI x y = 0) := by simp [Hid, cmpI, h1, h2]
      go_enter Tryz.func138, Tryz.ntmps138
      go_wp2
      go_ret
      exact ⟨by rw [hE.out]; rfl, rfl⟩

def orL (zs : List Int) : Int := (zs.find? (fun z => z != 0)).getD 0
theorem orL_hit {pre rest : List Int} {z : Int} (h : ∀ x ∈ pre, x = 0) (hz : z ≠ 0) : orL (pre ++ z :: rest) = z := by
  unfold orL
  rw [List.find?_append, List.find?_eq_none.2 (fun x hx => by simp [h x hx])]
  simp [hz]
theorem orL_none {zs : List Int} (h : ∀ x ∈ zs, x = 0) : orL zs = 0 := by
  unfold orL
  rw [List.find?_eq_none.2 (fun x hx => by simp [h x hx])]
  rfl
set_option maxHeartbeats 1000000 in
theorem or_any (a : Option Addr) (la ca : Nat) (zs : List Int) (w : World) (hA : Sl1 (Value.int .i64) w a la zs) (hla : la ≤ 1000000) :
    Calls Tryz.prog 137 #[.slice a la ca] w fun e w' => e = .returned (.int .i64 (orL zs)) ∧ w = w' := by
  obtain ⟨hl, hm⟩ := hA
  have HL := Lib.hid hl
  clear hl
  go_enter Tryz.func137, Tryz.ntmps137
  go_wp2
  go_loop [8] (fun i => ∃ k : Nat, k ≤ la ∧ i = .int .i64 k ∧ Hid (∀ x ∈ zs.take k, x = 0)) (fun i => la - (intOf i).toNat)
  case atStart => exact ⟨0, Nat.zero_le _, rfl, fun x hx => by simp at hx⟩
  case round =>
    obtain ⟨k, hk, rfl, HK⟩ := hrel
    by_cases hlt : k < la
    · obtain ⟨b, off, rfl, hb, hc⟩ := hm.resolve_left (by omega)
      obtain ⟨z, hz⟩ : ∃ z, zs[k]? = some z := ⟨zs[k]'(by rw [HL.out]; exact hlt), by simp⟩
      have hcell : w.cell? ⟨b, off + k, none⟩ = some (.int .i64 z) := hc k z hz
      have HZ := Lib.hid hz
      clear hz hc hm
      by_cases h0 : z = 0
      · subst h0
        have HS : Hid (∀ x ∈ zs.take (k + 1), x = 0) := by
          rw [take_step HZ.out]
          intro x hx
          rcases List.mem_append.1 hx with hx | hx
          · exact HK.out x hx
          · simpa using hx
        go_wp2
        go_round
        case rel => exact ⟨k + 1, by omega, by go_num, HS⟩
        case measure => simp [intOf]; omega
      · have HS : Hid (orL zs = z) := by
          have h := orL_hit (rest := zs.drop (k + 1)) HK.out h0
          rwa [← split_at HZ.out] at h
        have hne : (z != 0) = true := by simp [h0]
        clear h0
        go_wp2
        go_ret
        exact ⟨by rw [HS.out]; rfl, rfl⟩
    · obtain rfl : k = la := by omega
      have HS : Hid (orL zs = 0) := by
        have h := HK.out
        rw [List.take_of_length_le (by rw [HL.out]; exact Nat.le_refl _)] at h
        exact orL_none h
      go_wp2
      go_ret
      exact ⟨by rw [HS.out]; rfl, rfl⟩

theorem Sl1.lay {α : Type} (enc : α → Value) (w : World) (zs : List α) (t : TypeId) (n : Nat) (h : w.heap.size = n) : Sl1 enc (w.alloc (.cells (zs.map enc).toArray t)) (some ⟨n, 0, none⟩) zs.length zs := by
  subst h
  refine ⟨rfl, .inr ⟨w.heap.size, 0, rfl, by simp, fun i x hx => ?_⟩⟩
  have hn := World.alloc_heap_new w (.cells (zs.map enc).toArray t)
  unfold World.cell?
  dsimp only
  rw [hn]
  simp [hx]

end Go.Proofs.YtbiinfnekhhfkaaGreat

/- Blocks that lie one behind the other; parts of slices of bytes. -/










namespace Go.Proofs.YtbiinfnekhhfkaaGreat
open Go.RowKit Go.Sort
set_option linter.unusedVariables false
set_option linter.unusedSimpArgs false

theorem alloc_at {w : World} {n : Nat} (h : w.heap.size = n) (o : Obj) : (w.alloc o).heap[n]? = some o := by
  subst h; exact World.alloc_heap_new w o
/-- Blocks that lie one behind the other. -/
def Bx (n : Nat) (os : List Obj) (W : World) : Prop := ∀ (i : Nat) (o : Obj), os[i]? = some o → W.heap[n + i]? = some o
theorem Bx.below {n : Nat} {os : List Obj} {W W' : World} (h : Bx n os W) (hb : Below W.heap.size W W') : Bx n os W' := fun i o hi =>
  have := h i o hi
  (hb.block _ (Array.getElem?_eq_some_iff.1 this).1).trans this
theorem Bx.nil (n : Nat) (W : World) : Bx n [] W := fun i o hi => by simp at hi
theorem Bx.snoc {n : Nat} {os : List Obj} {W : World} (h : Bx n os W) (o : Obj) (hm : W.heap.size = n + os.length) : Bx n (os ++ [o]) (W.alloc o) := fun i x hi => by
  by_cases hl : i < os.length
  · rw [List.getElem?_append_left hl] at hi
    exact (Below.heap_alloc _ _ _ (by omega)).trans (h i x hi)
  · rw [List.getElem?_append_right (by omega)] at hi
    have : i - os.length = 0 := by
      by_cases e : i - os.length = 0
      · exact e
      · rw [List.getElem?_eq_none (by simp; omega)] at hi; cases hi
    rw [this] at hi
    simp at hi
    subst hi
    exact alloc_at (by omega) _
theorem Bx.cell {n i j : Nat} {os : List Obj} {W : World} (h : Bx n os W) {cs : Array Value} {t : TypeId} {fr : Nat × Nat} (hi : os[i]? = some (.cells cs t fr)) {v : Value} (hj : cs[j]? = some v) : W.cell? ⟨n + i, j, none⟩ = some v := by
  have := h i _ hi
  simp [World.cell?, this, hj]
theorem Bys.take {w : World} {a : Option Addr} {n : Nat} {l : List Int} (h : Bys w a n l) {m : Nat} (hm : m ≤ n) : Bys w a m (l.take m) := by
  refine ⟨⟨by rw [List.length_take, h.len]; omega, ?_⟩, fun x hx => h.2 x (List.mem_of_mem_take hx)⟩
  by_cases h0 : m = 0
  · exact .inl h0
  · right
    obtain ⟨b, off, rfl, hlt, hcell⟩ := h.1.2.resolve_left (by omega)
    refine ⟨b, off, rfl, hlt, fun i u hu => hcell i u ?_⟩
    rw [List.getElem?_take] at hu
    split at hu
    · exact hu
    · cases hu
theorem Bys.drop {w : World} {a : Option Addr} {n : Nat} {l : List Int} (h : Bys w a n l) {m : Nat} (hm : m ≤ n) : Bys w (a.map (·.add m)) (n - m) (l.drop m) := by
  have hc := h.cut (lo := m) (m := n - m) (by omega)
  rwa [List.take_of_length_le (by rw [List.length_drop, h.len]; exact Nat.le_refl _)] at hc
theorem Bys.rest {V : World} {b : Option Addr} {lb cb n : Nat} {l : List Int} (h : Bys V b lb l) (hn : n ≤ lb) (hcb : lb ≤ cb) : Bys V (if cb = n then b else Option.map (fun x => x.add n) b) (lb - n) (l.drop n) := by
  split
  · have e : l.drop n = [] := List.drop_eq_nil_of_le (by rw [h.len]; omega)
    rw [e, show lb - n = 0 by omega]
    exact Bys.nil _ _
  · exact h.drop hn
theorem bel_drewN (W : World) (n : Nat) : Below W.heap.size W (W.drewN n) := ⟨rfl, rfl, rfl, Nat.le_refl _, fun _ _ => rfl⟩
def heW : List (List Int) := [[104, 101], [115, 104, 101], [104, 101, 114]]
theorem he_beg : (begL false heW).length ≤ 1000000 := by decide +kernel
theorem he_len : ∀ x ∈ heW, x.length ≤ 1000000 := by decide +kernel
set_option maxHeartbeats 1000000 in
theorem bys_lay {w : World} {n : Nat} (xs : List Int) (hx : ∀ x ∈ xs, 0 ≤ x ∧ x ≤ 255) (t : TypeId) (fr : Nat × Nat) (h : w.heap.size = n) : Bys (w.alloc (.cells (xs.map (Value.int .u8)).toArray t fr)) (some ⟨n, 0, none⟩) xs.length xs := by
  subst h
  refine ⟨⟨rfl, .inr ⟨w.heap.size, 0, rfl, by simp, fun i x hx => ?_⟩⟩, hx⟩
  have hn := World.alloc_heap_new w (.cells (xs.map (Value.int .u8)).toArray t fr)
  unfold World.cell?
  dsimp only
  rw [hn]
  simp [hx]
theorem below_alloc (w : World) (o : Obj) : Below w.heap.size w (w.alloc o) := (Below.refl _ _).alloc (Nat.le_refl _) _
theorem wds3 {w : World} {a : Option Addr} {v1 v2 v3 : Option Addr × Nat × Nat} {x1 x2 x3 : List Int} (h : Sl1 (fun v : Option Addr × Nat × Nat => Value.slice v.1 v.2.1 v.2.2) w a 3 [v1, v2, v3]) (h1 : Bys w v1.1 v1.2.1 x1) (h2 : Bys w v2.1 v2.2.1 x2) (h3 : Bys w v3.1 v3.2.1 x3)
    (c1 : v1.2.1 ≤ v1.2.2) (c2 : v2.2.1 ≤ v2.2.2) (c3 : v3.2.1 ≤ v3.2.2) : Wds w a 3 [x1, x2, x3] := by
  refine ⟨_, h, rfl, fun i v xs hv hx => ?_⟩
  match i with
  | 0 => simp at hv hx; subst hv hx; exact ⟨h1, c1⟩
  | 1 => simp at hv hx; subst hv hx; exact ⟨h2, c2⟩
  | 2 => simp at hv hx; subst hv hx; exact ⟨h3, c3⟩
  | n + 3 => simp at hv

theorem conv_lit (w : World) (C : Array Value) (n c k : Nat) (h : w.heap.size = k) : (convert 25 25 (.slice (some ⟨k, 0, none⟩) n c)).run Tryz.prog (w.alloc (.cells C 5)) = .ok (.slice (some ⟨k, 0, none⟩) n c) (w.alloc (.cells C 5 (C.size, C.size + 1))) := by
  subst h
  exact Lib.run_convert_bytes_const (P := Tryz.prog) w 25 5 C n c Tryz.underlying25 Tryz.underlying5
theorem gb_of_below {W W' : World} (h : Below W.heap.size W W') (g : Nat) : W.grownBy W' (some g) := ⟨h.os, h.tape, h.output, h.size, fun k hk _ => h.block k hk⟩
theorem cells_new {w : World} (cs : Array Value) (t : TypeId) {n : Nat} (h : w.heap.size = n) : ∀ j u, cs.toList[j]? = some u → (w.alloc (.cells cs t)).cell? ((⟨n, 0, none⟩ : Addr).add j) = some u := by
  intro j u hu
  subst h
  rw [add_plain]
  have hn := World.alloc_heap_new w (.cells cs t)
  unfold World.cell?
  dsimp only
  rw [hn]
  simpa using hu
end Go.Proofs.YtbiinfnekhhfkaaGreat

/- Where words stand in a text (layer 6): the test and the iterator, walked. -/


namespace Go.Proofs.YtbiinfnekhhfkaaGreat
open Go.RowKit Go.Sort
set_option linter.unusedVariables false
attribute [local go_sem] Oper.semAt_some
attribute [local simp] wide_fn wide_depth
attribute [local go_sem] wide_fn wide_depth

theorem stands_is {fold : Bool} {wss : List (List Int)} {text : List Int} {p k : Nat} {x : List Int} (hx : wss[k]? = some x) : stands fold wss text p k = atL fold text (p : Int) x := by
  unfold stands
  rw [hx, Option.getD_some]

end Go.Proofs.YtbiinfnekhhfkaaGreat

/- Slices of cells, slices of hits; append of them (layer 6). -/




namespace Go.Proofs.YtbiinfnekhhfkaaGreat
open Go.RowKit Go.Sort
set_option linter.unusedVariables false

/-- A slice whose elements have some cells each: what they hold. -/
def SlK (size : Nat) (w : World) (a : Option Addr) (len : Nat) (cs : List Value) : Prop :=
  cs.length = len * size ∧ (len = 0 ∨ ∃ b off, a = some ⟨b, off, none⟩ ∧ b < w.heap.size ∧ ∀ (i : Nat) (u : Value), cs[i]? = some u → w.cell? ⟨b, off + i, none⟩ = some u)
theorem SlK.below {size : Nat} {w w' : World} {a : Option Addr} {len : Nat} {cs : List Value} (h : SlK size w a len cs) (hb : Below w.heap.size w w') : SlK size w' a len cs := by
  obtain ⟨h1, h2 | ⟨b, off, e, hlt, hc⟩⟩ := h
  · exact ⟨h1, .inl h2⟩
  · exact ⟨h1, .inr ⟨b, off, e, Nat.lt_of_lt_of_le hlt hb.size, fun i u hu => (hb.cell (p := ⟨b, off + i, none⟩) hlt).trans (hc i u hu)⟩⟩
theorem SlK.kept {size : Nat} {w w' : World} {a : Option Addr} {len : Nat} {cs : List Value} (h : SlK size w a len cs) (hk : kept w w') (hs : w.heap.size ≤ w'.heap.size) : SlK size w' a len cs := by
  obtain ⟨h1, h2 | ⟨b, off, e, hlt, hc⟩⟩ := h
  · exact ⟨h1, .inl h2⟩
  · exact ⟨h1, .inr ⟨b, off, e, Nat.lt_of_lt_of_le hlt hs, fun i u hu => (kept_cell hk (p := ⟨b, off + i, none⟩) hlt).trans (hc i u hu)⟩⟩
theorem SlK.news {size : Nat} {w : World} {ad : Addr} {m : Nat} {cs : List Value} (h : SlK size w (some ad) m cs) : ∀ j u, cs[j]? = some u → w.cell? (ad.add j) = some u := by
  intro j u hu
  obtain ⟨h1, h2⟩ := h
  have hj := (List.getElem?_eq_some_iff.1 hu).1
  have h0 : m ≠ 0 := by
    intro e
    subst e
    rw [h1, Nat.zero_mul] at hj
    omega
  obtain ⟨b, off, e, hlt, hc⟩ := h2.resolve_left h0
  obtain rfl := Option.some.inj e
  rw [add_plain]
  exact hc j u hu
theorem SlK.own {size base n : Nat} {w : World} {e : TypeId} {v : Value} {cs : List Value} (h : w.ownsRow base e size v n cs) : ∃ a c, v = .slice a n c ∧ n ≤ c ∧ SlK size w a n cs := by
  have hl := h.1
  rcases h.2 with ⟨rfl, rfl⟩ | ⟨g, cap, cur, rfl, hg, hh, hn, _, _, hc⟩
  · exact ⟨none, 0, rfl, Nat.le_refl _, hl, .inl rfl⟩
  · refine ⟨_, cap, rfl, hn, hl, .inr ⟨g, 0, rfl, (Array.getElem?_eq_some_iff.1 hh).1, fun i x hx => ?_⟩⟩
    have := h.cells (g := g) rfl i x hx
    rwa [add_plain] at this

theorem run_append_slK {P : Program} (w : World) (base : Nat) (t ty e : TypeId) (i : TypeInfo) (z : Value) (size bytes : Nat) (ht : P.underlying t = some (.slice e)) (hi : P.info? e = some i) (hz : i.zero = some z)
    (hsize : i.size = size) (hby : i.bytes = bytes) (hzs : z.cells.size = size) (hsz : 0 < size) (v : Value) (n : Nat) (xs : List Value) (hown : w.ownsRow base e size v n xs)
    (A : Option Addr) (m c : Nat) (cs : List Value) (hs : SlK size w A m cs) (hone : ∀ u ∈ cs, u.oneCell' = true) (h63 : n + m ≤ maxLen) (hbytes : (n + m) * bytes ≤ 140737488355328) (hbase : base ≤ w.heap.size) :
    ∃ v' w', (Builtin.append_ #[t, t] ty #[v, .slice A m c]).run P w = .ok v' w' ∧ w'.ownsRow base e size v' (n + m) (xs ++ cs) ∧ w.grownBy w' v.ownBlock ∧
      (v'.ownBlock = v.ownBlock ∨ v'.ownBlock = some w.heap.size) := by
  cases A with
  | some ad =>
    obtain ⟨v', w', hr, h2, h3, _, h5⟩ := run_append_own_at (P := P) w base t ty e i z size bytes ht hi hz hsize hby hzs hsz v n xs hown ad m c cs hs.1 hs.news hone h63 hbytes hbase
    exact ⟨v', w', hr, h2, h3, h5⟩
  | none =>
    have hm : m = 0 := hs.2.elim id fun ⟨b, off, e, _⟩ => by cases e
    subst hm
    have hy : cs = [] := List.eq_nil_of_length_eq_zero (by rw [hs.1, Nat.zero_mul])
    subst hy
    refine ⟨v, w, ?_, by simpa using hown, World.grownBy.refl w _, .inl rfl⟩
    rcases hown.2 with ⟨rfl, rfl⟩ | ⟨g, cap, cur, rfl, _, _, hnc, _⟩
    · simp [Builtin.append_, run_underlying ht, sizeOf, typeInfo, hi, Builtin.lenOf, Builtin.firstCells]
    · simp [Builtin.append_, run_underlying ht, sizeOf, typeInfo, hi, Builtin.lenOf, Builtin.firstCells, hnc, storeCells]

theorem wpList_append_slK {P : Program} {w : World} {ops : Array Oper} {rest : List Oper} {o : Oper} {a : Act} {Q : Exit → Act → World → Prop} (hgd : o.guard = none) (s x : Operand) (t : TypeId)
    (ho : o.op = .call { callee := .builtin .append, args := #[s, x], argTypes := #[t, t] })
    (base : Nat) (e : TypeId) (i : TypeInfo) (z : Value) (size bytes : Nat) (ht : P.underlying t = some (.slice e)) (hi : P.info? e = some i) (hz : i.zero = some z) (hsize : i.size = size) (hby : i.bytes = bytes) (hzs : z.cells.size = size) (hsz : 0 < size)
    (v : Value) (n : Nat) (xs : List Value) (hs : a.eval s = v) (hown : w.ownsRow base e size v n xs) (A : Option Addr) (m c : Nat) (cs : List Value) (hx : a.eval x = .slice A m c) (hsl : SlK size w A m cs) (hone : ∀ u ∈ cs, u.oneCell' = true)
    (h63 : n + m ≤ maxLen) (hbytes : (n + m) * bytes ≤ 140737488355328) (hbase : base ≤ w.heap.size)
    (h : ∀ v' w', w'.ownsRow base e size v' (n + m) (xs ++ cs) → w.grownBy w' v.ownBlock → (v'.ownBlock = v.ownBlock ∨ v'.ownBlock = some w.heap.size) → wpList P ops Q rest (a.put o.dst v') w') : wpList P ops Q (o :: rest) a w := by
  refine wpList_plain hgd fun K hK => ?_
  obtain ⟨v', w', hr, h2, h3, h4⟩ := run_append_slK (P := P) w base t o.type e i z size bytes ht hi hz hsize hby hzs hsz v n xs hown A m c cs hsl hone h63 hbytes hbase
  unfold Oper.wp execOp
  simp only [ho, resolve, invoke, builtin, Sem.run_bind, Sem.run_pure, Result.andThen_ok, List.map_toArray, List.map_cons, List.map_nil, hs, hx, hr]
  exact hK _ _ (h v' w' h2 h3 h4)

theorem wpListIn_append_slK {F : Fence} {k : Nat} {P : Program} (w : World) {ops : Array Oper} {rest : List Oper} {o : Oper} {a : Act} {Q : Exit → Act → World → Prop} (hgd : o.guard = none) (s x : Operand) (t : TypeId)
    (hop : o.op = .call { callee := .builtin .append, args := #[s, x], argTypes := #[t, t] })
    (base : Nat) (e : TypeId) (i : TypeInfo) (z : Value) (size bytes : Nat) (ht : P.underlying t = some (.slice e)) (hi : P.info? e = some i) (hz : i.zero = some z) (hsize : i.size = size) (hby : i.bytes = bytes) (hzs : z.cells.size = size) (hsz : 0 < size)
    (v : Value) (n : Nat) (xs : List Value) (hs : a.eval s = v) (hown : w.ownsRow base e size v n xs) (A : Option Addr) (m c : Nat) (cs : List Value) (hx : a.eval x = .slice A m c) (hsl : SlK size w A m cs) (hone : ∀ u ∈ cs, u.oneCell' = true)
    (h63 : n + m ≤ maxLen) (hbytes : (n + m) * bytes ≤ 140737488355328) (hbase : base ≤ w.heap.size)
    (h : ∀ v' w', w'.ownsRow base e size v' (n + m) (xs ++ cs) → w.grownBy w' v.ownBlock → (v'.ownBlock = v.ownBlock ∨ v'.ownBlock = some w.heap.size) → wpListIn F k P ops Q rest (a.put o.dst v') w') : wpListIn F k P ops Q (o :: rest) a w := by
  refine wpListIn_plain hgd fun K hK' => ?_
  obtain ⟨v', w', hrun, r1, r2, r3⟩ := run_append_slK (P := P) w base t o.type e i z size bytes ht hi hz hsize hby hzs hsz v n xs hown A m c cs hsl hone h63 hbytes hbase
  unfold Oper.wpIn
  refine ⟨?_, ?_⟩
  · simp [Oper.about, hop, resolve, Target.leads, Sem.run_pure]
  · rw [Oper.semAt_plain F _ _ (by rw [hop]; intro c hc'; cases hc')]
    simp [execOp, hop, resolve, invoke, builtin, hs, hx, hrun, Result.andThen]
    exact hK' _ _ (h v' w' r1 r2 r3)

/-! ### hits -/
def I64 (n : Int) : Prop := -9223372036854775808 ≤ n ∧ n ≤ 9223372036854775807
def hitE (h : HitP) : List Value := [.int .i64 h.1, .int .i64 h.2]
def hcells (l : List HitP) : List Value := l.flatMap hitE
theorem hcells_snoc (l : List HitP) (h : HitP) : hcells (l ++ [h]) = hcells l ++ [.int .i64 h.1, .int .i64 h.2] := by simp [hcells, hitE]
theorem hcells_append (l m : List HitP) : hcells (l ++ m) = hcells l ++ hcells m := by simp [hcells]
theorem hcells_length : ∀ (l : List HitP), (hcells l).length = l.length * 2
  | [] => rfl
  | h :: l => by
    have := hcells_length l
    simp only [hcells, hitE, List.flatMap_cons, List.length_append, List.length_cons, List.length_nil] at this ⊢
    omega
theorem hcells_at : ∀ {l : List HitP} {i : Nat} {h : HitP}, l[i]? = some h → (hcells l)[i * 2]? = some (.int .i64 h.1) ∧ (hcells l)[i * 2 + 1]? = some (.int .i64 h.2)
  | [], i, h, e => by simp at e
  | x :: l, 0, h, e => by
    simp at e
    subst e
    exact ⟨rfl, rfl⟩
  | x :: l, i + 1, h, e => by
    have ih := hcells_at (l := l) (i := i) (h := h) (by simpa using e)
    have hc : hcells (x :: l) = .int .i64 x.1 :: .int .i64 x.2 :: hcells l := rfl
    rw [hc, show (i + 1) * 2 = i * 2 + 1 + 1 by omega, show i * 2 + 1 + 1 + 1 = (i * 2 + 1) + 1 + 1 by omega]
    simpa using ih
theorem hcells_one (l : List HitP) : ∀ u ∈ hcells l, u.oneCell' = true := by
  intro u hu
  simp only [hcells, List.mem_flatMap, hitE] at hu
  obtain ⟨h, _, hu⟩ := hu
  simp at hu
  rcases hu with rfl | rfl <;> rfl

def Hts (w : World) (a : Option Addr) (len : Nat) (l : List HitP) : Prop := SlK 2 w a len (hcells l) ∧ ∀ h ∈ l, I64 h.1 ∧ I64 h.2
theorem Hts.below {w w' : World} {a : Option Addr} {len : Nat} {l : List HitP} (h : Hts w a len l) (hb : Below w.heap.size w w') : Hts w' a len l := ⟨h.1.below hb, h.2⟩
theorem Hts.len {w : World} {a : Option Addr} {len : Nat} {l : List HitP} (h : Hts w a len l) : l.length = len := by
  have := h.1.1
  rw [hcells_length] at this
  omega
theorem Hts.at_ {w : World} {a : Option Addr} {len : Nat} {l : List HitP} (h : Hts w a len l) {k : Nat} (hk : k < len) :
    ∃ b off x, a = some ⟨b, off, none⟩ ∧ b < w.heap.size ∧ w.cell? ⟨b, off + k * 2, none⟩ = some (.int .i64 x.1) ∧ w.cell? ⟨b, off + k * 2 + 1, none⟩ = some (.int .i64 x.2) ∧ l[k]? = some x ∧ I64 x.1 ∧ I64 x.2 := by
  have hl := h.len
  obtain ⟨b, off, e, hlt, hc⟩ := h.1.2.resolve_left (by omega)
  obtain ⟨x, hx⟩ : ∃ x, l[k]? = some x := ⟨l[k]'(by omega), by simp⟩
  obtain ⟨c0, c1⟩ := hcells_at hx
  exact ⟨b, off, x, e, hlt, hc _ _ c0, by rw [Nat.add_assoc]; exact hc _ _ c1, hx, (h.2 x (List.mem_of_getElem? hx)).1, (h.2 x (List.mem_of_getElem? hx)).2⟩
theorem Hts.cut {w : World} {a : Option Addr} {n : Nat} {l : List HitP} (h : Hts w a n l) {lo m : Nat} (hm : lo + m ≤ n) : Hts w (a.map (·.add (lo * 2))) m ((l.drop lo).take m) := by
  have hl := h.len
  refine ⟨⟨by rw [hcells_length]; simp; omega, ?_⟩, fun x hx => h.2 x (List.mem_of_mem_drop (List.mem_of_mem_take hx))⟩
  by_cases h0 : m = 0
  · exact .inl h0
  · right
    obtain ⟨b, off, rfl, hlt, hcell⟩ := h.1.2.resolve_left (by omega)
    refine ⟨b, off + lo * 2, by simp [add_plain], hlt, fun i u hu => ?_⟩
    have hi := (List.getElem?_eq_some_iff.1 hu).1
    rw [hcells_length] at hi
    simp at hi
    rw [Nat.add_assoc]
    refine hcell _ u ?_
    have e1 : hcells l = hcells (l.take lo) ++ (hcells ((l.drop lo).take m) ++ hcells ((l.drop lo).drop m)) := by
      rw [← hcells_append, ← hcells_append, List.take_append_drop, List.take_append_drop]
    rw [e1, List.getElem?_append_right (by rw [hcells_length]; simp; omega), hcells_length, List.length_take, Nat.min_eq_left (by omega), Nat.add_sub_cancel_left, List.getElem?_append_left (by rw [hcells_length]; simp; omega)]
    exact hu
theorem Hts.cut0 {w : World} {a : Option Addr} {l : List HitP} {lo m : Nat} (hm : m = 0) (hb : ∀ h ∈ l, I64 h.1 ∧ I64 h.2) : Hts w a m ((l.drop lo).take m) := by
  subst hm
  exact ⟨⟨rfl, .inl rfl⟩, fun x hx => by simp at hx⟩

abbrev OwnH (w : World) (base : Nat) (v : Value) (l : List HitP) : Prop := w.ownsRow base 61 2 v l.length (hcells l)
theorem OwnH.hts {w : World} {base : Nat} {v : Value} {l : List HitP} (h : OwnH w base v l) (hb : ∀ x ∈ l, I64 x.1 ∧ I64 x.2) : ∃ a c, v = .slice a l.length c ∧ l.length ≤ c ∧ Hts w a l.length l := by
  obtain ⟨a, c, e, hc, h1⟩ := SlK.own h
  exact ⟨a, c, e, hc, h1, hb⟩
theorem hit_info : (Tryz.prog.info? 61).map (fun i => (i.zero, i.size, i.bytes)) = some (some (.agg #[.int .i64 0, .int .i64 0]), 2, 16) := by kernel_rfl

end Go.Proofs.YtbiinfnekhhfkaaGreat
