/- Parts of the proof, one behind the other: D3, Ep, Eq, D4, D5, D6, D7, Er, Tp, Tq, Cp. No condition but what each theorem states. -/
import Derived.Deep.AppendLies
import Derived.Deep.DrawnRows
import Derived.Deep.RegionHeld3
import Derived.Deep.RegionLaw
import Derived.Lib.SmallJoins
import Derived.Test.YtbldfgaogmfoaaaGreatZP2
set_option linter.unusedVariables false
set_option linter.unusedSimpArgs false

/- How many nodes words have, by the document (layer 5): walked. -/

namespace Go.Proofs.YtbldfgaogmfoaaaGreat
open Go.RowKit Go.Sort

def oldR (fold : Bool) (pre : List (List Int)) (x : List Int) : Int := pre.foldl (fun m y => max m (commonL (foldL fold x) (foldL fold y) : Int)) 0
def nodesG (fold : Bool) : List (List Int) → List (List Int) → Int → Int
 | _, [], n => n
 | pre, x :: rest, n => nodesG fold (pre ++ [x]) rest (n + x.length - oldR fold pre x)
def nodesR (fold : Bool) (wss : List (List Int)) : Int := nodesG fold [] wss 1
theorem oldR_snoc (fold : Bool) (pre : List (List Int)) (x y : List Int) : oldR fold (pre ++ [y]) x = max (oldR fold pre x) (commonL (foldL fold x) (foldL fold y) : Int) := by simp [oldR, List.foldl_append]
theorem nodesG_snoc (fold : Bool) : ∀ (rest pre : List (List Int)) (x : List Int) (n : Int), nodesG fold pre (rest ++ [x]) n = nodesG fold pre rest n + x.length - oldR fold (pre ++ rest) x
 | [], pre, x, n => by simp [nodesG]
 | y :: rest, pre, x, n => by
  rw [List.cons_append, nodesG, nodesG, nodesG_snoc fold rest (pre ++ [y]) x]
  simp
theorem nodesR_snoc (fold : Bool) (l : List (List Int)) (x : List Int) : nodesR fold (l ++ [x]) = nodesR fold l + x.length - oldR fold l x := by
 unfold nodesR
 rw [nodesG_snoc, List.nil_append]
theorem commonL_le : ∀ (xs ys : List Int), commonL xs ys ≤ xs.length
 | [], _ => by simp [commonL]
 | _ :: _, [] => by simp [commonL]
 | x :: xs, y :: ys => by
  have := commonL_le xs ys
  unfold commonL
  split <;> simp <;> omega
theorem oldR_bd (fold : Bool) (x : List Int) (pre : List (List Int)) : 0 ≤ oldR fold pre x ∧ oldR fold pre x ≤ x.length := by
 obtain ⟨n, hn⟩ : ∃ n, pre.length = n := ⟨_, rfl⟩
 induction n generalizing pre with
 | zero => obtain rfl := List.eq_nil_of_length_eq_zero hn; simp [oldR]
 | succ n ih =>
  obtain ⟨l', y, rfl⟩ : ∃ l' y, pre = l' ++ [y] := ⟨pre.dropLast, pre.getLast (by intro h; simp [h] at hn), (List.dropLast_concat_getLast _).symm⟩
  have h1 := ih l' (by simpa using hn)
  have h2 := commonL_le (foldL fold x) (foldL fold y)
  rw [foldL_length] at h2
  rw [oldR_snoc]
  omega
theorem nodesR_bd {fold : Bool} {M : Nat} (l : List (List Int)) (h : ∀ x ∈ l, x.length ≤ M) : 1 ≤ nodesR fold l ∧ nodesR fold l ≤ 1 + l.length * (M : Int) := by
 obtain ⟨n, hn⟩ : ∃ n, l.length = n := ⟨_, rfl⟩
 induction n generalizing l with
 | zero => obtain rfl := List.eq_nil_of_length_eq_zero hn; simp [nodesR, nodesG]
 | succ n ih =>
  obtain ⟨l', x, rfl⟩ : ∃ l' x, l = l' ++ [x] := ⟨l.dropLast, l.getLast (by intro h; simp [h] at hn), (List.dropLast_concat_getLast _).symm⟩
  have h1 := ih l' (fun y hy => h y (by simp [hy])) (by simpa using hn)
  have h2 := oldR_bd fold x l'
  have hx := h x (by simp)
  rw [nodesR_snoc]
  have e : ((l' ++ [x]).length : Int) * (M : Int) = l'.length * (M : Int) + M := by
   rw [List.length_append, List.length_cons, List.length_nil, Int.natCast_add, Int.add_mul]; simp
  rw [e]
  omega

theorem text_c (fold : Bool) (a : Option Addr) (la ca : Nat) (xs : List Int) (w : World) (hA : Bys w a la xs) (hla : la ≤ 1000000) :
  Calls Tryz.prog 111 #[.bool fold, .slice a la ca] w fun e w' => ∃ a1 c1, e = .returned (.slice a1 la c1) ∧ Bys w' a1 la (foldL fold xs) ∧ Below w.heap.size w w' :=
 (text_any fold a la ca xs w hA hla).mono fun e w' ⟨v, he, hown, hb⟩ => by
  obtain ⟨a1, c1, rfl, _, h⟩ := own_bys hown (foldL_bd hA.2)
  exact ⟨a1, c1, he, h, hb⟩

set_option maxRecDepth 100000 in
set_option maxHeartbeats 4000000 in
theorem rnodes_any (fold : Bool) (a : Option Addr) (la ca : Nat) (wss : List (List Int)) (w : World) (hA : Wds w a la wss) (hla : la ≤ 1000000) (hM : ∀ x ∈ wss, x.length ≤ 1000000) :
    Calls Tryz.prog 136 #[.bool fold, .slice a la ca] w fun e w' => e = .returned (.int .i64 (nodesR fold wss)) ∧ Below w.heap.size w w' := by
  have HL := Lib.hid hA.len
  have HM := Lib.hid hM
  have HA := Lib.hid hA
  clear hA hM
  go_enter Tryz.func136, Tryz.ntmps136
  go_wp2
  go_loopw [5, 6] (fun s i wr => ∃ (k : Nat) (n : Int), k ≤ la ∧ i = .int .i64 k ∧ s = .int .i64 n ∧ Hid (n = nodesR fold (wss.take k)) ∧ Below w.heap.size w wr) (fun _ i _ => la - (intOf i).toNat)
  case atStart => exact ⟨0, 1, Nat.zero_le _, rfl, rfl, by simp [Hid, nodesR, nodesG], Below.refl _ _⟩
  case round =>
    obtain ⟨k, n, hk, rfl, rfl, HN, hBe⟩ := hrel
    by_cases hlt : k < la
    · obtain ⟨bb, off, a', l, c, x, rfl, hbl, hcell0, hx, hX, hlc⟩ := HA.out.at_ hlt
      have hxl : l ≤ 1000000 := by have := mem_bd HM.out hx; rw [hX.len] at this; exact this
      have HX := Lib.hid hx
      have HXX := Lib.hid hX
      have hcell : ∀ v : World, Below w.heap.size w v → v.cell? ⟨bb, off + k, none⟩ = some (.slice a' l c) := fun v hv => (hv.cell (p := ⟨bb, off + k, none⟩) hbl).trans hcell0
      have HCL := Lib.hid hcell
      clear hx hX hcell hcell0
      go_wp2
      go_loopw [7, 8] (fun o i wr => ∃ (j : Nat) (m : Int), j ≤ k ∧ i = .int .i64 j ∧ o = .int .i64 m ∧ Hid (m = oldR fold (wss.take j) x) ∧ Below w.heap.size w wr) (fun _ i _ => k - (intOf i).toNat)
      case atStart => exact ⟨0, 0, Nat.zero_le _, rfl, rfl, by simp [Hid, oldR], hBe⟩
      case round =>
        clear hBe
        obtain ⟨j, m, hj, rfl, rfl, HO, hBe⟩ := hrel
        by_cases hjk : j < k
        · obtain ⟨b2, off2, a2, l2, c2, y, e2, hbl2, hcell2, hy, hY, hlc2⟩ := HA.out.at_ (show j < la by omega)
          simp only [Option.some.injEq, Addr.mk.injEq, and_true] at e2
          obtain ⟨rfl, rfl⟩ := e2
          have hyl : l2 ≤ 1000000 := by have := mem_bd HM.out hy; rw [hY.len] at this; exact this
          have HCL2 : Hid (∀ v : World, Below w.heap.size w v → v.cell? ⟨bb, off + j, none⟩ = some (.slice a2 l2 c2)) := fun v hv => (hv.cell (p := ⟨bb, off + j, none⟩) hbl2).trans hcell2
          have HS : Hid (max m (commonL (foldL fold x) (foldL fold y) : Int) = oldR fold (wss.take (j + 1)) x) := by
            rw [Hid, HO.out, take_step (show wss[j]? = some y from hy), oldR_snoc]
          have HYY := Lib.hid hY
          clear hcell2 hy hY
          have hXd : Bys wr.drew a' l x := HXX.out.below (hBe.trans ⟨rfl, rfl, rfl, Nat.le_refl _, fun _ _ => rfl⟩)
          have hBd : Below w.heap.size w wr.drew := hBe.trans ⟨rfl, rfl, rfl, Nat.le_refl _, fun _ _ => rfl⟩
          have k1 := HCL.out wr hBe
          have k2 := HCL2.out wr hBe
          have i1 : (0 : Int) ≤ (j : Int) := by omega
          have i2 : (j : Int) < (la : Int) := by omega
          have i3 : (0 : Int) ≤ (k : Int) := by omega
          have i4 : (k : Int) < (la : Int) := by omega
          go_wp2
          go_region_held3 (fun w' => w'.cell? ⟨bb, off + k, none⟩ = some (.slice a' l c) ∧ w'.cell? ⟨bb, off + j, none⟩ = some (.slice a2 l2 c2)) (go_keep) (first
            | (go_at_call 111; refine (text_c fold a' l c x wr.drew hXd hxl).mono ?_; rintro e w1 ⟨a1, c1, rfl, h12, hb1⟩
               have hBe1 : Below w.heap.size w w1 := hBd.trans (hb1.mono hBd.size)
               have d1 := HCL.out w1 hBe1
               have d2 := HCL2.out w1 hBe1
               have hY1 := HYY.out.below hBe1
               clear hXd)
            | (go_at_call 111; refine (text_c fold a2 l2 c2 y w1 hY1 hyl).mono ?_; rintro e w2 ⟨a3, c3, rfl, h22, hb2⟩
               have hBe2 : Below w.heap.size w w2 := hBe1.trans (hb2.mono hBe1.size)
               have d3 := HCL.out w2 hBe2
               have d4 := HCL2.out w2 hBe2
               have h12b := h12.below hb2
               clear hY1)
            | (go_at_call 149; refine (common_any a1 a3 l c1 l2 c3 _ _ w2 h12b h22 hxl hyl).mono ?_; rintro e w3 ⟨rfl, hb3⟩
               have hBe3 : Below w.heap.size w w3 := hBe2.trans (hb3.mono hBe2.size)
               have d5 := HCL.out w3 hBe3
               have d6 := HCL2.out w3 hBe3))
          all_goals
            go_wp2
            go_roundw
            case rel => exact ⟨j + 1, _, by omega, by go_num, rfl, HS, hBe3⟩
            case measure => simp [intOf]; omega
        · obtain rfl : j = k := by omega
          have hob := oldR_bd fold x (wss.take j)
          have hnb := nodesR_bd (fold := fold) (M := 1000000) (wss.take j) (fun y hy => HM.out y (List.mem_of_mem_take hy))
          rw [← HO.out, HXX.out.len] at hob
          rw [← HN.out, List.length_take] at hnb
          have hnb2 : n ≤ 1 + 1000000 * 1000000 := by omega
          have HS : Hid (n + (l : Int) - m = nodesR fold (wss.take (j + 1))) := by rw [Hid, take_step HX.out, nodesR_snoc, HXX.out.len, ← HN.out, ← HO.out]
          have k1 := HCL.out wr hBe
          have hn1 := hnb.1
          clear hnb
          go_wp2
          go_roundw
          case rel => exact ⟨j + 1, _, by omega, by go_num, rfl, HS, hBe⟩
          case measure => simp [intOf]; omega
    · obtain rfl : k = la := by omega
      have HF : Hid (n = nodesR fold wss) := by
        have h := HN.out
        rwa [List.take_of_length_le (by have := HL.out; omega)] at h
      go_wp2
      go_ret
      exact ⟨by rw [← HF.out]; rfl, hBe⟩

end Go.Proofs.YtbldfgaogmfoaaaGreat

/- The code's way to count nodes tells what the document's does: paths. -/

namespace Go.Proofs.YtbldfgaogmfoaaaGreat

/-- The paths that there are, and the one at which one is. -/
def pstep (s : List (List Int) × List Int) (p : Bool × Int) : List (List Int) × List Int :=
 let q := (if p.1 then [] else s.2) ++ [p.2]
 (if q ∈ s.1 then s.1 else s.1 ++ [q], q)
def prun (l : List (Bool × Int)) : List (List Int) × List Int := l.foldl pstep ([[]], [])
theorem prun_snoc (l : List (Bool × Int)) (p : Bool × Int) : prun (l ++ [p]) = pstep (prun l) p := by simp [prun, List.foldl_append]

structure Rep (s : NSt) (ps : List (List Int)) (p : List Int) : Prop where
 many : s.many = ps.length
 nodup : ps.Nodup
 root : ps[0]? = some []
 closed : ∀ (q : List Int) (c : Int), q ++ [c] ∈ ps → q ∈ ps
 at_ : ∃ n : Nat, s.node = n ∧ ps[n]? = some p
 down : ∀ (i c m : Int), s.f (i, c) = some m → ∃ (a b : Nat) (q : List Int), i = a ∧ m = b ∧ ps[a]? = some q ∧ ps[b]? = some (q ++ [c])
 up : ∀ (a b : Nat) (q : List Int) (c : Int), ps[a]? = some q → ps[b]? = some (q ++ [c]) → s.f ((a : Int), c) = some (b : Int)

theorem nodup_at {ps : List (List Int)} (h : ps.Nodup) {a b : Nat} {q : List Int} (ha : ps[a]? = some q) (hb : ps[b]? = some q) : a = b := by
 have h1 := (List.getElem?_eq_some_iff.1 ha)
 have h2 := (List.getElem?_eq_some_iff.1 hb)
 obtain ⟨l1, e1⟩ := h1
 obtain ⟨l2, e2⟩ := h2
 exact (List.getElem_inj h).1 (e1.trans e2.symm)

theorem rep_step {s : NSt} {ps : List (List Int)} {p : List Int} (h : Rep s ps p) (x : Bool × Int) : Rep (nstep s x) (pstep (ps, p) x).1 (pstep (ps, p) x).2 := by
 obtain ⟨n0, hn0, hp0⟩ := h.at_
 obtain ⟨n, r, hn, hr, hq⟩ : ∃ (n : Nat) (r : List Int), (if x.1 then 0 else s.node) = (n : Int) ∧ ps[n]? = some r ∧ (if x.1 then [] else p) = r := by
  cases x.1 with
  | true => exact ⟨0, [], rfl, h.root, rfl⟩
  | false => exact ⟨n0, p, hn0, hp0, rfl⟩
 have hps : pstep (ps, p) x = (if r ++ [x.2] ∈ ps then ps else ps ++ [r ++ [x.2]], r ++ [x.2]) := by
  unfold pstep
  simp only [hq]
 rw [hps]
 by_cases hm : r ++ [x.2] ∈ ps
 ·
  obtain ⟨b, hb⟩ := List.getElem?_of_mem hm
  have hf := h.up n b r x.2 hr hb
  have hs : nstep s x = { s with node := (b : Int) } := nstep_found (by rw [hn]; exact hf)
  rw [hs, if_pos hm]
  exact ⟨h.many, h.nodup, h.root, h.closed, ⟨b, rfl, hb⟩, h.down, h.up⟩
 ·
  have hf : s.f ((n : Int), x.2) = none := by
   cases e : s.f ((n : Int), x.2) with
   | none => rfl
   | some m =>
    obtain ⟨a, b, q, h1, h2, h3, h4⟩ := h.down _ _ _ e
    have : n = a := by omega
    subst this
    rw [hr] at h3
    obtain rfl := Option.some.inj h3
    exact absurd (List.mem_of_getElem? h4) hm
  have hs := nstep_new (s := s) (p := x) (by rw [hn]; exact hf)
  rw [hs, if_neg hm, hn]
  have hlt : ∀ {i : Nat} {q : List Int}, ps[i]? = some q → (ps ++ [r ++ [x.2]])[i]? = some q := by
   intro i q hi
   rw [List.getElem?_append_left (List.getElem?_eq_some_iff.1 hi).1, hi]
  have hlast : (ps ++ [r ++ [x.2]])[ps.length]? = some (r ++ [x.2]) := by simp
  refine ⟨?_, ?_, hlt h.root, ?_, ⟨ps.length, h.many, hlast⟩, ?_, ?_⟩
  · simp [h.many]
  ·
   rw [List.nodup_append]
   refine ⟨h.nodup, by simp, ?_⟩
   intro a ha b hb
   simp at hb
   rw [hb]
   exact fun e => hm (e ▸ ha)
  ·
   intro q c hq
   rcases List.mem_append.1 hq with hq | hq
   · exact List.mem_append_left _ (h.closed q c hq)
   ·
    simp at hq
    rw [hq.1]
    exact List.mem_append_left _ (List.mem_of_getElem? hr)
  ·
   intro i c m hi
   dsimp only at hi
   by_cases e : (i, c) = ((n : Int), x.2)
   ·
    rw [if_pos e] at hi
    simp only [Prod.mk.injEq] at e
    obtain ⟨rfl, rfl⟩ := e
    refine ⟨n, ps.length, r, rfl, ?_, hlt hr, hlast⟩
    rw [← Option.some.inj hi, h.many]
   ·
    rw [if_neg e] at hi
    obtain ⟨a, b, q, h1, h2, h3, h4⟩ := h.down i c m hi
    exact ⟨a, b, q, h1, h2, hlt h3, hlt h4⟩
  ·
   intro a b q c ha hb
   dsimp only
   rw [List.getElem?_append] at ha hb
   by_cases hbl : b < ps.length
   ·
    rw [if_pos hbl] at hb
    by_cases hal : a < ps.length
    ·
     rw [if_pos hal] at ha
     rw [if_neg]
     · exact h.up a b q c ha hb
     ·
      intro e
      simp only [Prod.mk.injEq] at e
      obtain ⟨e1, rfl⟩ := e
      have : a = n := by omega
      subst this
      rw [hr] at ha
      obtain rfl := Option.some.inj ha
      exact hm (List.mem_of_getElem? hb)
    ·
     exfalso
     rw [if_neg hal] at ha
     have h0 : a - ps.length = 0 := by have := (List.getElem?_eq_some_iff.1 ha).1; simp at this; omega
     rw [h0] at ha
     simp at ha
     subst ha
     exact hm (h.closed _ _ (List.mem_of_getElem? hb))
   ·
    rw [if_neg hbl] at hb
    have h0 : b - ps.length = 0 := by have := (List.getElem?_eq_some_iff.1 hb).1; simp at this; omega
    rw [h0] at hb
    simp at hb
    obtain ⟨h1, h2⟩ := hb
    subst h1 h2
    by_cases hal : a < ps.length
    ·
     rw [if_pos hal] at ha
     have := nodup_at h.nodup ha hr
     subst this
     rw [if_pos rfl, h.many, show b = ps.length by omega]
    ·
     exfalso
     rw [if_neg hal] at ha
     have h0 : a - ps.length = 0 := by have := (List.getElem?_eq_some_iff.1 ha).1; simp at this; omega
     rw [h0] at ha
     simp at ha

end Go.Proofs.YtbldfgaogmfoaaaGreat

/- The code's count of nodes is the document's (layer 5). -/

namespace Go.Proofs.YtbldfgaogmfoaaaGreat

theorem rep_run (l : List (Bool × Int)) : Rep (nrun l) (prun l).1 (prun l).2 := by
 obtain ⟨n, hn⟩ : ∃ n, l.length = n := ⟨_, rfl⟩
 induction n generalizing l with
 | zero =>
  obtain rfl := List.eq_nil_of_length_eq_zero hn
  refine ⟨rfl, by simp [prun], rfl, ?_, ⟨0, rfl, rfl⟩, fun i c m h => by simp [nrun] at h, ?_⟩
  ·
   intro q c h
   simp [prun] at h
  ·
   intro a b q c ha hb
   have := List.mem_of_getElem? hb
   simp [prun] at this
 | succ n ih =>
  obtain ⟨l', x, rfl⟩ : ∃ l' x, l = l' ++ [x] := ⟨l.dropLast, l.getLast (by intro h; simp [h] at hn), (List.dropLast_concat_getLast _).symm⟩
  rw [nrun_snoc, prun_snoc]
  exact rep_step (ih l' (by simpa using hn)) x

/-- Which paths there are: the beginnings of the words. -/
def Begs (fold : Bool) (wss : List (List Int)) (q : List Int) : Prop := q = [] ∨ ∃ w ∈ wss, q <+: foldL fold w

theorem common_prefix : ∀ {j : Nat} {ys zs : List Int}, j ≤ ys.length → (ys.take j <+: zs ↔ j ≤ commonL ys zs)
 | 0, ys, zs, _ => by simp
 | j + 1, [], zs, h => by simp at h
 | j + 1, y :: ys, [], h => by simp [commonL]
 | j + 1, y :: ys, z :: zs, h => by
  have ih := common_prefix (j := j) (ys := ys) (zs := zs) (by simpa using h)
  rw [List.take_succ_cons, List.cons_prefix_cons]
  unfold commonL
  by_cases e : y = z
  · simp [e, ih]
  · simp [e]
theorem oldR_le (fold : Bool) (x : List Int) {j : Nat} (hj : 1 ≤ j) (pre : List (List Int)) : (j : Int) ≤ oldR fold pre x ↔ ∃ w ∈ pre, j ≤ commonL (foldL fold x) (foldL fold w) := by
 obtain ⟨n, hn⟩ : ∃ n, pre.length = n := ⟨_, rfl⟩
 induction n generalizing pre with
 | zero => obtain rfl := List.eq_nil_of_length_eq_zero hn; simp [oldR]; omega
 | succ n ih =>
  obtain ⟨l', y, rfl⟩ : ∃ l' y, pre = l' ++ [y] := ⟨pre.dropLast, pre.getLast (by intro h; simp [h] at hn), (List.dropLast_concat_getLast _).symm⟩
  have h1 := ih l' (by simpa using hn)
  rw [oldR_snoc]
  constructor
  ·
   intro h
   by_cases h2 : (j : Int) ≤ oldR fold l' x
   ·
    obtain ⟨w, hw, hc⟩ := h1.1 h2
    exact ⟨w, by simp [hw], hc⟩
   · exact ⟨y, by simp, by omega⟩
  ·
   rintro ⟨w, hw, hc⟩
   rcases List.mem_append.1 hw with hw | hw
   ·
    have := h1.2 ⟨w, hw, hc⟩
    omega
   ·
    simp at hw
    subst hw
    omega

theorem pstep_def (s : List (List Int) × List Int) (p : Bool × Int) : pstep s p = (if ((if p.1 = true then [] else s.2) ++ [p.2]) ∈ s.1 then s.1 else s.1 ++ [(if p.1 = true then [] else s.2) ++ [p.2]], (if p.1 = true then [] else s.2) ++ [p.2]) := rfl
/-- The paths behind i bytes of a word. -/
theorem word_run (ys : List Int) (old : Nat) (ps : List (List Int)) (p : List Int) (hold : ∀ j, 1 ≤ j → j ≤ ys.length → (ys.take j ∈ ps ↔ j ≤ old)) :
  ∀ i, i ≤ ys.length → ∃ qs, (((begW ys).take i).foldl pstep (ps, p)).1 = qs ∧ qs.length = ps.length + (i - min i old) ∧ (1 ≤ i → (((begW ys).take i).foldl pstep (ps, p)).2 = ys.take i) ∧
   ∀ q, q ∈ qs ↔ q ∈ ps ∨ ∃ j, 1 ≤ j ∧ j ≤ i ∧ q = ys.take j
 | 0, _ => ⟨ps, by simp, by simp, by simp, fun q => by simp; intro j h1 h2; omega⟩
 | i + 1, hi => by
  obtain ⟨qs, h1, h2, h3, h4⟩ := word_run ys old ps p hold i (by omega)
  obtain ⟨c, hc⟩ : ∃ c, ys[i]? = some c := ⟨ys[i]'(by omega), by simp⟩
  have hb := begW_at hc
  rw [take_step hb, List.foldl_append, List.foldl_cons, List.foldl_nil]
  have hq : (if ((i : Int) == 0) = true then [] else (((begW ys).take i).foldl pstep (ps, p)).2) ++ [c] = ys.take (i + 1) := by
   rw [take_step hc]
   by_cases h0 : i = 0
   · subst h0; simp
   ·
    have hne : ((i : Int) == 0) = false := by simp; omega
    rw [hne, h3 (by omega)]
    simp
  have hstep : pstep (((begW ys).take i).foldl pstep (ps, p)) (((i : Int) == 0), c) = (if ys.take (i + 1) ∈ qs then qs else qs ++ [ys.take (i + 1)], ys.take (i + 1)) := by
   rw [pstep_def]
   dsimp only
   rw [hq, h1]
  rw [hstep]
  have hmem : ys.take (i + 1) ∈ qs ↔ i + 1 ≤ old := by
   rw [h4, hold (i + 1) (by omega) hi]
   constructor
   ·
    rintro (h | ⟨j, hj1, hj2, e⟩)
    · exact h
    ·
     have := congrArg List.length e
     simp at this
     omega
   · exact fun h => .inl h
  by_cases hm : ys.take (i + 1) ∈ qs
  ·
   have ho := hmem.1 hm
   refine ⟨qs, by simp [hm], by rw [h2]; omega, fun _ => rfl, fun q => ?_⟩
   rw [h4]
   constructor
   ·
    rintro (h | ⟨j, hj1, hj2, e⟩)
    · exact .inl h
    · exact .inr ⟨j, hj1, by omega, e⟩
   ·
    rintro (h | ⟨j, hj1, hj2, e⟩)
    · exact .inl h
    ·
     by_cases hj : j = i + 1
     · subst hj; rw [e]; exact .inl ((hold _ hj1 hi).2 ho)
     · exact .inr ⟨j, hj1, by omega, e⟩
  ·
   have ho : ¬ i + 1 ≤ old := fun h => hm (hmem.2 h)
   refine ⟨qs ++ [ys.take (i + 1)], by simp [hm], by rw [List.length_append, h2]; simp; omega, fun _ => rfl, fun q => ?_⟩
   rw [List.mem_append, h4]
   constructor
   ·
    rintro ((h | ⟨j, hj1, hj2, e⟩) | h)
    · exact .inl h
    · exact .inr ⟨j, hj1, by omega, e⟩
    · exact .inr ⟨i + 1, by omega, by omega, by simpa using h⟩
   ·
    rintro (h | ⟨j, hj1, hj2, e⟩)
    · exact .inl (.inl h)
    ·
     by_cases hj : j = i + 1
     · subst hj; exact .inr (by simp [e])
     · exact .inl (.inr ⟨j, hj1, by omega, e⟩)

theorem count_eq (fold : Bool) (wss : List (List Int)) : ((prun (begL fold wss)).1.length : Int) = nodesR fold wss ∧ ∀ q, q ∈ (prun (begL fold wss)).1 ↔ Begs fold wss q := by
 obtain ⟨n, hn⟩ : ∃ n, wss.length = n := ⟨_, rfl⟩
 induction n generalizing wss with
 | zero =>
  obtain rfl := List.eq_nil_of_length_eq_zero hn
  refine ⟨rfl, fun q => ?_⟩
  simp [begL, prun, Begs]
 | succ n ih =>
  obtain ⟨l', x, rfl⟩ : ∃ l' x, wss = l' ++ [x] := ⟨wss.dropLast, wss.getLast (by intro h; simp [h] at hn), (List.dropLast_concat_getLast _).symm⟩
  obtain ⟨h1, h2⟩ := ih l' (by simpa using hn)
  have hbd := oldR_bd fold x l'
  have hold : ∀ j, 1 ≤ j → j ≤ (foldL fold x).length → ((foldL fold x).take j ∈ (prun (begL fold l')).1 ↔ j ≤ (oldR fold l' x).toNat) := by
   intro j hj1 hj2
   rw [h2]
   have e1 : j ≤ (oldR fold l' x).toNat ↔ (j : Int) ≤ oldR fold l' x := by omega
   rw [e1, oldR_le fold x hj1]
   constructor
   ·
    rintro (h | ⟨w, hw, h⟩)
    ·
     have := congrArg List.length h
     rw [List.length_take, List.length_nil] at this
     omega
    · exact ⟨w, hw, (common_prefix hj2).1 h⟩
   ·
    rintro ⟨w, hw, h⟩
    exact .inr ⟨w, hw, (common_prefix hj2).2 h⟩
  obtain ⟨qs, g1, g2, g3, g4⟩ := word_run (foldL fold x) (oldR fold l' x).toNat (prun (begL fold l')).1 (prun (begL fold l')).2 hold (foldL fold x).length (Nat.le_refl _)
  have hrun : prun (begL fold (l' ++ [x])) = ((begW (foldL fold x)).take (foldL fold x).length).foldl pstep ((prun (begL fold l')).1, (prun (begL fold l')).2) := by
   rw [begL_snoc, List.take_of_length_le (by rw [begW_length]; exact Nat.le_refl _)]
   unfold prun
   rw [List.foldl_append]
  rw [hrun, g1]
  refine ⟨?_, fun q => ?_⟩
  ·
   rw [nodesR_snoc, g2, foldL_length, ← h1]
   omega
  ·
   rw [g4, h2]
   unfold Begs
   constructor
   ·
    rintro ((h | ⟨w, hw, h⟩) | ⟨j, hj1, hj2, rfl⟩)
    · exact .inl h
    · exact .inr ⟨w, by simp [hw], h⟩
    · exact .inr ⟨x, by simp, List.take_prefix _ _⟩
   ·
    rintro (h | ⟨w, hw, h⟩)
    · exact .inl (.inl h)
    ·
     rcases List.mem_append.1 hw with hw | hw
     · exact .inl (.inr ⟨w, hw, h⟩)
     ·
      simp at hw
      subst hw
      by_cases h0 : q = []
      · exact .inl (.inl h0)
      ·
       refine .inr ⟨q.length, ?_, h.length_le, List.prefix_iff_eq_take.1 h⟩
       exact List.length_pos_iff.2 h0

theorem nodes_eq (fold : Bool) (wss : List (List Int)) : (nrun (begL fold wss)).many = nodesR fold wss := by
 rw [(rep_run (begL fold wss)).many, (count_eq fold wss).1]

end Go.Proofs.YtbldfgaogmfoaaaGreat

/- Which error a list of words has, by the document (layer 5): walked. -/

namespace Go.Proofs.YtbldfgaogmfoaaaGreat
open Go.RowKit Go.Sort

def bsum (wss : List (List Int)) : Int := (wss.map fun w => (w.length : Int)).sum
theorem bsum_snoc (l : List (List Int)) (x : List Int) : bsum (l ++ [x]) = bsum l + x.length := by simp [bsum]
theorem bsum_bd : ∀ (l : List (List Int)), (∀ x ∈ l, x.length ≤ 1000000) → 0 ≤ bsum l ∧ bsum l ≤ l.length * 1000000
 | [], _ => by simp [bsum]
 | x :: l, h => by
  have h1 := bsum_bd l (fun y hy => h y (by simp [hy]))
  have h2 := h x (by simp)
  simp only [bsum, List.map_cons, List.sum_cons, List.length_cons] at h1 ⊢
  omega
def checkR (fold : Bool) (wss : List (List Int)) : Int :=
 if wss.length = 0 then 50 else if wss.length > 64 then 51 else if (∃ x ∈ wss, x.length = 0) then 52 else if (∃ x ∈ wss, x.length > 32) then 53 else if bsum wss > 600 then 54 else if nodesR fold wss > 400 then 55 else 0

set_option maxHeartbeats 4000000 in
theorem rcheck_any (fold : Bool) (a : Option Addr) (la ca : Nat) (wss : List (List Int)) (w : World) (hA : Wds w a la wss) (hla : la ≤ 1000000) (hM : ∀ x ∈ wss, x.length ≤ 1000000) :
  Calls Tryz.prog 109 #[.bool fold, .slice a la ca] w fun e w' => e = .returned (.int .i64 (checkR fold wss)) ∧ Below w.heap.size w w' := by
 have HL := Lib.hid hA.len
 have HM := Lib.hid hM
 obtain ⟨G, hG⟩ : ∃ G, checkR fold wss = G := ⟨_, rfl⟩
 have HG : Hid (checkR fold wss = G) := hG
 rw [hG]
 clear hG hM
 by_cases h0 : la = 0
 ·
  have HE : Hid (G = 50) := by rw [Hid, ← HG.out, checkR, if_pos (by rw [HL.out, h0])]
  go_enter Tryz.func109, Tryz.ntmps109
  go_wp2
  go_ret
  exact ⟨by rw [HE.out]; rfl, Below.refl _ _⟩
 ·
  by_cases h64 : 64 < la
  ·
   have HE : Hid (G = 51) := by rw [Hid, ← HG.out, checkR, if_neg (by rw [HL.out]; exact h0), if_pos (by rw [HL.out]; exact h64)]
   go_enter Tryz.func109, Tryz.ntmps109
   go_wp2
   go_ret
   exact ⟨by rw [HE.out]; rfl, Below.refl _ _⟩
  ·
   have HG2 : Hid (G = if (∃ x ∈ wss, x.length = 0) then 52 else if (∃ x ∈ wss, x.length > 32) then 53 else if bsum wss > 600 then 54 else if nodesR fold wss > 400 then 55 else 0) := by
    rw [Hid, ← HG.out, checkR, if_neg (by rw [HL.out]; exact h0), if_neg (by rw [HL.out]; exact h64)]
   go_enter Tryz.func109, Tryz.ntmps109
   go_wp2
   go_loop [6] (fun i => ∃ k : Nat, k ≤ la ∧ i = .int .i64 k ∧ Hid (∀ x ∈ wss.take k, x.length ≠ 0)) (fun i => la - (intOf i).toNat)
   case atStart => exact ⟨0, Nat.zero_le _, rfl, fun x hx => by simp at hx⟩
   case round =>
    obtain ⟨k, hk, rfl, HK⟩ := hrel
    by_cases hlt : k < la
    ·
     obtain ⟨bb, off, a', l, c, x, rfl, hbl, hcell, hx, hX, hlc⟩ := hA.at_ hlt
     have HX := Lib.hid hx
     have HXL := Lib.hid hX.len
     clear hx hX
     by_cases hl0 : l = 0
     ·
      have HE : Hid (G = 52) := by rw [Hid, HG2.out, if_pos ⟨x, List.mem_of_getElem? HX.out, by rw [HXL.out, hl0]⟩]
      go_wp2
      go_ret
      exact ⟨by rw [HE.out]; rfl, Below.refl _ _⟩
     ·
      have HK2 : Hid (∀ x ∈ wss.take (k + 1), x.length ≠ 0) := by
       rw [take_step HX.out]
       intro y hy
       rcases List.mem_append.1 hy with hy | hy
       · exact HK.out y hy
       · simp at hy; rw [hy, HXL.out]; exact hl0
      go_wp2
      go_round
      case rel => exact ⟨k + 1, by omega, by go_num, HK2⟩
      case measure => simp [intOf]; omega
    ·
     obtain rfl : k = la := by omega
     have HK0 : Hid (∀ x ∈ wss, x.length ≠ 0) := by
      have h := HK.out
      rwa [List.take_of_length_le (by rw [HL.out]; exact Nat.le_refl _)] at h
     have HG3 : Hid (G = if (∃ x ∈ wss, x.length > 32) then 53 else if bsum wss > 600 then 54 else if nodesR fold wss > 400 then 55 else 0) := by
      rw [Hid, HG2.out, if_neg (by rintro ⟨x, hx, h⟩; exact HK0.out x hx h)]
     clear HG2 HK
     go_wp2
     go_loop [5, 7] (fun s i => ∃ (j : Nat) (n : Int), j ≤ k ∧ i = .int .i64 j ∧ s = .int .i64 n ∧ Hid (n = bsum (wss.take j)) ∧ Hid (∀ x ∈ wss.take j, ¬ x.length > 32)) (fun _ i => k - (intOf i).toNat)
     case atStart => exact ⟨0, 0, Nat.zero_le _, rfl, rfl, by simp [Hid, bsum], fun x hx => by simp at hx⟩
     case round =>
      obtain ⟨j, n, hj, rfl, rfl, HN, HJ⟩ := hrel
      have hnb := bsum_bd (wss.take j) (fun y hy => HM.out y (List.mem_of_mem_take hy))
      rw [← HN.out] at hnb
      have hnl : ((wss.take j).length : Int) ≤ 64 := by have := List.length_take_le j wss; omega
      have hn0 := hnb.1
      have hn1 : n ≤ 64000000 := by omega
      clear hnb hnl
      by_cases hjl : j < k
      ·
       obtain ⟨bb, off, a', l, c, x, rfl, hbl, hcell, hx, hX, hlc⟩ := hA.at_ hjl
       have hxl : l ≤ 1000000 := by have := mem_bd HM.out hx; rw [hX.len] at this; exact this
       have HX := Lib.hid hx
       have HXL := Lib.hid hX.len
       clear hx hX
       by_cases hl32 : 32 < l
       ·
        have HE : Hid (G = 53) := by rw [Hid, HG3.out, if_pos ⟨x, List.mem_of_getElem? HX.out, by rw [HXL.out]; exact hl32⟩]
        go_wp2
        go_ret
        exact ⟨by rw [HE.out]; rfl, Below.refl _ _⟩
       ·
        have HJ2 : Hid (∀ x ∈ wss.take (j + 1), ¬ x.length > 32) := by
         rw [take_step HX.out]
         intro y hy
         rcases List.mem_append.1 hy with hy | hy
         · exact HJ.out y hy
         · simp at hy; rw [hy, HXL.out]; exact hl32
        have HS : Hid (n + (l : Int) = bsum (wss.take (j + 1))) := by rw [Hid, take_step HX.out, bsum_snoc, HXL.out, HN.out]
        go_wp2
        go_round
        case rel => exact ⟨j + 1, _, by omega, by go_num, rfl, HS, HJ2⟩
        case measure => simp [intOf]; omega
      ·
       obtain rfl : j = k := by omega
       have hfull : wss.take j = wss := List.take_of_length_le (by rw [HL.out]; exact Nat.le_refl _)
       have HG4 : Hid (G = if n > 600 then 54 else if nodesR fold wss > 400 then 55 else 0) := by
        have h2 := HN.out
        rw [hfull] at h2
        rw [Hid, HG3.out, if_neg (by rintro ⟨x, hx, h⟩; exact HJ.out x (by rw [hfull]; exact hx) h), h2]
       clear hfull HG3 HN HJ
       by_cases h6 : 600 < n
       ·
        have HE : Hid (G = 54) := by rw [Hid, HG4.out, if_pos h6]
        go_wp2
        go_ret
        exact ⟨by rw [HE.out]; rfl, Below.refl _ _⟩
       ·
        go_wp2_with fail
        refine (rnodes_any fold a j ca wss w hA hla HM.out).mono ?_
        rintro e w1 ⟨rfl, hb⟩
        obtain ⟨N, hN⟩ : ∃ N, nodesR fold wss = N := ⟨_, rfl⟩
        rw [hN]
        have HN : Hid (nodesR fold wss = N) := hN
        clear hN
        by_cases h4 : 400 < N
        ·
         have HE : Hid (G = 55) := by rw [Hid, HG4.out, if_neg (by omega), HN.out, if_pos h4]
         go_wp2
         go_ret
         exact ⟨by rw [HE.out]; rfl, hb⟩
        ·
         have HE : Hid (G = 0) := by rw [Hid, HG4.out, if_neg (by omega), HN.out, if_neg (by omega)]
         go_wp2
         go_ret
         exact ⟨by rw [HE.out]; rfl, hb⟩

end Go.Proofs.YtbldfgaogmfoaaaGreat

/- Two sets that are the same, by the document (layer 5): walked. -/

namespace Go.Proofs.YtbldfgaogmfoaaaGreat
open Go.RowKit Go.Sort

set_option maxHeartbeats 2000000 in
theorem rsames_any (f g : Bool) (a b : Option Addr) (la ca lb cb : Nat) (wss vss : List (List Int)) (w : World) (hA : Wds w a la wss) (hB : Wds w b lb vss) (hla : la ≤ 1000000) :
  Calls Tryz.prog 77 #[.agg (setV f a la ca), .agg (setV g b lb cb)] w fun e w' => e = .returned (.bool (sameS f g wss vss)) ∧ Below w.heap.size w w' := by
 obtain ⟨W, hW⟩ : ∃ W, W = (w.alloc (.cells (setV f a la ca) 24)).alloc (.cells (setV g b lb cb) 24) := ⟨_, rfl⟩
 have hBx : Below w.heap.size w ((w.alloc (.cells (setV f a la ca) 24)).alloc (.cells (setV g b lb cb) 24)) := ((Below.refl _ _).alloc (Nat.le_refl _) _).alloc (by simp) _
 have HA := Lib.hid hA.len
 have HB := Lib.hid hB.len
 by_cases hfg : f = g
 ·
  subst hfg
  by_cases hl : la = lb
  ·
   subst hl
   have hb1 : W.heap[w.heap.size]? = some (.cells (setV f a la ca) 24 (0, 0)) := by
    rw [hW]
    exact (Below.heap_alloc _ _ _ (by simp)).trans (World.alloc_heap_new _ _)
   have hb2 : W.heap[w.heap.size + 1]? = some (.cells (setV f b la cb) 24 (0, 0)) := by
    rw [hW]
    have := World.alloc_heap_new (w.alloc (.cells (setV f a la ca) 24)) (.cells (setV f b la cb) 24)
    rwa [World.size_alloc] at this
   have hA1 : Wds W a la wss := by rw [hW]; exact hA.below hBx
   have hB1 : Wds W b la vss := by rw [hW]; exact hB.below hBx
   have hBW : Below w.heap.size w W := by rw [hW]; exact hBx
   have hz : W.heap.size = w.heap.size + 2 := by rw [hW]; simp
   have HWD := Lib.hid hW
   clear hA hB hW
   go_enter Tryz.func77, Tryz.ntmps77
   go_wp2
   rw [← HWD.out]
   go_loopw [5] (fun i wr => ∃ k : Nat, k ≤ la ∧ i = .int .i64 k ∧ Hid (wss.take k = vss.take k) ∧ Below W.heap.size W wr) (fun i _ => la - (intOf i).toNat)
   case atStart => exact ⟨0, Nat.zero_le _, rfl, by simp [Hid], Below.refl _ _⟩
   case round =>
    obtain ⟨k, hk, rfl, HK, hBe⟩ := hrel
    have hw : Below w.heap.size w wr := hBW.trans (hBe.mono hBW.size)
    have h1 : wr.heap[w.heap.size]? = _ := (hBe.block _ (by omega)).trans hb1
    have h2 : wr.heap[w.heap.size + 1]? = _ := (hBe.block _ (by omega)).trans hb2
    have c1 : wr.cell? ⟨w.heap.size, 1, none⟩ = some (.slice a la ca) := by simp [World.cell?, h1]
    have c2 : wr.cell? ⟨w.heap.size + 1, 1, none⟩ = some (.slice b la cb) := by simp [World.cell?, h2]
    have hBd : ∀ n, Below W.heap.size W (wr.drewN n) := fun n => hBe.trans ⟨rfl, rfl, rfl, Nat.le_refl _, fun _ _ => rfl⟩
    have hwd : ∀ n, Below w.heap.size w (wr.drewN n) := fun n => hw.trans ⟨rfl, rfl, rfl, Nat.le_refl _, fun _ _ => rfl⟩
    by_cases hlt : k < la
    ·
     obtain ⟨bb, off, a', l, c, x, rfl, hbl, hcell, hx, hX, hlc⟩ := (hA1.below hBe).at_ hlt
     obtain ⟨bb2, off2, a2, l2, c2, y, rfl, hbl2, hcell2, hy, hY, hlc2⟩ := (hB1.below hBe).at_ hlt
     have hd : ∀ n, Below wr.heap.size wr (wr.drewN n) := fun n => ⟨rfl, rfl, rfl, Nat.le_refl _, fun _ _ => rfl⟩
     have hXn : ∀ n, Bys (wr.drewN n) a' l x := fun n => hX.below (hd n)
     have hYn : ∀ n, Bys (wr.drewN n) a2 l2 y := fun n => hY.below (hd n)
     have v1 : ∀ n cap, Sem.run Tryz.prog (convert 25 9 (.slice a' l cap)) (wr.drewN n) = .ok (.string (strOfNums x)) (wr.drewN n) := fun n cap => conv_bys (hXn n) cap
     have v2 : ∀ n cap, Sem.run Tryz.prog (convert 25 9 (.slice a2 l2 cap)) (wr.drewN n) = .ok (.string (strOfNums y)) (wr.drewN n) := fun n cap => conv_bys (hYn n) cap
     have hbeq := str_beq hX.2 hY.2
     have HX := Lib.hid hx
     have HY := Lib.hid hy
     clear hx hy hX hY hXn hYn hd
     by_cases h : x = y
     ·
      rw [decide_eq_true h] at hbeq
      have HS : Hid (wss.take (k + 1) = vss.take (k + 1)) := by rw [take_step HX.out, take_step HY.out, HK.out, h]; rfl
      clear h
      go_wp2
      go_quiet (fail)
      go_wp2
      go_roundw
      case rel => exact ⟨k + 1, by omega, by go_num, HS, hBd _⟩
      case measure => simp [intOf]; omega
     ·
      rw [decide_eq_false h] at hbeq
      have HS : Hid (sameS f f wss vss = false) := by
       have : wss ≠ vss := fun e => by
        have h1 := HX.out
        rw [e, HY.out] at h1
        exact h (Option.some.inj h1).symm
       simp [Hid, sameS, this]
      clear h
      go_wp2
      go_quiet (fail)
      go_wp2
      go_ret
      exact ⟨by rw [HS.out]; rfl, hwd _⟩
    ·
     obtain rfl : k = la := by omega
     have HS : Hid (sameS f f wss vss = true) := by
      have h := HK.out
      rw [List.take_of_length_le (by rw [HA.out]; exact Nat.le_refl _), List.take_of_length_le (by rw [HB.out]; exact Nat.le_refl _)] at h
      simp [Hid, sameS, h]
     go_wp2
     go_ret
     exact ⟨by rw [HS.out]; rfl, hw⟩
  ·
   have HS : Hid (sameS f f wss vss = false) := sameS_no (.inr (by rw [HA.out, HB.out]; exact hl))
   have hne : ((la : Int) != (lb : Int)) = true := by simp; omega
   clear hW
   go_enter Tryz.func77, Tryz.ntmps77
   go_wp2
   all_goals
    go_ret
    exact ⟨by rw [HS.out]; rfl, hBx⟩
 ·
  have HS : Hid (sameS f g wss vss = false) := sameS_no (.inl hfg)
  have hne : (f != g) = true := by simp [hfg]
  clear hW
  go_enter Tryz.func77, Tryz.ntmps77
  go_wp2
  all_goals
   go_ret
   exact ⟨by rw [HS.out]; rfl, hBx⟩

end Go.Proofs.YtbldfgaogmfoaaaGreat

/- A set of words, made, by the document (layer 5): walked. -/

namespace Go.Proofs.YtbldfgaogmfoaaaGreat
open Go.RowKit Go.Sort

set_option maxHeartbeats 1000000 in
theorem rmake_no (fold : Bool) (a : Option Addr) (la ca : Nat) (wss : List (List Int)) (w : World) (hA : Wds w a la wss) (hla : la ≤ 1000000) (hM : ∀ x ∈ wss, x.length ≤ 1000000) (hc : checkR fold wss ≠ 0) :
  Calls Tryz.prog 76 #[.bool fold, .slice a la ca] w fun e w' => e = .returned (.tuple #[.agg (setV false none 0 0), .int .i64 (checkR fold wss)]) ∧ Below w.heap.size w w' := by
 have hA1 := hA.below ((Below.refl _ _).alloc (Nat.le_refl _) (.cells (setV false none 0 0) 24))
 obtain ⟨n, hn⟩ : ∃ n, checkR fold wss = n := ⟨_, rfl⟩
 have HN : Hid (checkR fold wss = n) := hn
 rw [hn] at hc ⊢
 clear hn
 go_enter Tryz.func76, Tryz.ntmps76
 go_wp2_with fail
 refine (rcheck_any fold a la ca wss _ hA1 hla hM).mono ?_
 rintro e w1 ⟨rfl, hb⟩
 rw [HN.out]
 have hz : w1.heap[w.heap.size]? = some (.cells (setV false none 0 0) 24 (0, 0)) := (hb.block _ (by simp)).trans (World.alloc_heap_new _ _)
 have hB1 : Below w.heap.size w w1 := ((Below.refl _ _).alloc (Nat.le_refl _) _).trans (hb.mono (by simp))
 have z0 : w1.cell? ⟨w.heap.size, 0, none⟩ = some (.bool false) := by simp [World.cell?, hz]
 have z1 : w1.cell? ⟨w.heap.size, 1, none⟩ = some (.slice none 0 0) := by simp [World.cell?, hz]
 have y0 : w1.frozen? ⟨w.heap.size, 0, none⟩ = false := by simp [World.frozen?, hz]
 have y1 : w1.frozen? ⟨w.heap.size, 1, none⟩ = false := by simp [World.frozen?, hz]
 go_wp2
 have hz2 := set_at (i := 1) (set_at (i := 0) hz (.bool false)) (.slice none 0 0)
 refine bodyPost_ret (results_set rfl rfl (by simpa using hz2)) rfl ?_
 exact ⟨rfl, (hB1.setCell (Nat.le_refl _) _).setCell (Nat.le_refl _) _⟩

theorem text_o (fold : Bool) (a : Option Addr) (la ca : Nat) (xs : List Int) (w : World) (hA : Bys w a la xs) (hla : la ≤ 1000000) :
  Calls Tryz.prog 111 #[.bool fold, .slice a la ca] w fun e w' => ∃ a1 c1, e = .returned (.slice a1 la c1) ∧ OwnB w' w.heap.size (.slice a1 la c1) la (foldL fold xs) ∧ Below w.heap.size w w' :=
 (text_any fold a la ca xs w hA hla).mono fun e w' ⟨v, he, hown, hb⟩ => by
  obtain ⟨a1, c1, rfl, _, h⟩ := own_bys hown (foldL_bd hA.2)
  exact ⟨a1, c1, he, hown, hb⟩

set_option maxRecDepth 100000 in
set_option maxHeartbeats 4000000 in
theorem rmake_yes (fold : Bool) (a : Option Addr) (la ca : Nat) (wss : List (List Int)) (w : World) (hA : Wds w a la wss) (hla : la ≤ 1000000) (hM : ∀ x ∈ wss, x.length ≤ 1000000) (hc : checkR fold wss = 0) :
    Calls Tryz.prog 76 #[.bool fold, .slice a la ca] w fun e w' => ∃ v, e = .returned (.tuple #[.agg #[.bool fold, v], .int .i64 0]) ∧ OwnW w' w.heap.size v (makeL fold wss) ∧ Below w.heap.size w w' := by
  have hA1 := hA.below ((Below.refl _ _).alloc (Nat.le_refl _) (.cells (setV false none 0 0) 24))
  have HN : Hid (checkR fold wss = 0) := hc
  have HL := Lib.hid hA.len
  clear hc
  go_enter Tryz.func76, Tryz.ntmps76
  go_wp2_with fail
  refine (rcheck_any fold a la ca wss _ hA1 hla hM).mono ?_
  rintro e w1 ⟨rfl, hb⟩
  rw [HN.out]
  have hz : w1.heap[w.heap.size]? = some (.cells (setV false none 0 0) 24 (0, 0)) := (hb.block _ (by simp)).trans (World.alloc_heap_new _ _)
  have hB1 : Below w.heap.size w w1 := ((Below.refl _ _).alloc (Nat.le_refl _) _).trans (hb.mono (by simp))
  have hlt1 : w.heap.size < w1.heap.size := (Array.getElem?_eq_some_iff.1 hz).1
  go_wp2
  go_loopw [8] (fun i wr => ∃ (k : Nat) (v : Value), k ≤ la ∧ i = .int .i64 k ∧ Below w.heap.size w wr ∧ wr.heap[w.heap.size]? = some (.cells (setV false none 0 0) 24 (0, 0)) ∧ wr.heap[w1.heap.size]? = some (.cells #[.bool fold, v] 24 (0, 0)) ∧ OwnW wr w.heap.size v (makeL fold (wss.take k))) (fun i _ => la - (intOf i).toNat)
  case atStart => exact ⟨0, .slice none 0 0, Nat.zero_le _, rfl, hB1.alloc (by omega) _, (Below.heap_alloc _ _ _ hlt1).trans hz, World.alloc_heap_new _ _, by simpa [makeL] using OwnW.nil _ _⟩
  case round =>
    obtain ⟨k, v, hk, rfl, hBe, hzr, hsr, hown⟩ := hrel
    by_cases hlt : k < la
    · obtain ⟨bb, off, a', l, c, x, rfl, hbl, hcell, hx, hX, hlc⟩ := (hA.below hBe).at_ hlt
      have hxl : l ≤ 1000000 := by have := mem_bd hM hx; rw [hX.len] at this; exact this
      obtain ⟨av, cv, rfl, hcv, hW⟩ := hown.wds
      have s0 : wr.cell? ⟨w1.heap.size, 0, none⟩ = some (.bool fold) := by simp [World.cell?, hsr]
      have s1 : wr.cell? ⟨w1.heap.size, 1, none⟩ = some (.slice av (makeL fold (wss.take k)).length cv) := by simp [World.cell?, hsr]
      have hml : (makeL fold (wss.take k)).length ≤ 1000000 := by have := makeL_len fold (wss.take k); have := List.length_take_le k wss; omega
      have HX := Lib.hid hx
      clear hx
      have kc := cell_regrown hcell
      have ks := cell_regrown s1
      have cW : ∀ d os, Calls Tryz.prog 110 #[.bool fold, .slice a' l c, .slice av (makeL fold (wss.take k)).length cv] (grow (redrawn wr d) os) fun e w'' => e = .returned (.int .i64 (whichL fold x (makeL fold (wss.take k)))) ∧ ∃ p : Regrown, w'' = grow (redrawn wr p.d) p.os :=
        fun d os => Calls.regrown_of (rwhich_any fold a' av l c _ cv x (makeL fold (wss.take k)) _ (hX.below (below_regrown wr d os)) hxl (hW.below (below_regrown wr d os)) hml (makeL_mem _ (fun y hy => hM y (List.mem_of_mem_take hy))))
      go_wp2
      refine wp_region_quiet_below mixed (by kernel_rfl) ?_
      repeat (go_big_quiet_step (exact cW _ _))
      refine wpQuiet_nil ?_
      rintro _ ⟨⟨dq, osq⟩, rfl⟩
      obtain ⟨w2, hw2⟩ : ∃ w2, grow (redrawn wr dq) osq = w2 := ⟨_, rfl⟩
      rw [hw2]
      have hb2 : Below wr.heap.size wr w2 := hw2 ▸ below_regrown wr dq osq
      clear hw2 kc ks cW
      have hB2 : Below w.heap.size w w2 := hBe.trans (hb2.mono hBe.size)
      have hz2 : w2.heap[w.heap.size]? = _ := (hb2.block _ (Array.getElem?_eq_some_iff.1 hzr).1).trans hzr
      have hs2 : w2.heap[w1.heap.size]? = _ := (hb2.block _ (Array.getElem?_eq_some_iff.1 hsr).1).trans hsr
      have hown2 := hown.below hb2
      have hcl2 : w2.cell? ⟨bb, off + k, none⟩ = some (.slice a' l c) := (hb2.cell (p := ⟨bb, off + k, none⟩) hbl).trans hcell
      clear hown hW hsr hzr s0 s1 hcell
      have HM : Hid (makeL fold (wss.take (k + 1)) = addW fold (makeL fold (wss.take k)) x) := by rw [take_step HX.out, makeL_snoc]; rfl
      obtain ⟨q, hq⟩ : ∃ q, whichL fold x (makeL fold (wss.take k)) = q := ⟨_, rfl⟩
      have HQ : Hid (whichL fold x (makeL fold (wss.take k)) = q) := hq
      rw [hq]
      clear hq
      by_cases hq0 : 0 ≤ q
      · have HF : Hid (makeL fold (wss.take (k + 1)) = makeL fold (wss.take k)) := by
          rw [HM.out]
          unfold addW
          rw [HQ.out, if_neg (by omega)]
          rfl
        go_wp2
        go_roundw
        case rel => exact ⟨k + 1, _, by omega, by go_num, hB2, hz2, hs2, by rw [HF.out]; exact hown2⟩
        case measure => simp [intOf]; omega
      · have HF : Hid (makeL fold (wss.take (k + 1)) = makeL fold (wss.take k) ++ [foldL fold x]) := by
          rw [HM.out]
          unfold addW
          rw [HQ.out, if_pos (by omega)]
          rfl
        obtain ⟨i0, hi, hi0, hi1, hi2⟩ := info_parts words_info
        have s1 : w2.cell? ⟨w1.heap.size, 1, none⟩ = some (.slice av (makeL fold (wss.take k)).length cv) := by simp [World.cell?, hs2]
        obtain ⟨es, e1, e2, e3⟩ := hown2
        have hX2 : ∀ n, Bys (w2.drewN n) a' l x := fun n => (hX.below hb2).below ⟨rfl, rfl, rfl, Nat.le_refl _, fun _ _ => rfl⟩
        have hd : ∀ n, Below w2.heap.size w2 (w2.drewN n) := fun n => ⟨rfl, rfl, rfl, Nat.le_refl _, fun _ _ => rfl⟩
        obtain ⟨m, hm⟩ : ∃ m, (makeL fold (wss.take k)).length = m := ⟨_, rfl⟩
        rw [hm] at s1 hs2 e1 e2 hml ⊢
        have HMM := Lib.hid hm
        clear hm
        go_wp2
        have hXd : Bys w2.drew a' l x := hX2 1
        have hdd : Below w2.heap.size w2 w2.drew := hd 1
        go_region_law (first
          | (go_simp; go_at_call 111; refine (text_o fold a' l c x w2.drew hXd hxl).mono ?_; rintro e w3 ⟨a3, c3, rfl, hown3, hb3⟩
             have hB3 : Below w2.heap.size w2 w3 := hdd.trans hb3
             have e13 := own_below_ e1 hB3
             have hs3 : w3.heap[w1.heap.size]? = some (.cells #[.bool fold, .slice av m cv] 24 (0, 0)) := (hB3.block _ (Array.getElem?_eq_some_iff.1 hs2).1).trans hs2
             have s13 : w3.cell? ⟨w1.heap.size, 1, none⟩ = some (.slice av m cv) := by simp [World.cell?, hs3]
             have hl3 : w1.heap.size < w3.heap.size := (Array.getElem?_eq_some_iff.1 hs3).1
             have hl3b : w1.heap.size ≠ w3.heap.size := by omega
             have hl3c : w3.heap.size ≠ w1.heap.size := by omega
             have s14 : (w3.alloc (.cells #[.slice a3 l c3] 25)).cell? ⟨w1.heap.size, 1, none⟩ = some (.slice av m cv) := by rw [World.cell?_alloc_lt _ _ _ hl3]; exact s13
             have hne := own_far e13 hs3 (of_decide_eq_true (by kernel_rfl))
             have hB3w : Below w.heap.size w w3 := hB2.trans (hB3.mono hB2.size)
             dsimp only)
          | (refine step_append_lies _ (by rfl) _ _ 22 (by rfl) w.heap.size 25 i0 (.slice none 0 0) 1 24 Tryz.underlying22 hi hi0 hi1 hi2 rfl (by decide) (.slice av m cv) m es (by rfl) (e13.alloc _) ⟨w3.heap.size, 0, none⟩ 1 1 [.slice a3 l c3] (by rfl) rfl (cell_one_new _ _ _) (by simp [Value.oneCell']) (by decide) (by unfold maxLen; omega) (by omega) (by have := hB3w.size; simp; omega) _ rfl ?_
             intro g5 c5 w5 hown' hgrow hat hl5
             have hs5 : w5.heap[w1.heap.size]? = some (.cells #[.bool fold, .slice av m cv] 24 (0, 0)) := (hgrow.block _ (by simp; have := (Array.getElem?_eq_some_iff.1 hs3).1; omega) (Ne.symm hne)).trans ((Below.heap_alloc _ _ _ (Array.getElem?_eq_some_iff.1 hs3).1).trans hs3)
             have q0 : w5.cell? ⟨w1.heap.size, 1, none⟩ = some (.slice av m cv) := by simp [World.cell?, hs5]
             have q1 : w5.frozen? ⟨w1.heap.size, 1, none⟩ = false := by simp [World.frozen?, hs5]))
        all_goals
          go_wp2
          have hB5 : Below w.heap.size w w5 := (hB3w.alloc (by have := hB3w.size; omega) _).grown hgrow (by simp; have := hB3w.size; omega) (fun j hj => (e13.lt j hj).1)
          have hz5 : w5.heap[w.heap.size]? = some (.cells (setV false none 0 0) 24 (0, 0)) := by
            have h3 : w3.heap[w.heap.size]? = _ := (hB3.block _ (Array.getElem?_eq_some_iff.1 hz2).1).trans hz2
            exact (hgrow.block _ (by simp; have := (Array.getElem?_eq_some_iff.1 h3).1; omega) (Ne.symm (own_far e13 h3 (of_decide_eq_true (by kernel_rfl))))).trans ((Below.heap_alloc _ _ _ (Array.getElem?_eq_some_iff.1 h3).1).trans h3)
          go_roundw
          case rel =>
            refine ⟨k + 1, _, by omega, by go_num, hB5.setCell (by show w.heap.size ≤ w1.heap.size; omega) _, (Below.heap_setCell w5 ⟨w1.heap.size, 1, none⟩ _ _ (by simp; omega)).trans hz5, by simpa using set_at (i := 1) hs5 (.slice (some ⟨g5, 0, none⟩) (m + 1) c5), ?_⟩
            rw [HF.out]
            have hst := OwnW.step (wss := makeL fold (wss.take k)) (xs := foldL fold x) (e := .slice a3 l c3) (es := es) (v := .slice av m cv) (by rw [HMM.out]; exact e13.alloc _) (by rw [HMM.out]; exact e2)
              (fun i e xs he hx => ⟨own_below_ (own_below_ (e3 i e xs he hx).1 hB3) ((Below.refl _ _).alloc (Nat.le_refl _) _), (e3 i e xs he hx).2⟩) (by rw [foldL_length, hX.len]; exact (OwnB_mono (hown3.alloc _) (by have := hB2.size; simpa using this))) (foldL_bd hX.2) (by rw [HMM.out]; exact hown') hgrow
            exact hst.turned (grown_set2 w5 w1.heap.size 1 _) hs5 (of_decide_eq_true (by kernel_rfl)) (of_decide_eq_true (by kernel_rfl))
          case measure => simp [intOf]; omega
    · obtain rfl : k = la := by omega
      have HF : Hid (wss.take k = wss) := List.take_of_length_le (by have := HL.out; omega)
      have s0 : wr.cell? ⟨w1.heap.size, 0, none⟩ = some (.bool fold) := by simp [World.cell?, hsr]
      obtain ⟨av, cv, rfl, hcv, hW⟩ := hown.wds
      have s1 : wr.cell? ⟨w1.heap.size, 1, none⟩ = some (.slice av (makeL fold (wss.take k)).length cv) := by simp [World.cell?, hsr]
      have z0 : wr.cell? ⟨w.heap.size, 0, none⟩ = some (.bool false) := by simp [World.cell?, hzr]
      have z1 : wr.cell? ⟨w.heap.size, 1, none⟩ = some (.slice none 0 0) := by simp [World.cell?, hzr]
      have y0 : wr.frozen? ⟨w.heap.size, 0, none⟩ = false := by simp [World.frozen?, hzr]
      have y1 : wr.frozen? ⟨w.heap.size, 1, none⟩ = false := by simp [World.frozen?, hzr]
      go_wp2
      have hz2 := set_at (i := 1) (set_at (i := 0) hzr (.bool fold)) (.slice av (makeL fold (wss.take k)).length cv)
      refine bodyPost_ret (results_set rfl rfl (by simpa using hz2)) rfl ?_
      refine ⟨_, rfl, ?_, (hBe.setCell (Nat.le_refl _) _).setCell (Nat.le_refl _) _⟩
      have ho := (hown.turned (grown_set2 wr w.heap.size 0 (.bool fold)) hzr (of_decide_eq_true (by kernel_rfl)) (of_decide_eq_true (by kernel_rfl))).turned (grown_set2 _ w.heap.size 1 (.slice av (makeL fold (wss.take k)).length cv)) (set_at (i := 0) hzr (.bool fold)) (of_decide_eq_true (by kernel_rfl)) (of_decide_eq_true (by kernel_rfl))
      rw [HF.out] at ho ⊢
      exact ho

end Go.Proofs.YtbldfgaogmfoaaaGreat

/- Which sets may be, by the document (layer 5): walked. -/

namespace Go.Proofs.YtbldfgaogmfoaaaGreat
open Go.RowKit Go.Sort

def rightR (fold : Bool) (wss : List (List Int)) : Bool := decide (checkR fold wss = 0) && decide (makeL fold wss = wss)

set_option maxHeartbeats 1000000 in
theorem rright_any (fold : Bool) (a : Option Addr) (la ca : Nat) (wss : List (List Int)) (w : World) (hA : Wds w a la wss) (hla : la ≤ 1000000) (hM : ∀ x ∈ wss, x.length ≤ 1000000) :
  Calls Tryz.prog 39 #[.agg (setV fold a la ca)] w fun e w' => e = .returned (.bool (rightR fold wss)) ∧ Below w.heap.size w w' := by
 have hB0 : Below w.heap.size w (w.alloc (.cells (setV fold a la ca) 24)) := (Below.refl _ _).alloc (Nat.le_refl _) _
 have hA1 := hA.below hB0
 have hnew := World.alloc_heap_new w (.cells (setV fold a la ca) 24)
 by_cases hc : checkR fold wss = 0
 ·
  have HR : Hid (rightR fold wss = sameS fold fold (makeL fold wss) wss) := by simp [Hid, rightR, sameS, hc]
  go_enter Tryz.func39, Tryz.ntmps39
  go_wp2_with fail
  refine (rmake_yes fold a la ca wss _ hA1 hla hM hc).mono ?_
  rintro e w1 ⟨v, rfl, hown, hb⟩
  have hB1 : Below w.heap.size w w1 := hB0.trans (hb.mono (by simp))
  obtain ⟨av, cv, rfl, hcv, hW⟩ := hown.wds
  have h1 : w1.heap[w.heap.size]? = _ := (hb.block _ (by simp)).trans hnew
  have hs1 : w.heap.size < w1.heap.size := (Array.getElem?_eq_some_iff.1 h1).1
  have c0 : w1.cell? ⟨w.heap.size, 0, none⟩ = some (.bool fold) := by simp [World.cell?, h1]
  have c1 : w1.cell? ⟨w.heap.size, 1, none⟩ = some (.slice a la ca) := by simp [World.cell?, h1]
  have hlen : (makeL fold wss).length ≤ 1000000 := by have := makeL_len fold wss; have := hA.len; omega
  have hne : w.heap.size ≠ w1.heap.size := by omega
  have hB2 : Below w1.heap.size w1 (w1.alloc (.cells (setV fold av (makeL fold wss).length cv) 24)) := (Below.refl _ _).alloc (Nat.le_refl _) _
  have hW2 := hW.below hB2
  have hA2 := (hA.below hB1).below hB2
  clear hc
  go_wp2_with fail
  refine (rsames_any fold fold av a _ cv la ca (makeL fold wss) wss _ hW2 hA2 hlen).mono ?_
  rintro e w3 ⟨rfl, hb3⟩
  go_wp2
  go_ret
  exact ⟨by rw [HR.out]; rfl, hB1.trans ((hB2.trans (hb3.mono (by simp))).mono hB1.size)⟩
 ·
  have HR : Hid (rightR fold wss = false) := by simp [Hid, rightR, hc]
  obtain ⟨n, hn⟩ : ∃ n, checkR fold wss = n := ⟨_, rfl⟩
  have HC := Lib.hid hc
  have HN : Hid (checkR fold wss = n) := hn
  rw [hn] at hc
  clear hn
  have hnb : (n == 0) = false := by simp [hc]
  go_enter Tryz.func39, Tryz.ntmps39
  go_wp2_with fail
  refine (rmake_no fold a la ca wss _ hA1 hla hM HC.out).mono ?_
  rintro e w1 ⟨rfl, hb⟩
  rw [HN.out]
  have hB1 : Below w.heap.size w w1 := hB0.trans (hb.mono (by simp))
  go_wp2
  go_ret
  exact ⟨by rw [HR.out]; rfl, hB1.alloc hB1.size _⟩

end Go.Proofs.YtbldfgaogmfoaaaGreat

/- The code's check of words is the document's (layer 5). -/

namespace Go.Proofs.YtbldfgaogmfoaaaGreat

theorem snoc_ind {α : Type} {P : List α → Prop} (h0 : P []) (h1 : ∀ l x, P l → P (l ++ [x])) : ∀ l, P l := by
 intro l
 obtain ⟨n, hn⟩ : ∃ n, l.length = n := ⟨_, rfl⟩
 induction n generalizing l with
 | zero => obtain rfl := List.eq_nil_of_length_eq_zero hn; exact h0
 | succ n ih =>
  obtain ⟨l', x, rfl⟩ : ∃ l' x, l = l' ++ [x] := ⟨l.dropLast, l.getLast (by intro h; simp [h] at hn), (List.dropLast_concat_getLast _).symm⟩
  exact h1 l' x (ih l' (by simpa using hn))

theorem cnt_spec : ∀ (l : List (List Int)), (cnt l).1 = l.length ∧ (cnt l).2.1 = bsum l ∧ ((cnt l).2.2.1 > 32 ↔ ∃ x ∈ l, x.length > 32) ∧ 0 ≤ (cnt l).2.2.2 ∧ (l ≠ [] → ((cnt l).2.2.2 = 0 ↔ ∃ x ∈ l, x.length = 0)) := by
 apply snoc_ind
 · simp [cnt, bsum]
 ·
  intro l x ⟨h1, h2, h3, h4, h5⟩
  rw [cnt_snoc, bsum_snoc]
  simp only [cstep]
  refine ⟨by rw [h1]; simp, by rw [h2], ?_, by split <;> omega, fun _ => ?_⟩
  ·
   constructor
   ·
    intro h
    by_cases hx : x.length > 32
    · exact ⟨x, by simp, hx⟩
    ·
     obtain ⟨y, hy, hl⟩ := h3.1 (by omega)
     exact ⟨y, by simp [hy], hl⟩
   ·
    rintro ⟨y, hy, hl⟩
    rcases List.mem_append.1 hy with hy | hy
    ·
     have := h3.2 ⟨y, hy, hl⟩
     omega
    · simp at hy; subst hy; omega
  ·
   by_cases hn : l = []
   ·
    subst hn
    simp [cnt]
   ·
    have hlen : l.length ≠ 0 := fun e => hn (List.eq_nil_of_length_eq_zero e)
    have h6 := h5 hn
    constructor
    ·
     intro h
     by_cases hx : x.length = 0
     · exact ⟨x, by simp, hx⟩
     ·
      split at h
      · omega
      ·
       obtain ⟨y, hy, hl⟩ := h6.1 h
       exact ⟨y, by simp [hy], hl⟩
    ·
     rintro ⟨y, hy, hl⟩
     rcases List.mem_append.1 hy with hy | hy
     ·
      have := h6.2 ⟨y, hy, hl⟩
      rw [if_neg (by omega)]
      exact this
     ·
      simp at hy; subst hy
      split <;> omega

theorem firstAsk_eq (f : Nat → Bool) : firstAsk f = if f 0 then 50 else if f 1 then 51 else if f 2 then 52 else if f 3 then 53 else if f 4 then 54 else if f 5 then 55 else 0 := by
 unfold firstAsk
 simp only [List.range, List.range.loop, List.find?]
 cases f 0 <;> cases f 1 <;> cases f 2 <;> cases f 3 <;> cases f 4 <;> cases f 5 <;> rfl

theorem check_eq (fold : Bool) (wss : List (List Int)) : checkP fold wss = checkR fold wss := by
 obtain ⟨h1, h2, h3, h4, h5⟩ := cnt_spec wss
 unfold checkP checkR
 rw [firstAsk_eq]
 simp only [askB, h1, h2, nodes_eq, decide_eq_true_eq, h3]
 by_cases h0 : wss.length = 0
 · rw [if_pos (by omega), if_pos h0]
 ·
  rw [if_neg (by omega), if_neg h0]
  have hn : wss ≠ [] := fun e => h0 (by rw [e]; rfl)
  by_cases h64 : wss.length > 64
  · rw [if_pos (by omega), if_pos h64]
  ·
   rw [if_neg (by omega), if_neg h64]
   by_cases he : ∃ x ∈ wss, x.length = 0
   · rw [if_pos ((h5 hn).2 he), if_pos he]
   · rw [if_neg (fun h => he ((h5 hn).1 h)), if_neg he]

theorem right_eq (fold : Bool) (wss : List (List Int)) : rightP fold wss = rightR fold wss := by
 unfold rightP rightR
 rw [check_eq]

end Go.Proofs.YtbldfgaogmfoaaaGreat

/- Plain words of layer 7: the beginnings of words in order, the trie of words. -/

namespace Go.Proofs.YtbldfgaogmfoaaaGreat

/-- Of one length: lesser in the first byte in which they differ. -/
def lexB : List Int → List Int → Bool
 | x :: xs, y :: ys => if x < y then true else if y < x then false else lexB xs ys
 | _, _ => false
def ltS (x y : List Int) : Bool := if x.length < y.length then true else if y.length < x.length then false else lexB x y
theorem lexB_irrefl : ∀ x, lexB x x = false
 | [] => rfl
 | x :: xs => by simp [lexB, lexB_irrefl xs]
theorem lexB_trans : ∀ {x y z : List Int}, lexB x y = true → lexB y z = true → lexB x z = true
 | [], _, _, h, _ => by simp [lexB] at h
 | _ :: _, [], _, h, _ => by simp [lexB] at h
 | _ :: _, _ :: _, [], _, h => by simp [lexB] at h
 | x :: xs, y :: ys, z :: zs, h1, h2 => by
  have ih := lexB_trans (x := xs) (y := ys) (z := zs)
  unfold lexB at h1 h2 ⊢
  by_cases a : x < y
  ·
   by_cases b : y < z
   · rw [if_pos (by omega)]
   ·
    rw [if_neg b] at h2
    by_cases c : z < y
    · rw [if_pos c] at h2; cases h2
    · rw [if_pos (by omega)]
  ·
   rw [if_neg a] at h1
   by_cases a' : y < x
   · rw [if_pos a'] at h1; cases h1
   ·
    rw [if_neg a'] at h1
    by_cases b : y < z
    · rw [if_pos (by omega)]
    ·
     rw [if_neg b] at h2
     by_cases c : z < y
     · rw [if_pos c] at h2; cases h2
     ·
      rw [if_neg c] at h2
      rw [if_neg (by omega), if_neg (by omega)]
      exact ih h1 h2
theorem lexB_total : ∀ {x y : List Int}, x.length = y.length → lexB x y = false → lexB y x = false → x = y
 | [], [], _, _, _ => rfl
 | [], _ :: _, h, _, _ => by simp at h
 | _ :: _, [], h, _, _ => by simp at h
 | x :: xs, y :: ys, h, h1, h2 => by
  unfold lexB at h1 h2
  by_cases a : x < y
  · rw [if_pos a] at h1; cases h1
  ·
   by_cases b : y < x
   · rw [if_pos b] at h2; cases h2
   ·
    rw [if_neg a, if_neg b] at h1
    rw [if_neg b, if_neg a] at h2
    have e : x = y := by omega
    rw [e, lexB_total (by simpa using h) h1 h2]
theorem ltS_irrefl (x : List Int) : ltS x x = false := by simp [ltS, lexB_irrefl]
theorem ltS_trans {x y z : List Int} (h1 : ltS x y = true) (h2 : ltS y z = true) : ltS x z = true := by
 unfold ltS at h1 h2 ⊢
 by_cases a : x.length < y.length
 ·
  by_cases b : y.length < z.length
  · rw [if_pos (by omega)]
  ·
   rw [if_neg b] at h2
   by_cases c : z.length < y.length
   · rw [if_pos c] at h2; cases h2
   · rw [if_pos (by omega)]
 ·
  rw [if_neg a] at h1
  by_cases a' : y.length < x.length
  · rw [if_pos a'] at h1; cases h1
  ·
   rw [if_neg a'] at h1
   by_cases b : y.length < z.length
   · rw [if_pos (by omega)]
   ·
    rw [if_neg b] at h2
    by_cases c : z.length < y.length
    · rw [if_pos c] at h2; cases h2
    ·
     rw [if_neg c] at h2
     rw [if_neg (by omega), if_neg (by omega)]
     exact lexB_trans h1 h2
theorem ltS_asymm {x y : List Int} (h : ltS x y = true) : ltS y x = false := by
 cases e : ltS y x with
 | false => rfl
 | true => have := ltS_trans h e; rw [ltS_irrefl] at this; cases this
theorem ltS_total {x y : List Int} (h1 : ltS x y = false) (h2 : ltS y x = false) : x = y := by
 unfold ltS at h1 h2
 by_cases a : x.length < y.length
 · rw [if_pos a] at h1; cases h1
 ·
  by_cases b : y.length < x.length
  · rw [if_pos b] at h2; cases h2
  ·
   rw [if_neg a, if_neg b] at h1
   rw [if_neg b, if_neg a] at h2
   exact lexB_total (by omega) h1 h2
theorem ltS_len {x y : List Int} (h : ltS x y = true) : x.length ≤ y.length := by
 unfold ltS at h
 by_cases a : x.length < y.length
 · omega
 ·
  rw [if_neg a] at h
  by_cases b : y.length < x.length
  · rw [if_pos b] at h; cases h
  · omega
abbrev SrtS (l : List (List Int)) : Prop := l.Pairwise (fun a b => ltS a b = true)
theorem SrtS.nodup {l : List (List Int)} (h : SrtS l) : l.Nodup := by
 rw [List.nodup_iff_pairwise_ne]
 exact h.imp fun hab e => by rw [e, ltS_irrefl] at hab; cases hab
/-- Two lists in order that have the same members are the same. -/
theorem srtS_unique : ∀ {l m : List (List Int)}, SrtS l → SrtS m → (∀ x, x ∈ l ↔ x ∈ m) → l = m
 | [], [], _, _, _ => rfl
 | [], b :: m, _, _, h => by have := (h b).2 (by simp); simp at this
 | a :: l, [], _, _, h => by have := (h a).1 (by simp); simp at this
 | a :: l, b :: m, h1, h2, h => by
  rw [SrtS, List.pairwise_cons] at h1 h2
  have hab : a = b := by
   have ha := (h a).1 (by simp)
   have hb := (h b).2 (by simp)
   rcases List.mem_cons.1 ha with e | ha
   · exact e
   ·
    rcases List.mem_cons.1 hb with e | hb
    · exact e.symm
    ·
     have g1 := h2.1 a ha
     have g2 := h1.1 b hb
     rw [ltS_asymm g1] at g2
     cases g2
  subst hab
  have hnl : a ∉ l := fun hm => by have := h1.1 a hm; rw [ltS_irrefl] at this; cases this
  have hnm : a ∉ m := fun hm => by have := h2.1 a hm; rw [ltS_irrefl] at this; cases this
  congr 1
  refine srtS_unique h1.2 h2.2 fun x => ⟨fun hx => ?_, fun hx => ?_⟩
  ·
   rcases List.mem_cons.1 ((h x).1 (by simp [hx])) with e | hm
   · subst e; exact absurd hx hnl
   · exact hm
  ·
   rcases List.mem_cons.1 ((h x).2 (by simp [hx])) with e | hm
   · subst e; exact absurd hx hnm
   · exact hm

/-- A list of texts in order, with one more, if it is not there (the document's way). -/
def putS (l : List (List Int)) (b : List Int) : List (List Int) :=
 match l with
 | [] => [b]
 | x :: xs => if ltS x b then x :: putS xs b else if x = b then x :: xs else b :: x :: xs
theorem mem_putS : ∀ {l : List (List Int)} {b x : List Int}, x ∈ putS l b ↔ x = b ∨ x ∈ l
 | [], b, x => by simp [putS]
 | y :: ys, b, x => by
  have ih := mem_putS (l := ys) (b := b) (x := x)
  unfold putS
  split
  ·
   rw [List.mem_cons, ih, List.mem_cons]
   constructor
   ·
    rintro (h | h | h)
    · exact .inr (.inl h)
    · exact .inl h
    · exact .inr (.inr h)
   ·
    rintro (h | h | h)
    · exact .inr (.inl h)
    · exact .inl h
    · exact .inr (.inr h)
  ·
   split
   ·
    rename_i e
    rw [List.mem_cons]
    constructor
    ·
     rintro (h | h)
     · exact .inl (h.trans e)
     · exact .inr (.inr h)
    ·
     rintro (h | h | h)
     · exact .inl (h.trans e.symm)
     · exact .inl h
     · exact .inr h
   · rw [List.mem_cons, List.mem_cons]
theorem putS_srt : ∀ {l : List (List Int)} {b : List Int}, SrtS l → SrtS (putS l b)
 | [], b, _ => by simp [putS]
 | y :: ys, b, h => by
  have h' := h
  rw [SrtS, List.pairwise_cons] at h'
  have ih := putS_srt (b := b) h'.2
  unfold putS
  split
  ·
   rename_i e
   rw [SrtS, List.pairwise_cons]
   refine ⟨fun x hx => ?_, ih⟩
   rcases mem_putS.1 hx with rfl | hx
   · exact e
   · exact h'.1 x hx
  ·
   split
   · exact h
   ·
    rename_i e1 e2
    rw [SrtS, List.pairwise_cons]
    have hby : ltS b y = true := by
     cases e : ltS b y with
     | true => rfl
     | false => exact absurd (ltS_total (by simpa using e1) e) e2
    refine ⟨fun x hx => ?_, h⟩
    rcases List.mem_cons.1 hx with rfl | hx
    · exact hby
    · exact ltS_trans hby (h'.1 x hx)

/-- A beginning of one of the words, or none of their bytes. -/
def IsBeg (wss : List (List Int)) (x : List Int) : Prop := x = [] ∨ ∃ w ∈ wss, ∃ k, 1 ≤ k ∧ k ≤ w.length ∧ x = w.take k
theorem IsBeg.iff {wss : List (List Int)} {x : List Int} : IsBeg wss x ↔ x = [] ∨ x ≠ [] ∧ ∃ w ∈ wss, x <+: w := by
 constructor
 ·
  rintro (h | ⟨w, hw, k, h1, h2, rfl⟩)
  · exact .inl h
  ·
   right
   refine ⟨fun e => ?_, w, hw, List.take_prefix _ _⟩
   have := congrArg List.length e
   rw [List.length_take, List.length_nil] at this
   omega
 ·
  rintro (h | ⟨h0, w, hw, h⟩)
  · exact .inl h
  ·
   right
   obtain ⟨t, rfl⟩ := h
   refine ⟨_, hw, x.length, ?_, by simp, by simp⟩
   cases x with
   | nil => exact absurd rfl h0
   | cons a b => simp
theorem IsBeg.up {wss : List (List Int)} {x : List Int} (h : IsBeg wss x) : IsBeg wss x.dropLast := by
 rw [IsBeg.iff] at h ⊢
 rcases h with rfl | ⟨h0, w, hw, hp⟩
 · exact .inl rfl
 ·
  by_cases e : x.dropLast = []
  · exact .inl e
  · exact .inr ⟨e, w, hw, (List.dropLast_prefix x).trans hp⟩
theorem IsBeg.mono {wss vss : List (List Int)} {x : List Int} (h : IsBeg wss x) (hs : ∀ w ∈ wss, w ∈ vss) : IsBeg vss x := by
 rcases h with h | ⟨w, hw, r⟩
 · exact .inl h
 · exact .inr ⟨w, hs w hw, r⟩
/-- All the beginnings of a word, put in. -/
def putW (l : List (List Int)) (w : List Int) (k : Nat) : List (List Int) := (List.range k).foldl (fun l j => putS l (w.take (j + 1))) l
theorem putW_succ (l : List (List Int)) (w : List Int) (k : Nat) : putW l w (k + 1) = putS (putW l w k) (w.take (k + 1)) := by simp [putW, List.range_succ, List.foldl_append]
theorem putW_srt {l : List (List Int)} {w : List Int} (h : SrtS l) : ∀ k, SrtS (putW l w k)
 | 0 => by simpa [putW] using h
 | k + 1 => by rw [putW_succ]; exact putS_srt (putW_srt h k)
theorem mem_putW {l : List (List Int)} {w x : List Int} : ∀ {k : Nat}, x ∈ putW l w k ↔ x ∈ l ∨ ∃ j, 1 ≤ j ∧ j ≤ k ∧ x = w.take j
 | 0 => by simp [putW]; omega
 | k + 1 => by
  rw [putW_succ, mem_putS, mem_putW (k := k)]
  constructor
  ·
   rintro (h | h | ⟨j, h1, h2, h3⟩)
   · exact .inr ⟨k + 1, by omega, by omega, h⟩
   · exact .inl h
   · exact .inr ⟨j, h1, by omega, h3⟩
  ·
   rintro (h | ⟨j, h1, h2, h3⟩)
   · exact .inr (.inl h)
   ·
    by_cases e : j = k + 1
    · subst e; exact .inl h3
    · exact .inr (.inr ⟨j, h1, by omega, h3⟩)
/-- The beginnings of words, in order. -/
def nodesL (wss : List (List Int)) : List (List Int) := wss.foldl (fun l w => putW l w w.length) [[]]
theorem nodesL_snoc (wss : List (List Int)) (w : List Int) : nodesL (wss ++ [w]) = putW (nodesL wss) w w.length := by simp [nodesL, List.foldl_append]
theorem nodesL_srt (wss : List (List Int)) : SrtS (nodesL wss) := by
 refine snoc_ind (P := fun wss => SrtS (nodesL wss)) (by simp [nodesL]) (fun l x ih => ?_) wss
 rw [nodesL_snoc]; exact putW_srt ih _
theorem mem_nodesL {x : List Int} (wss : List (List Int)) : x ∈ nodesL wss ↔ IsBeg wss x := by
 refine snoc_ind (P := fun wss => x ∈ nodesL wss ↔ IsBeg wss x) (by simp [nodesL, IsBeg]) (fun l w ih => ?_) wss
 rw [nodesL_snoc, mem_putW, ih]
 unfold IsBeg
 constructor
 ·
  rintro ((h | ⟨v, hv, r⟩) | ⟨j, h1, h2, h3⟩)
  · exact .inl h
  · exact .inr ⟨v, by simp [hv], r⟩
  · exact .inr ⟨w, by simp, j, h1, h2, h3⟩
 ·
  rintro (h | ⟨v, hv, r⟩)
  · exact .inl (.inl h)
  ·
   rcases List.mem_append.1 hv with hv | hv
   · exact .inl (.inr ⟨v, hv, r⟩)
   · simp at hv; subst hv; exact .inr r
theorem nodesL_unique {wss l : List (List Int)} (h1 : SrtS l) (h2 : ∀ x, x ∈ l ↔ IsBeg wss x) : l = nodesL wss := srtS_unique h1 (nodesL_srt wss) fun x => (h2 x).trans (mem_nodesL wss).symm
theorem nodesL_ne (wss : List (List Int)) : nodesL wss ≠ [] := fun e => by
 have := (mem_nodesL (x := []) wss).2 (.inl rfl)
 rw [e] at this; cases this
theorem nodesL_head (wss : List (List Int)) : (nodesL wss)[0]? = some [] := by
 have h1 := nodesL_srt wss
 have h2 := (mem_nodesL (x := []) wss).2 (.inl rfl)
 revert h1 h2
 cases nodesL wss with
 | nil => intro _ h; cases h
 | cons a l =>
  intro h1 h2
  rw [SrtS, List.pairwise_cons] at h1
  rcases List.mem_cons.1 h2 with e | h
  · simp [e]
  ·
   have := ltS_len (h1.1 _ h)
   simp at this
   simp [this]

/-- Where a text stands in a list; -1: nowhere. -/
def placeS (l : List (List Int)) (b : List Int) : Int := if b ∈ l then (l.idxOf b : Int) else -1
theorem placeS_at {l : List (List Int)} (hn : l.Nodup) {i : Nat} {b : List Int} (h : l[i]? = some b) : placeS l b = i := by
 have hi := (List.getElem?_eq_some_iff.1 h).1
 unfold placeS
 rw [if_pos (List.mem_of_getElem? h)]
 have := List.Nodup.idxOf_getElem hn i hi
 rw [(List.getElem?_eq_some_iff.1 h).2] at this
 rw [this]
theorem placeS_no {l : List (List Int)} {b : List Int} (h : b ∉ l) : placeS l b = -1 := by unfold placeS; rw [if_neg h]
def lastB (x : List Int) : Int := (x.getLast?).getD 0
structure TrieT where
 up : List Int
 dep : List Int
 wrd : List Int
 byt : List Int
/-- The trie of words. -/
def trieP (wss : List (List Int)) : TrieT :=
 ⟨(nodesL wss).map fun x => placeS (nodesL wss) x.dropLast, (nodesL wss).map fun x => (x.length : Int), (nodesL wss).map fun x => placeS wss x, (nodesL wss).map lastB⟩

end Go.Proofs.YtbldfgaogmfoaaaGreat

/- Plain laws of layer 7: which tries may be; a trie read. -/

namespace Go.Proofs.YtbldfgaogmfoaaaGreat

theorem whichL_neg {fold : Bool} {x : List Int} {acc : List (List Int)} : whichL fold x acc < 0 ↔ ∀ y ∈ acc, foldL fold y ≠ foldL fold x := by
 unfold whichL whichO
 cases e : acc.findIdx? (fun w => sameL fold x w) with
 | none =>
  rw [List.findIdx?_eq_none_iff] at e
  constructor
  ·
   intro _ y hy h
   have := e y hy
   unfold sameL at this
   simp at this
   exact this h.symm
  · intro _; dsimp only; omega
 | some k =>
  constructor
  · intro h; dsimp only at h; omega
  ·
   intro h
   obtain ⟨hk, h1, _⟩ := List.findIdx?_eq_some_iff_getElem.1 e
   unfold sameL at h1
   simp at h1
   exact absurd h1.symm (h _ (List.getElem_mem hk))
theorem makeL_spec (fold : Bool) (l : List (List Int)) : (makeL fold l).Nodup ∧ ∀ y ∈ makeL fold l, foldL fold y = y := by
 refine snoc_ind (P := fun l => (makeL fold l).Nodup ∧ ∀ y ∈ makeL fold l, foldL fold y = y) (by simp [makeL]) (fun l x ⟨h1, h2⟩ => ?_) l
 rw [makeL_snoc]
 unfold addW
 by_cases h : whichL fold x (makeL fold l) < 0
 ·
  rw [if_pos h]
  have hn := whichL_neg.1 h
  refine ⟨?_, fun y hy => ?_⟩
  ·
   rw [List.nodup_append]
   refine ⟨h1, by simp, fun a ha b hb e => ?_⟩
   simp at hb
   subst hb
   subst e
   exact hn _ ha (foldL_foldL _ _)
  ·
   rcases List.mem_append.1 hy with hy | hy
   · exact h2 y hy
   · simp at hy; subst hy; exact foldL_foldL _ _
 · rw [if_neg h]; exact ⟨h1, h2⟩
theorem makeL_self : ∀ (l : List (List Int)), l.Nodup → makeL false l = l := by
 refine snoc_ind (P := fun l => l.Nodup → makeL false l = l) (by simp [makeL]) (fun l x ih h => ?_)
 rw [List.nodup_append] at h
 rw [makeL_snoc, ih h.1]
 unfold addW
 rw [if_pos (whichL_neg.2 fun y hy e => ?_)]
 · simp [foldL]
 ·
  simp [foldL] at e
  exact h.2.2 y hy x (by simp) e
theorem right_spec {fold : Bool} {wss : List (List Int)} (h : rightP fold wss = true) : wss.length ≤ 64 ∧ wss ≠ [] ∧ (∀ x ∈ wss, x.length ≠ 0 ∧ x.length ≤ 32) ∧ bsum wss ≤ 600 ∧ nodesR fold wss ≤ 400 ∧ makeL fold wss = wss := by
 rw [right_eq] at h
 unfold rightR at h
 rw [Bool.and_eq_true] at h
 have h1 : checkR fold wss = 0 := of_decide_eq_true h.1
 have h2 : makeL fold wss = wss := of_decide_eq_true h.2
 unfold checkR at h1
 by_cases a1 : wss.length = 0
 · rw [if_pos a1] at h1; cases h1
 ·
  rw [if_neg a1] at h1
  by_cases a2 : wss.length > 64
  · rw [if_pos a2] at h1; cases h1
  ·
   rw [if_neg a2] at h1
   by_cases a3 : ∃ x ∈ wss, x.length = 0
   · rw [if_pos a3] at h1; cases h1
   ·
    rw [if_neg a3] at h1
    by_cases a4 : ∃ x ∈ wss, x.length > 32
    · rw [if_pos a4] at h1; cases h1
    ·
     rw [if_neg a4] at h1
     by_cases a5 : bsum wss > 600
     · rw [if_pos a5] at h1; cases h1
     ·
      rw [if_neg a5] at h1
      by_cases a6 : nodesR fold wss > 400
      · rw [if_pos a6] at h1; cases h1
      · exact ⟨by omega, fun e => a1 (by rw [e]; rfl), fun x hx => ⟨fun e => a3 ⟨x, hx, e⟩, Nat.not_lt.1 fun e => a4 ⟨x, hx, e⟩⟩, by omega, by omega, h2⟩

theorem right_nodup {fold : Bool} {wss : List (List Int)} (h : rightP fold wss = true) : wss.Nodup ∧ ∀ w ∈ wss, foldL fold w = w := by
 have := makeL_spec fold wss
 rwa [(right_spec h).2.2.2.2.2] at this
/-- How many nodes there are. -/
theorem nodesL_count (fold : Bool) {wss : List (List Int)} (hf : ∀ w ∈ wss, foldL fold w = w) : ((nodesL wss).length : Int) = nodesR fold wss := by
 obtain ⟨h1, h2⟩ := count_eq fold wss
 have hp : (nodesL wss).Perm (prun (begL fold wss)).1 := by
  rw [List.perm_ext_iff_of_nodup (nodesL_srt wss).nodup (rep_run (begL fold wss)).nodup]
  intro x
  rw [mem_nodesL, h2, IsBeg.iff]
  unfold Begs
  constructor
  ·
   rintro (h | ⟨h0, w, hw, hp⟩)
   · exact .inl h
   · exact .inr ⟨w, hw, by rw [hf w hw]; exact hp⟩
  ·
   rintro (h | ⟨w, hw, hp⟩)
   · exact .inl h
   ·
    by_cases e : x = []
    · exact .inl e
    · exact .inr ⟨e, w, hw, by rw [hf w hw] at hp; exact hp⟩
 rw [hp.length_eq]
 exact h1

theorem right_false {fold : Bool} {wss : List (List Int)} (h : rightP fold wss = true) : rightP false wss = true := by
 obtain ⟨h1, h2, h3, h4, h5, h6⟩ := right_spec h
 obtain ⟨g1, g2⟩ := right_nodup h
 have e1 : nodesR false wss = nodesR fold wss := by rw [← nodesL_count fold g2, ← nodesL_count false (fun w _ => by simp [foldL])]
 rw [right_eq]
 unfold rightR
 rw [Bool.and_eq_true]
 refine ⟨decide_eq_true ?_, decide_eq_true (makeL_self wss g1)⟩
 unfold checkR
 rw [if_neg (fun e => h2 (List.eq_nil_of_length_eq_zero e)), if_neg (by omega), if_neg (fun ⟨x, hx, e⟩ => (h3 x hx).1 e), if_neg (fun ⟨x, hx, e⟩ => by have := (h3 x hx).2; omega), if_neg (by omega), if_neg (by rw [e1]; omega)]

/-! ### a trie read -/
/-- The bytes of the first nodes. -/
def spTo (T : TrieT) : Nat → Option (List (List Int))
 | 0 => none
 | 1 => some [[]]
 | i + 2 => (spTo T (i + 1)).bind fun l => match T.up[i + 1]?, T.byt[i + 1]? with
  | some u, some c => if 0 ≤ u ∧ u < (i : Int) + 1 then (l[u.toNat]?).map fun p => l ++ [p ++ [c]] else none
  | _, _ => none
def spO (T : TrieT) : Option (List (List Int)) :=
 if 1 ≤ T.up.length ∧ T.up.length ≤ 400 ∧ T.byt.length = T.up.length ∧ T.dep.length = T.up.length ∧ T.wrd.length = T.up.length then spTo T T.up.length else none
theorem spTo_length {T : TrieT} : ∀ {i : Nat} {l : List (List Int)}, spTo T i = some l → l.length = i
 | 0, l, h => by cases h
 | 1, l, h => by simp [spTo] at h; simp [← h]
 | i + 2, l, h => by
  unfold spTo at h
  obtain ⟨l0, h0, h⟩ := Option.bind_eq_some_iff.1 h
  have ih := spTo_length h0
  split at h
  ·
   split at h
   ·
    obtain ⟨p, hp, rfl⟩ := Option.map_eq_some_iff.1 h
    simp [ih]
   · cases h
  · cases h
/-- What is numbered: of each word's number its node (0: none yet), how many. -/
def nuTo (T : TrieT) (n : Nat) : Nat → Option (List Int × Int)
 | 0 => some (List.replicate n 0, 0)
 | i + 1 => (nuTo T n i).bind fun s => match T.wrd[i]? with
  | some w => if w = -1 then some s else if w < 0 ∨ (n : Int) ≤ w ∨ i = 0 ∨ (s.1[w.toNat]?).getD 0 ≠ 0 then none else some (s.1.set w.toNat i, s.2 + 1)
  | none => none
def wdTo (sp : List (List Int)) (at_ : List Int) : Nat → Option (List (List Int))
 | 0 => some []
 | k + 1 => (wdTo sp at_ k).bind fun l => match at_[k]? with
  | some i => if i = 0 then none else (sp[i.toNat]?).map fun x => l ++ [x]
  | none => none
def nuO (T : TrieT) (sp : List (List Int)) : Option (List (List Int)) := (nuTo T sp.length T.wrd.length).bind fun s => wdTo sp s.1 s.2.toNat
def eqT (T U : TrieT) : Bool := decide (T.up = U.up) && decide (T.dep = U.dep) && decide (T.wrd = U.wrd) && decide (T.byt = U.byt)
theorem eqT_iff {T U : TrieT} : eqT T U = true ↔ T = U := by
 obtain ⟨a, b, c, d⟩ := T
 obtain ⟨a', b', c', d'⟩ := U
 simp [eqT, and_assoc]
def readP (T : TrieT) : Option (List (List Int) × List (List Int)) :=
 (spO T).bind fun sp => (nuO T sp).bind fun ws => if (rightP false ws && eqT (trieP ws) T) = true then some (sp, ws) else none

section
variable {ws : List (List Int)}
theorem foldL_false (w : List Int) : foldL false w = w := by simp [foldL]
theorem right_nodes (h : rightP false ws = true) : 1 ≤ (nodesL ws).length ∧ (nodesL ws).length ≤ 400 := by
 have h1 := (right_spec h).2.2.2.2.1
 have h2 := nodesL_count false (wss := ws) (fun w _ => foldL_false w)
 have h3 : (nodesL ws).length ≠ 0 := fun e => nodesL_ne ws (List.eq_nil_of_length_eq_zero e)
 omega
/-- The node above stands ahead. -/
theorem up_lt {i : Nat} {x : List Int} (h : (nodesL ws)[i]? = some x) (h0 : x ≠ []) : ∃ j, j < i ∧ (nodesL ws)[j]? = some x.dropLast ∧ placeS (nodesL ws) x.dropLast = j := by
 have hs := nodesL_srt ws
 have hm : x.dropLast ∈ nodesL ws := (mem_nodesL ws).2 ((mem_nodesL ws).1 (List.mem_of_getElem? h)).up
 obtain ⟨j, hj⟩ := List.getElem?_of_mem hm
 refine ⟨j, ?_, hj, placeS_at hs.nodup hj⟩
 have hlen : x.dropLast.length < x.length := by
  rw [List.length_dropLast]
  have : x.length ≠ 0 := fun e => h0 (List.eq_nil_of_length_eq_zero e)
  omega
 have hi' := (List.getElem?_eq_some_iff.1 h)
 have hj' := (List.getElem?_eq_some_iff.1 hj)
 rcases Nat.lt_or_ge j i with hlt | hge
 · exact hlt
 ·
  exfalso
  rcases Nat.lt_or_ge i j with hlt | hge2
  ·
   have hp := List.pairwise_iff_getElem.1 hs i j hi'.1 hj'.1 hlt
   rw [hi'.2, hj'.2] at hp
   have := ltS_len hp
   omega
  ·
   have e : i = j := by omega
   subst e
   rw [h] at hj
   have := congrArg List.length (Option.some.inj hj)
   omega
theorem dropLast_lastB {x : List Int} (h : x ≠ []) : x.dropLast ++ [lastB x] = x := by
 unfold lastB
 rw [List.getLast?_eq_some_getLast h, Option.getD_some]
 exact List.dropLast_concat_getLast h
theorem nodes_ne {i : Nat} {x : List Int} (h : (nodesL ws)[i + 1]? = some x) : x ≠ [] := by
 intro e
 subst e
 have h0 := nodesL_head ws
 have hn := (nodesL_srt ws).nodup
 have := nodup_at hn h0 h
 omega
theorem spTo_trie : ∀ i, 1 ≤ i → i ≤ (nodesL ws).length → spTo (trieP ws) i = some ((nodesL ws).take i)
 | 0, h, _ => by omega
 | 1, _, _ => by
  have h0 := nodesL_head ws
  revert h0
  cases nodesL ws with
  | nil => intro h; cases h
  | cons a l => intro h; simp at h; simp [spTo, h]
 | i + 2, _, h => by
  have ih := spTo_trie (i + 1) (by omega) (by omega)
  obtain ⟨x, hx⟩ : ∃ x, (nodesL ws)[i + 1]? = some x := ⟨(nodesL ws)[i + 1]'(by omega), by simp⟩
  have h0 := nodes_ne hx
  obtain ⟨j, hj, hjx, hpl⟩ := up_lt hx h0
  unfold spTo
  rw [ih, Option.bind_some]
  have e1 : (trieP ws).up[i + 1]? = some (j : Int) := by simp [trieP, hx, hpl]
  have e2 : (trieP ws).byt[i + 1]? = some (lastB x) := by simp [trieP, hx]
  rw [e1, e2]
  dsimp only
  rw [if_pos ⟨by omega, by omega⟩, Int.toNat_natCast, List.getElem?_take, if_pos hj, hjx, Option.map_some, dropLast_lastB h0, take_step hx]
theorem spO_trie (h : rightP false ws = true) : spO (trieP ws) = some (nodesL ws) := by
 obtain ⟨h1, h2⟩ := right_nodes h
 unfold spO
 have e : (trieP ws).up.length = (nodesL ws).length := by simp [trieP]
 rw [if_pos ⟨by rw [e]; exact h1, by rw [e]; exact h2, by simp [trieP], by simp [trieP], by simp [trieP]⟩, e, spTo_trie _ h1 (Nat.le_refl _), List.take_length]

/-- The word's node, if it stands ahead of i. -/
def atW (ws : List (List Int)) (i w : Nat) : Int := match ws[w]? with
 | some x => if (nodesL ws).idxOf x < i then ((nodesL ws).idxOf x : Int) else 0
 | none => 0
theorem word_node {w : Nat} {x : List Int} (hx : ws[w]? = some x) (h0 : x ≠ []) : ∃ j, 1 ≤ j ∧ (nodesL ws)[j]? = some x ∧ (nodesL ws).idxOf x = j := by
 have hm : x ∈ nodesL ws := (mem_nodesL ws).2 (IsBeg.iff.2 (.inr ⟨h0, x, List.mem_of_getElem? hx, List.prefix_refl _⟩))
 obtain ⟨j, hj⟩ := List.getElem?_of_mem hm
 refine ⟨j, ?_, hj, ?_⟩
 ·
  by_cases e : j = 0
  ·
   subst e
   rw [nodesL_head] at hj
   exact absurd (Option.some.inj hj).symm h0
  · omega
 ·
  have := List.Nodup.idxOf_getElem (nodesL_srt ws).nodup j (List.getElem?_eq_some_iff.1 hj).1
  rwa [(List.getElem?_eq_some_iff.1 hj).2] at this
/-- How many words' nodes stand ahead of i. -/
def manyW (ws : List (List Int)) (i : Nat) : Int := ((ws.filter fun x => decide ((nodesL ws).idxOf x < i)).length : Int)
theorem words_lt (h : rightP false ws = true) : ws.length < (nodesL ws).length := by
 obtain ⟨g1, _⟩ := right_nodup h
 have h3 := (right_spec h).2.2.1
 have hp : ([] :: ws).Nodup := by
  rw [List.nodup_cons]
  exact ⟨fun hm => (h3 _ hm).1 rfl, g1⟩
 have hs : ([] :: ws) ⊆ nodesL ws := fun x hx => by
  rw [mem_nodesL, IsBeg.iff]
  rcases List.mem_cons.1 hx with e | hx
  · exact .inl e
  · exact .inr ⟨fun e => by subst e; exact (h3 _ hx).1 rfl, x, hx, List.prefix_refl _⟩
 have := hp.length_le_of_subset hs
 rw [List.length_cons] at this
 omega
theorem atW_at {i w : Nat} (hw : w < ws.length) (h : rightP false ws = true) : ∃ j x, 1 ≤ j ∧ ws[w]? = some x ∧ (nodesL ws)[j]? = some x ∧ atW ws i w = if j < i then (j : Int) else 0 := by
 obtain ⟨x, hx⟩ : ∃ x, ws[w]? = some x := ⟨ws[w]'hw, by simp⟩
 have h3 := ((right_spec h).2.2.1 x (List.mem_of_getElem? hx)).1
 obtain ⟨j, hj, hjx, hid⟩ := word_node hx (fun e => h3 (by rw [e]; rfl))
 refine ⟨j, x, hj, hx, hjx, ?_⟩
 unfold atW
 rw [hx]
 dsimp only
 rw [hid]
theorem nuTo_trie (h : rightP false ws = true) : ∀ i, i ≤ (nodesL ws).length → nuTo (trieP ws) (nodesL ws).length i = some ((List.range (nodesL ws).length).map (fun w => atW ws i w), manyW ws i)
 | 0, _ => by
  unfold nuTo
  have e1 : (fun w => atW ws 0 w) = fun _ => 0 := by
   funext w
   unfold atW
   split <;> simp
  have e2 : manyW ws 0 = 0 := by simp [manyW]
  rw [e1, e2]
  simp [List.map_const']
 | i + 1, hi => by
  have ih := nuTo_trie h i (by omega)
  obtain ⟨g1, _⟩ := right_nodup h
  have hns := (nodesL_srt ws).nodup
  obtain ⟨x, hx⟩ : ∃ x, (nodesL ws)[i]? = some x := ⟨(nodesL ws)[i]'(by omega), by simp⟩
  have hidx : (nodesL ws).idxOf x = i := by
   have := List.Nodup.idxOf_getElem hns i (by omega)
   rwa [(List.getElem?_eq_some_iff.1 hx).2] at this
  unfold nuTo
  rw [ih, Option.bind_some]
  have ew : (trieP ws).wrd[i]? = some (placeS ws x) := by simp [trieP, hx]
  rw [ew]
  dsimp only
  have hidx2 : ∀ y ∈ ws, (nodesL ws).idxOf y = i → y = x := fun y hy e => by
   have hym : y ∈ nodesL ws := by
    rw [mem_nodesL, IsBeg.iff]
    exact .inr ⟨fun e => by subst e; exact ((right_spec h).2.2.1 _ hy).1 rfl, y, hy, List.prefix_refl _⟩
   have h1 := List.getElem_idxOf (List.idxOf_lt_length_of_mem hym)
   have h2 := (List.getElem?_eq_some_iff.1 hx).2
   rw [← h1, ← h2]
   congr 1
  by_cases hm : x ∈ ws
  ·
   obtain ⟨w, hw⟩ := List.getElem?_of_mem hm
   have hwl := (List.getElem?_eq_some_iff.1 hw).1
   have hwn := words_lt h
   have hp := placeS_at g1 hw
   have hx0 : x ≠ [] := fun e => by subst e; exact ((right_spec h).2.2.1 _ hm).1 rfl
   have hi0 : i ≠ 0 := fun e => by
    subst e
    rw [nodesL_head] at hx
    exact hx0 (Option.some.inj hx).symm
   rw [hp, if_neg (by omega), Int.toNat_natCast]
   have ea : atW ws i w = 0 := by unfold atW; rw [hw]; dsimp only; rw [hidx, if_neg (by omega)]
   have eg : (((List.range (nodesL ws).length).map (fun w => atW ws i w))[w]?).getD 0 = 0 := by
    rw [List.getElem?_map, List.getElem?_range (by omega)]
    simpa using ea
   rw [if_neg (by rw [eg]; omega)]
   congr 1
   refine Prod.ext ?_ ?_
   ·
    dsimp only
    apply List.ext_getElem?
    intro v
    rw [List.getElem?_set]
    by_cases e : w = v
    ·
     subst e
     have hwn' : w < (nodesL ws).length := by omega
     have e1 : atW ws (i + 1) w = i := by unfold atW; rw [hw]; dsimp only; rw [hidx, if_pos (by omega)]
     simp [hwn', e1]
    ·
     rw [if_neg e, List.getElem?_map, List.getElem?_map]
     by_cases hv : v < (nodesL ws).length
     ·
      rw [List.getElem?_range hv]
      simp only [Option.map_some, Option.some.injEq]
      unfold atW
      cases ev : ws[v]? with
      | none => rfl
      | some y =>
       dsimp only
       have hne : (nodesL ws).idxOf y ≠ i := fun e2 => by
        have := hidx2 y (List.mem_of_getElem? ev) e2
        subst this
        exact e (nodup_at g1 hw ev)
       by_cases hlt : (nodesL ws).idxOf y < i
       · rw [if_pos hlt, if_pos (by omega)]
       · rw [if_neg hlt, if_neg (by omega)]
     · rw [List.getElem?_eq_none (by simpa using hv)]; rfl
   ·
    dsimp only
    unfold manyW
    have key : ∀ (l : List (List Int)), l.Nodup → x ∈ l → (∀ y ∈ l, (nodesL ws).idxOf y = i → y = x) → (l.filter fun y => decide ((nodesL ws).idxOf y < i + 1)).length = (l.filter fun y => decide ((nodesL ws).idxOf y < i)).length + 1 := by
     intro l
     induction l with
     | nil => intro _ h; cases h
     | cons y l ihl =>
      intro hn hxm hu
      rw [List.nodup_cons] at hn
      by_cases e : y = x
      ·
       subst e
       have hrest : ∀ z ∈ l, (decide ((nodesL ws).idxOf z < i + 1)) = decide ((nodesL ws).idxOf z < i) := fun z hz => by
        have hne : (nodesL ws).idxOf z ≠ i := fun e2 => by
         have := hu z (by simp [hz]) e2
         subst this
         exact hn.1 hz
        rw [decide_eq_decide]; omega
       rw [List.filter_cons, List.filter_cons, if_pos (by rw [hidx]; simp), if_neg (by rw [hidx]; simp), List.length_cons, List.filter_congr hrest]
      ·
       have hxl : x ∈ l := (List.mem_cons.1 hxm).resolve_left (fun e2 => e e2.symm)
       have hne : (nodesL ws).idxOf y ≠ i := fun e2 => e (hu y (by simp) e2)
       have ih2 := ihl hn.2 hxl (fun z hz => hu z (by simp [hz]))
       rw [List.filter_cons, List.filter_cons]
       by_cases hlt : (nodesL ws).idxOf y < i
       · rw [if_pos (by simp; omega), if_pos (by simpa using hlt), List.length_cons, List.length_cons, ih2]
       · rw [if_neg (by simp; omega), if_neg (by simpa using hlt), ih2]
    rw [key ws g1 hm hidx2]
    omega
  ·
   rw [placeS_no hm, if_pos rfl]
   congr 1
   have hne : ∀ y ∈ ws, (nodesL ws).idxOf y ≠ i := fun y hy e => hm (hidx2 y hy e ▸ hy)
   refine Prod.ext ?_ ?_
   ·
    dsimp only
    apply List.map_congr_left
    intro v _
    unfold atW
    cases ev : ws[v]? with
    | none => rfl
    | some y =>
     dsimp only
     have := hne y (List.mem_of_getElem? ev)
     by_cases hlt : (nodesL ws).idxOf y < i
     · rw [if_pos hlt, if_pos (by omega)]
     · rw [if_neg hlt, if_neg (by omega)]
   ·
    dsimp only
    have ef : (ws.filter fun y => decide ((nodesL ws).idxOf y < i + 1)) = ws.filter fun y => decide ((nodesL ws).idxOf y < i) := List.filter_congr (fun y hy => by have := hne y hy; rw [decide_eq_decide]; omega)
    unfold manyW
    rw [ef]
theorem manyW_all (h : rightP false ws = true) : manyW ws (nodesL ws).length = ws.length := by
 unfold manyW
 rw [List.filter_eq_self.2]
 intro y hy
 have hym : y ∈ nodesL ws := by
  rw [mem_nodesL, IsBeg.iff]
  exact .inr ⟨fun e => by subst e; exact ((right_spec h).2.2.1 _ hy).1 rfl, y, hy, List.prefix_refl _⟩
 simpa using List.idxOf_lt_length_of_mem hym
theorem wdTo_trie (h : rightP false ws = true) : ∀ k, k ≤ ws.length → wdTo (nodesL ws) ((List.range (nodesL ws).length).map (fun w => atW ws (nodesL ws).length w)) k = some (ws.take k)
 | 0, _ => rfl
 | k + 1, hk => by
  have ih := wdTo_trie h k (by omega)
  obtain ⟨j, x, hj, hx, hjx, ha⟩ := atW_at (i := (nodesL ws).length) (w := k) (by omega) h
  have hjl := (List.getElem?_eq_some_iff.1 hjx).1
  rw [if_pos hjl] at ha
  unfold wdTo
  rw [ih, Option.bind_some, List.getElem?_map, List.getElem?_range (by have := words_lt h; omega)]
  simp only [Option.map_some, ha]
  rw [if_neg (by omega), Int.toNat_natCast, hjx, Option.map_some, take_step hx]
theorem nuO_trie (h : rightP false ws = true) : nuO (trieP ws) (nodesL ws) = some ws := by
 unfold nuO
 have e : (trieP ws).wrd.length = (nodesL ws).length := by simp [trieP]
 rw [e, nuTo_trie h _ (Nat.le_refl _), Option.bind_some]
 dsimp only
 rw [manyW_all h, Int.toNat_natCast, wdTo_trie h _ (Nat.le_refl _), List.take_length]
theorem readP_trie (h : rightP false ws = true) : readP (trieP ws) = some (nodesL ws, ws) := by
 unfold readP
 rw [spO_trie h, Option.bind_some, nuO_trie h, Option.bind_some, if_pos (by rw [h, eqT_iff.2 rfl]; rfl)]
end
/-- What is read of a trie: just what it is made of. -/
theorem readP_iff {T : TrieT} {sp ws : List (List Int)} : readP T = some (sp, ws) ↔ rightP false ws = true ∧ T = trieP ws ∧ sp = nodesL ws := by
 constructor
 ·
  intro h
  unfold readP at h
  obtain ⟨sp0, h1, h⟩ := Option.bind_eq_some_iff.1 h
  obtain ⟨ws0, h2, h⟩ := Option.bind_eq_some_iff.1 h
  split at h
  ·
   rename_i hc
   rw [Bool.and_eq_true] at hc
   have hc : rightP false ws0 = true ∧ T = trieP ws0 := ⟨hc.1, (eqT_iff.1 hc.2).symm⟩
   injection h with h
   injection h with e1 e2
   subst e1 e2
   refine ⟨hc.1, hc.2, ?_⟩
   rw [hc.2, spO_trie hc.1] at h1
   exact (Option.some.inj h1).symm
  · cases h
 ·
  rintro ⟨h1, rfl, rfl⟩
  exact readP_trie h1

end Go.Proofs.YtbldfgaogmfoaaaGreat

/- Bytes that are told apart (layer 10): plain. -/

namespace Go.Proofs.YtbldfgaogmfoaaaGreat

/-- A small letter. -/
def smallI (c : Int) : Bool := decide (97 ≤ c ∧ c ≤ 122)
/-- Is a byte one of a set's? -/
def inB (fold : Bool) (ws : List (List Int)) (c : Int) : Bool := ws.any fun w => w.any fun x => decide (x = c) || (fold && smallI x && decide (x - 32 = c))
/-- The classes of the first bytes, and how many there are. -/
def clsN (p : Int → Bool) (fold : Bool) : Nat → List Int × Nat
 | 0 => ([], 1)
 | i + 1 => if p i = false then ((clsN p fold i).1 ++ [0], (clsN p fold i).2)
  else if (fold && smallI i) = true then ((clsN p fold i).1 ++ [((clsN p fold i).1[i - 32]?).getD 0], (clsN p fold i).2)
  else ((clsN p fold i).1 ++ [((clsN p fold i).2 : Int)], (clsN p fold i).2 + 1)
theorem clsN_succ (p : Int → Bool) (fold : Bool) (i : Nat) : clsN p fold (i + 1) = if p i = false then ((clsN p fold i).1 ++ [0], (clsN p fold i).2)
  else if (fold && smallI i) = true then ((clsN p fold i).1 ++ [((clsN p fold i).1[i - 32]?).getD 0], (clsN p fold i).2)
  else ((clsN p fold i).1 ++ [((clsN p fold i).2 : Int)], (clsN p fold i).2 + 1) := rfl
theorem clsN_len (p : Int → Bool) (fold : Bool) : ∀ i, (clsN p fold i).1.length = i
 | 0 => rfl
 | i + 1 => by
  have ih := clsN_len p fold i
  unfold clsN
  split
  · simp [ih]
  · split <;> simp [ih]
theorem clsN_many (p : Int → Bool) (fold : Bool) : ∀ i, 1 ≤ (clsN p fold i).2 ∧ (clsN p fold i).2 ≤ i + 1
 | 0 => ⟨Nat.le_refl _, Nat.le_refl _⟩
 | i + 1 => by
  have ih := clsN_many p fold i
  unfold clsN
  split
  · exact ⟨ih.1, by show (clsN p fold i).2 ≤ _; omega⟩
  ·
   split
   · exact ⟨ih.1, by show (clsN p fold i).2 ≤ _; omega⟩
   · exact ⟨by show 1 ≤ (clsN p fold i).2 + 1; omega, by show (clsN p fold i).2 + 1 ≤ _; omega⟩
theorem clsN_old (p : Int → Bool) (fold : Bool) {j : Nat} : ∀ {i}, j < i → (clsN p fold i).1[j]? = (clsN p fold (j + 1)).1[j]?
 | 0, h => absurd h (Nat.not_lt_zero _)
 | i + 1, h => by
  by_cases hj : j = i
  · subst hj; rfl
  ·
   have ih := clsN_old p fold (j := j) (i := i) (by omega)
   rw [← ih]
   have hl := clsN_len p fold i
   conv => lhs; unfold clsN
   split
   · exact List.getElem?_append_left (by omega)
   ·
    split
    · exact List.getElem?_append_left (by omega)
    · exact List.getElem?_append_left (by omega)
def clsP (fold : Bool) (ws : List (List Int)) : List Int := (clsN (inB fold ws) fold 256).1
def manyP (fold : Bool) (ws : List (List Int)) : Nat := (clsN (inB fold ws) fold 256).2
theorem clsP_len (fold : Bool) (ws : List (List Int)) : (clsP fold ws).length = 256 := clsN_len _ _ _
/-- The class of a byte. -/
theorem cls_at (p : Int → Bool) (fold : Bool) {j i : Nat} (h : j < i) : (clsN p fold i).1[j]? = some (if p j = false then 0 else if (fold && smallI j) = true then ((clsN p fold j).1[j - 32]?).getD 0 else ((clsN p fold j).2 : Int)) := by
 rw [clsN_old p fold h, clsN_succ]
 have hl := clsN_len p fold j
 split
 · rw [List.getElem?_append_right (by omega), hl, Nat.sub_self]; rfl
 ·
  split
  · rw [List.getElem?_append_right (by omega), hl, Nat.sub_self]; rfl
  · rw [List.getElem?_append_right (by omega), hl, Nat.sub_self]; rfl
end Go.Proofs.YtbldfgaogmfoaaaGreat
