/- How many nodes words have, by the document (layer 5): walked. -/
import Derived.Test.YtmpmjkbjnklgfaaD2
namespace Go.Proofs.Ytmpmjkbjnklgfaa
open Go.RowKit Go.Sort
set_option linter.unusedVariables false

def oldR (fold : Bool) (pre : List (List Int)) (x : List Int) : Int := pre.foldl (fun m y => max m (commonL (foldL fold x) (foldL fold y) : Int)) 0
def nodesG (fold : Bool) : List (List Int) → List (List Int) → Int → Int
  | _, [], n => n
  | pre, x :: rest, n => nodesG fold (pre ++ [x]) rest (n + x.length - oldR fold pre x)
def nodesR (fold : Bool) (wss : List (List Int)) : Int := nodesG fold [] wss 1
theorem oldR_snoc (fold : Bool) (pre : List (List Int)) (x y : List Int) : oldR fold (pre ++ [y]) x = max (oldR fold pre x) (commonL (foldL fold x) (foldL fold y) : Int) := by simp [oldR, List.foldl_append]
theorem nodesG_snoc (fold : Bool) : ∀ (rest pre : List (List Int)) (x : List Int) (n : Int), nodesG fold pre (rest ++ [x]) n = nodesG fold pre rest n + x.length - oldR fold (pre ++ rest) x
  | [], pre, x, n => by simp [nodesG]
  | y :: rest, pre, x, n => by
    rw [List.cons_append, nodesG, nodesG, nodesG_snoc fold rest (pre ++ [y]) x]
    simp
theorem nodesR_snoc (fold : Bool) (l : List (List Int)) (x : List Int) : nodesR fold (l ++ [x]) = nodesR fold l + x.length - oldR fold l x := by
  unfold nodesR
  rw [nodesG_snoc, List.nil_append]
theorem commonL_le : ∀ (xs ys : List Int), commonL xs ys ≤ xs.length
  | [], _ => by simp [commonL]
  | _ :: _, [] => by simp [commonL]
  | x :: xs, y :: ys => by
    have := commonL_le xs ys
    unfold commonL
    split <;> simp <;> omega
theorem oldR_bd (fold : Bool) (x : List Int) (pre : List (List Int)) : 0 ≤ oldR fold pre x ∧ oldR fold pre x ≤ x.length := by
  obtain ⟨n, hn⟩ : ∃ n, pre.length = n := ⟨_, rfl⟩
  induction n generalizing pre with
  | zero => obtain rfl := List.eq_nil_of_length_eq_zero hn; simp [oldR]
  | succ n ih =>
    obtain ⟨l', y, rfl⟩ : ∃ l' y, pre = l' ++ [y] := ⟨pre.dropLast, pre.getLast (by intro h; simp [h] at hn), (List.dropLast_concat_getLast _).symm⟩
    have h1 := ih l' (by simpa using hn)
    have h2 := commonL_le (foldL fold x) (foldL fold y)
    rw [foldL_length] at h2
    rw [oldR_snoc]
    omega
theorem nodesR_bd {fold : Bool} {M : Nat} (l : List (List Int)) (h : ∀ x ∈ l, x.length ≤ M) : 1 ≤ nodesR fold l ∧ nodesR fold l ≤ 1 + l.length * (M : Int) := by
  obtain ⟨n, hn⟩ : ∃ n, l.length = n := ⟨_, rfl⟩
  induction n generalizing l with
  | zero => obtain rfl := List.eq_nil_of_length_eq_zero hn; simp [nodesR, nodesG]
  | succ n ih =>
    obtain ⟨l', x, rfl⟩ : ∃ l' x, l = l' ++ [x] := ⟨l.dropLast, l.getLast (by intro h; simp [h] at hn), (List.dropLast_concat_getLast _).symm⟩
    have h1 := ih l' (fun y hy => h y (by simp [hy])) (by simpa using hn)
    have h2 := oldR_bd fold x l'
    have hx := h x (by simp)
    rw [nodesR_snoc]
    have e : ((l' ++ [x]).length : Int) * (M : Int) = l'.length * (M : Int) + M := by
      rw [List.length_append, List.length_cons, List.length_nil, Int.natCast_add, Int.add_mul]; simp
    rw [e]
    omega

theorem text_c (fold : Bool) (a : Option Addr) (la ca : Nat) (xs : List Int) (w : World) (hA : Bys w a la xs) (hla : la ≤ 1000000) :
    Calls Try.prog 89 #[.bool fold, .slice a la ca] w fun e w' => ∃ a1 c1, e = .returned (.slice a1 la c1) ∧ Bys w' a1 la (foldL fold xs) ∧ Below w.heap.size w w' :=
  (text_any fold a la ca xs w hA hla).mono fun e w' ⟨v, he, hown, hb⟩ => by
    obtain ⟨a1, c1, rfl, _, h⟩ := own_bys hown (foldL_bd hA.2)
    exact ⟨a1, c1, he, h, hb⟩

set_option maxRecDepth 100000 in
set_option maxHeartbeats 4000000 in
theorem rnodes_any (fold : Bool) (a : Option Addr) (la ca : Nat) (wss : List (List Int)) (w : World) (hA : Wds w a la wss) (hla : la ≤ 1000000) (hM : ∀ x ∈ wss, x.length ≤ 1000000) :
    Calls Try.prog 48 #[.bool fold, .slice a la ca] w fun e w' => e = .returned (.int .i64 (nodesR fold wss)) ∧ Below w.heap.size w w' := by
  have HL := Lib.hid hA.len
  have HM := Lib.hid hM
  have HA := Lib.hid hA
  clear hA hM
  go_enter Try.func48, Try.ntmps48
  go_wp2
  go_loopw [5, 6] (fun s i wr => ∃ (k : Nat) (n : Int), k ≤ la ∧ i = .int .i64 k ∧ s = .int .i64 n ∧ Hid (n = nodesR fold (wss.take k)) ∧ Below w.heap.size w wr) (fun _ i _ => la - (intOf i).toNat)
  case atStart => exact ⟨0, 1, Nat.zero_le _, rfl, rfl, by simp [Hid, nodesR, nodesG], Below.refl _ _⟩
  case round =>
    obtain ⟨k, n, hk, rfl, rfl, HN, hBe⟩ := hrel
    by_cases hlt : k < la
    · obtain ⟨bb, off, a', l, c, x, rfl, hbl, hcell0, hx, hX, hlc⟩ := HA.out.at_ hlt
      have hxl : l ≤ 1000000 := by have := mem_bd HM.out hx; rw [hX.len] at this; exact this
      have HX := Lib.hid hx
      have HXX := Lib.hid hX
      have hcell : ∀ v : World, Below w.heap.size w v → v.cell? ⟨bb, off + k, none⟩ = some (.slice a' l c) := fun v hv => (hv.cell (p := ⟨bb, off + k, none⟩) hbl).trans hcell0
      have HCL := Lib.hid hcell
      clear hx hX hcell hcell0
      go_wp2
      go_loopw [7, 8] (fun o i wr => ∃ (j : Nat) (m : Int), j ≤ k ∧ i = .int .i64 j ∧ o = .int .i64 m ∧ Hid (m = oldR fold (wss.take j) x) ∧ Below w.heap.size w wr) (fun _ i _ => k - (intOf i).toNat)
      case atStart => exact ⟨0, 0, Nat.zero_le _, rfl, rfl, by simp [Hid, oldR], hBe⟩
      case round =>
        clear hBe
        obtain ⟨j, m, hj, rfl, rfl, HO, hBe⟩ := hrel
        by_cases hjk : j < k
        · obtain ⟨b2, off2, a2, l2, c2, y, e2, hbl2, hcell2, hy, hY, hlc2⟩ := HA.out.at_ (show j < la by omega)
          simp only [Option.some.injEq, Addr.mk.injEq, and_true] at e2
          obtain ⟨rfl, rfl⟩ := e2
          have hyl : l2 ≤ 1000000 := by have := mem_bd HM.out hy; rw [hY.len] at this; exact this
          have HCL2 : Hid (∀ v : World, Below w.heap.size w v → v.cell? ⟨bb, off + j, none⟩ = some (.slice a2 l2 c2)) := fun v hv => (hv.cell (p := ⟨bb, off + j, none⟩) hbl2).trans hcell2
          have HS : Hid (max m (commonL (foldL fold x) (foldL fold y) : Int) = oldR fold (wss.take (j + 1)) x) := by
            rw [Hid, HO.out, take_step (show wss[j]? = some y from hy), oldR_snoc]
          have HYY := Lib.hid hY
          clear hcell2 hy hY
          have hXd : Bys wr.drew a' l x := HXX.out.below (hBe.trans ⟨rfl, rfl, rfl, Nat.le_refl _, fun _ _ => rfl⟩)
          have hBd : Below w.heap.size w wr.drew := hBe.trans ⟨rfl, rfl, rfl, Nat.le_refl _, fun _ _ => rfl⟩
          have k1 := HCL.out wr hBe
          have k2 := HCL2.out wr hBe
          have i1 : (0 : Int) ≤ (j : Int) := by omega
          have i2 : (j : Int) < (la : Int) := by omega
          have i3 : (0 : Int) ≤ (k : Int) := by omega
          have i4 : (k : Int) < (la : Int) := by omega
          go_wp2
          go_region_held3 (fun w' => w'.cell? ⟨bb, off + k, none⟩ = some (.slice a' l c) ∧ w'.cell? ⟨bb, off + j, none⟩ = some (.slice a2 l2 c2)) (go_keep) (first
            | (go_at_call 89; refine (text_c fold a' l c x wr.drew hXd hxl).mono ?_; rintro e w1 ⟨a1, c1, rfl, h12, hb1⟩
               have hBe1 : Below w.heap.size w w1 := hBd.trans (hb1.mono hBd.size)
               have d1 := HCL.out w1 hBe1
               have d2 := HCL2.out w1 hBe1
               have hY1 := HYY.out.below hBe1
               clear hXd)
            | (go_at_call 89; refine (text_c fold a2 l2 c2 y w1 hY1 hyl).mono ?_; rintro e w2 ⟨a3, c3, rfl, h22, hb2⟩
               have hBe2 : Below w.heap.size w w2 := hBe1.trans (hb2.mono hBe1.size)
               have d3 := HCL.out w2 hBe2
               have d4 := HCL2.out w2 hBe2
               have h12b := h12.below hb2
               clear hY1)
            | (go_at_call 88; refine (common_any a1 a3 l c1 l2 c3 _ _ w2 h12b h22 hxl hyl).mono ?_; rintro e w3 ⟨rfl, hb3⟩
               have hBe3 : Below w.heap.size w w3 := hBe2.trans (hb3.mono hBe2.size)
               have d5 := HCL.out w3 hBe3
               have d6 := HCL2.out w3 hBe3))
          all_goals
            go_wp2
            go_roundw
            case rel => exact ⟨j + 1, _, by omega, by go_num, rfl, HS, hBe3⟩
            case measure => simp [intOf]; omega
        · obtain rfl : j = k := by omega
          have hob := oldR_bd fold x (wss.take j)
          have hnb := nodesR_bd (fold := fold) (M := 1000000) (wss.take j) (fun y hy => HM.out y (List.mem_of_mem_take hy))
          rw [← HO.out, HXX.out.len] at hob
          rw [← HN.out, List.length_take] at hnb
          have hnb2 : n ≤ 1 + 1000000 * 1000000 := by omega
          have HS : Hid (n + (l : Int) - m = nodesR fold (wss.take (j + 1))) := by rw [Hid, take_step HX.out, nodesR_snoc, HXX.out.len, ← HN.out, ← HO.out]
          have k1 := HCL.out wr hBe
          have hn1 := hnb.1
          clear hnb
          go_wp2
          go_roundw
          case rel => exact ⟨j + 1, _, by omega, by go_num, rfl, HS, hBe⟩
          case measure => simp [intOf]; omega
    · obtain rfl : k = la := by omega
      have HF : Hid (n = nodesR fold wss) := by
        have h := HN.out
        rwa [List.take_of_length_le (by have := HL.out; omega)] at h
      go_wp2
      go_ret
      exact ⟨by rw [← HF.out]; rfl, hBe⟩

end Go.Proofs.Ytmpmjkbjnklgfaa
