/- Parts of the proof, one behind the other: D3, D4, D5, D6, D7, Oq. No condition but what each theorem states. -/
import Derived.Deep.AppendLies
import Derived.Deep.DrawnRows
import Derived.Deep.RegionHeld3
import Derived.Deep.RegionLaw
import Derived.Lib.SmallJoins
import Derived.Test.YtmpmjkbjnklgfaaQ3
import Derived.Test.YtmpmjkbjnklgfaaQ5
import Derived.Test.YtmpmjkbjnklgfaaQ9

/- How many nodes words have, by the document (layer 5): walked. -/

namespace Go.Proofs.Ytmpmjkbjnklgfaa
open Go.RowKit Go.Sort
set_option linter.unusedVariables false

def oldR (fold : Bool) (pre : List (List Int)) (x : List Int) : Int := pre.foldl (fun m y => max m (commonL (foldL fold x) (foldL fold y) : Int)) 0
def nodesG (fold : Bool) : List (List Int) → List (List Int) → Int → Int
  | _, [], n => n
  | pre, x :: rest, n => nodesG fold (pre ++ [x]) rest (n + x.length - oldR fold pre x)
def nodesR (fold : Bool) (wss : List (List Int)) : Int := nodesG fold [] wss 1
theorem oldR_snoc (fold : Bool) (pre : List (List Int)) (x y : List Int) : oldR fold (pre ++ [y]) x = max (oldR fold pre x) (commonL (foldL fold x) (foldL fold y) : Int) := by simp [oldR, List.foldl_append]
theorem nodesG_snoc (fold : Bool) : ∀ (rest pre : List (List Int)) (x : List Int) (n : Int), nodesG fold pre (rest ++ [x]) n = nodesG fold pre rest n + x.length - oldR fold (pre ++ rest) x
  | [], pre, x, n => by simp [nodesG]
  | y :: rest, pre, x, n => by
    rw [List.cons_append, nodesG, nodesG, nodesG_snoc fold rest (pre ++ [y]) x]
    simp
theorem nodesR_snoc (fold : Bool) (l : List (List Int)) (x : List Int) : nodesR fold (l ++ [x]) = nodesR fold l + x.length - oldR fold l x := by
  unfold nodesR
  rw [nodesG_snoc, List.nil_append]
theorem commonL_le : ∀ (xs ys : List Int), commonL xs ys ≤ xs.length
  | [], _ => by simp [commonL]
  | _ :: _, [] => by simp [commonL]
  | x :: xs, y :: ys => by
    have := commonL_le xs ys
    unfold commonL
    split <;> simp <;> omega
theorem oldR_bd (fold : Bool) (x : List Int) (pre : List (List Int)) : 0 ≤ oldR fold pre x ∧ oldR fold pre x ≤ x.length := by
  obtain ⟨n, hn⟩ : ∃ n, pre.length = n := ⟨_, rfl⟩
  induction n generalizing pre with
  | zero => obtain rfl := List.eq_nil_of_length_eq_zero hn; simp [oldR]
  | succ n ih =>
    obtain ⟨l', y, rfl⟩ : ∃ l' y, pre = l' ++ [y] := ⟨pre.dropLast, pre.getLast (by intro h; simp [h] at hn), (List.dropLast_concat_getLast _).symm⟩
    have h1 := ih l' (by simpa using hn)
    have h2 := commonL_le (foldL fold x) (foldL fold y)
    rw [foldL_length] at h2
    rw [oldR_snoc]
    omega
theorem nodesR_bd {fold : Bool} {M : Nat} (l : List (List Int)) (h : ∀ x ∈ l, x.length ≤ M) : 1 ≤ nodesR fold l ∧ nodesR fold l ≤ 1 + l.length * (M : Int) := by
  obtain ⟨n, hn⟩ : ∃ n, l.length = n := ⟨_, rfl⟩
  induction n generalizing l with
  | zero => obtain rfl := List.eq_nil_of_length_eq_zero hn; simp [nodesR, nodesG]
  | succ n ih =>
    obtain ⟨l', x, rfl⟩ : ∃ l' x, l = l' ++ [x] := ⟨l.dropLast, l.getLast (by intro h; simp [h] at hn), (List.dropLast_concat_getLast _).symm⟩
    have h1 := ih l' (fun y hy => h y (by simp [hy])) (by simpa using hn)
    have h2 := oldR_bd fold x l'
    have hx := h x (by simp)
    rw [nodesR_snoc]
    have e : ((l' ++ [x]).length : Int) * (M : Int) = l'.length * (M : Int) + M := by
      rw [List.length_append, List.length_cons, List.length_nil, Int.natCast_add, Int.add_mul]; simp
    rw [e]
    omega

theorem text_c (fold : Bool) (a : Option Addr) (la ca : Nat) (xs : List Int) (w : World) (hA : Bys w a la xs) (hla : la ≤ 1000000) :
    Calls Try.prog 89 #[.bool fold, .slice a la ca] w fun e w' => ∃ a1 c1, e = .returned (.slice a1 la c1) ∧ Bys w' a1 la (foldL fold xs) ∧ Below w.heap.size w w' :=
  (text_any fold a la ca xs w hA hla).mono fun e w' ⟨v, he, hown, hb⟩ => by
    obtain ⟨a1, c1, rfl, _, h⟩ := own_bys hown (foldL_bd hA.2)
    exact ⟨a1, c1, he, h, hb⟩

set_option maxRecDepth 100000 in
set_option maxHeartbeats 4000000 in
theorem rnodes_any (fold : Bool) (a : Option Addr) (la ca : Nat) (wss : List (List Int)) (w : World) (hA : Wds w a la wss) (hla : la ≤ 1000000) (hM : ∀ x ∈ wss, x.length ≤ 1000000) :
    Calls Try.prog 48 #[.bool fold, .slice a la ca] w fun e w' => e = .returned (.int .i64 (nodesR fold wss)) ∧ Below w.heap.size w w' := by
  have HL := Lib.hid hA.len
  have HM := Lib.hid hM
  have HA := Lib.hid hA
  clear hA hM
  go_enter Try.func48, Try.ntmps48
  go_wp2
  go_loopw [5, 6] (fun s i wr => ∃ (k : Nat) (n : Int), k ≤ la ∧ i = .int .i64 k ∧ s = .int .i64 n ∧ Hid (n = nodesR fold (wss.take k)) ∧ Below w.heap.size w wr) (fun _ i _ => la - (intOf i).toNat)
  case atStart => exact ⟨0, 1, Nat.zero_le _, rfl, rfl, by simp [Hid, nodesR, nodesG], Below.refl _ _⟩
  case round =>
    obtain ⟨k, n, hk, rfl, rfl, HN, hBe⟩ := hrel
    by_cases hlt : k < la
    · obtain ⟨bb, off, a', l, c, x, rfl, hbl, hcell0, hx, hX, hlc⟩ := HA.out.at_ hlt
      have hxl : l ≤ 1000000 := by have := mem_bd HM.out hx; rw [hX.len] at this; exact this
      have HX := Lib.hid hx
      have HXX := Lib.hid hX
      have hcell : ∀ v : World, Below w.heap.size w v → v.cell? ⟨bb, off + k, none⟩ = some (.slice a' l c) := fun v hv => (hv.cell (p := ⟨bb, off + k, none⟩) hbl).trans hcell0
      have HCL := Lib.hid hcell
      clear hx hX hcell hcell0
      go_wp2
      go_loopw [7, 8] (fun o i wr => ∃ (j : Nat) (m : Int), j ≤ k ∧ i = .int .i64 j ∧ o = .int .i64 m ∧ Hid (m = oldR fold (wss.take j) x) ∧ Below w.heap.size w wr) (fun _ i _ => k - (intOf i).toNat)
      case atStart => exact ⟨0, 0, Nat.zero_le _, rfl, rfl, by simp [Hid, oldR], hBe⟩
      case round =>
        clear hBe
        obtain ⟨j, m, hj, rfl, rfl, HO, hBe⟩ := hrel
        by_cases hjk : j < k
        · obtain ⟨b2, off2, a2, l2, c2, y, e2, hbl2, hcell2, hy, hY, hlc2⟩ := HA.out.at_ (show j < la by omega)
          simp only [Option.some.injEq, Addr.mk.injEq, and_true] at e2
          obtain ⟨rfl, rfl⟩ := e2
          have hyl : l2 ≤ 1000000 := by have := mem_bd HM.out hy; rw [hY.len] at this; exact this
          have HCL2 : Hid (∀ v : World, Below w.heap.size w v → v.cell? ⟨bb, off + j, none⟩ = some (.slice a2 l2 c2)) := fun v hv => (hv.cell (p := ⟨bb, off + j, none⟩) hbl2).trans hcell2
          have HS : Hid (max m (commonL (foldL fold x) (foldL fold y) : Int) = oldR fold (wss.take (j + 1)) x) := by
            rw [Hid, HO.out, take_step (show wss[j]? = some y from hy), oldR_snoc]
          have HYY := Lib.hid hY
          clear hcell2 hy hY
          have hXd : Bys wr.drew a' l x := HXX.out.below (hBe.trans ⟨rfl, rfl, rfl, Nat.le_refl _, fun _ _ => rfl⟩)
          have hBd : Below w.heap.size w wr.drew := hBe.trans ⟨rfl, rfl, rfl, Nat.le_refl _, fun _ _ => rfl⟩
          have k1 := HCL.out wr hBe
          have k2 := HCL2.out wr hBe
          have i1 : (0 : Int) ≤ (j : Int) := by omega
          have i2 : (j : Int) < (la : Int) := by omega
          have i3 : (0 : Int) ≤ (k : Int) := by omega
          have i4 : (k : Int) < (la : Int) := by omega
          go_wp2
          go_region_held3 (fun w' => w'.cell? ⟨bb, off + k, none⟩ = some (.slice a' l c) ∧ w'.cell? ⟨bb, off + j, none⟩ = some (.slice a2 l2 c2)) (go_keep) (first
            | (go_at_call 89; refine (text_c fold a' l c x wr.drew hXd hxl).mono ?_; rintro e w1 ⟨a1, c1, rfl, h12, hb1⟩
               have hBe1 : Below w.heap.size w w1 := hBd.trans (hb1.mono hBd.size)
               have d1 := HCL.out w1 hBe1
               have d2 := HCL2.out w1 hBe1
               have hY1 := HYY.out.below hBe1
               clear hXd)
            | (go_at_call 89; refine (text_c fold a2 l2 c2 y w1 hY1 hyl).mono ?_; rintro e w2 ⟨a3, c3, rfl, h22, hb2⟩
               have hBe2 : Below w.heap.size w w2 := hBe1.trans (hb2.mono hBe1.size)
               have d3 := HCL.out w2 hBe2
               have d4 := HCL2.out w2 hBe2
               have h12b := h12.below hb2
               clear hY1)
            | (go_at_call 88; refine (common_any a1 a3 l c1 l2 c3 _ _ w2 h12b h22 hxl hyl).mono ?_; rintro e w3 ⟨rfl, hb3⟩
               have hBe3 : Below w.heap.size w w3 := hBe2.trans (hb3.mono hBe2.size)
               have d5 := HCL.out w3 hBe3
               have d6 := HCL2.out w3 hBe3))
          all_goals
            go_wp2
            go_roundw
            case rel => exact ⟨j + 1, _, by omega, by go_num, rfl, HS, hBe3⟩
            case measure => simp [intOf]; omega
        · obtain rfl : j = k := by omega
          have hob := oldR_bd fold x (wss.take j)
          have hnb := nodesR_bd (fold := fold) (M := 1000000) (wss.take j) (fun y hy => HM.out y (List.mem_of_mem_take hy))
          rw [← HO.out, HXX.out.len] at hob
          rw [← HN.out, List.length_take] at hnb
          have hnb2 : n ≤ 1 + 1000000 * 1000000 := by omega
          have HS : Hid (n + (l : Int) - m = nodesR fold (wss.take (j + 1))) := by rw [Hid, take_step HX.out, nodesR_snoc, HXX.out.len, ← HN.out, ← HO.out]
          have k1 := HCL.out wr hBe
          have hn1 := hnb.1
          clear hnb
          go_wp2
          go_roundw
          case rel => exact ⟨j + 1, _, by omega, by go_num, rfl, HS, hBe⟩
          case measure => simp [intOf]; omega
    · obtain rfl : k = la := by omega
      have HF : Hid (n = nodesR fold wss) := by
        have h := HN.out
        rwa [List.take_of_length_le (by have := HL.out; omega)] at h
      go_wp2
      go_ret
      exact ⟨by rw [← HF.out]; rfl, hBe⟩

end Go.Proofs.Ytmpmjkbjnklgfaa

/- Which error a list of words has, by the document (layer 5): walked. -/

namespace Go.Proofs.Ytmpmjkbjnklgfaa
open Go.RowKit Go.Sort
set_option linter.unusedVariables false

def bsum (wss : List (List Int)) : Int := (wss.map fun w => (w.length : Int)).sum
theorem bsum_snoc (l : List (List Int)) (x : List Int) : bsum (l ++ [x]) = bsum l + x.length := by simp [bsum]
theorem bsum_bd : ∀ (l : List (List Int)), (∀ x ∈ l, x.length ≤ 1000000) → 0 ≤ bsum l ∧ bsum l ≤ l.length * 1000000
  | [], _ => by simp [bsum]
  | x :: l, h => by
    have h1 := bsum_bd l (fun y hy => h y (by simp [hy]))
    have h2 := h x (by simp)
    simp only [bsum, List.map_cons, List.sum_cons, List.length_cons] at h1 ⊢
    omega
def checkR (fold : Bool) (wss : List (List Int)) : Int :=
  if wss.length = 0 then 50 else if wss.length > 64 then 51 else if (∃ x ∈ wss, x.length = 0) then 52 else if (∃ x ∈ wss, x.length > 32) then 53 else if bsum wss > 600 then 54 else if nodesR fold wss > 400 then 55 else 0

set_option maxHeartbeats 4000000 in
theorem rcheck_any (fold : Bool) (a : Option Addr) (la ca : Nat) (wss : List (List Int)) (w : World) (hA : Wds w a la wss) (hla : la ≤ 1000000) (hM : ∀ x ∈ wss, x.length ≤ 1000000) :
    Calls Try.prog 113 #[.bool fold, .slice a la ca] w fun e w' => e = .returned (.int .i64 (checkR fold wss)) ∧ Below w.heap.size w w' := by
  have HL := Lib.hid hA.len
  have HM := Lib.hid hM
  obtain ⟨G, hG⟩ : ∃ G, checkR fold wss = G := ⟨_, rfl⟩
  have HG : Hid (checkR fold wss = G) := hG
  rw [hG]
  clear hG hM
  by_cases h0 : la = 0
  · have HE : Hid (G = 50) := by rw [Hid, ← HG.out, checkR, if_pos (by rw [HL.out, h0])]
    go_enter Try.func113, Try.ntmps113
    go_wp2
    go_ret
    exact ⟨by rw [HE.out]; rfl, Below.refl _ _⟩
  · by_cases h64 : 64 < la
    · have HE : Hid (G = 51) := by rw [Hid, ← HG.out, checkR, if_neg (by rw [HL.out]; exact h0), if_pos (by rw [HL.out]; exact h64)]
      go_enter Try.func113, Try.ntmps113
      go_wp2
      go_ret
      exact ⟨by rw [HE.out]; rfl, Below.refl _ _⟩
    · have HG2 : Hid (G = if (∃ x ∈ wss, x.length = 0) then 52 else if (∃ x ∈ wss, x.length > 32) then 53 else if bsum wss > 600 then 54 else if nodesR fold wss > 400 then 55 else 0) := by
        rw [Hid, ← HG.out, checkR, if_neg (by rw [HL.out]; exact h0), if_neg (by rw [HL.out]; exact h64)]
      go_enter Try.func113, Try.ntmps113
      go_wp2
      go_loop [6] (fun i => ∃ k : Nat, k ≤ la ∧ i = .int .i64 k ∧ Hid (∀ x ∈ wss.take k, x.length ≠ 0)) (fun i => la - (intOf i).toNat)
      case atStart => exact ⟨0, Nat.zero_le _, rfl, fun x hx => by simp at hx⟩
      case round =>
        obtain ⟨k, hk, rfl, HK⟩ := hrel
        by_cases hlt : k < la
        · obtain ⟨bb, off, a', l, c, x, rfl, hbl, hcell, hx, hX, hlc⟩ := hA.at_ hlt
          have HX := Lib.hid hx
          have HXL := Lib.hid hX.len
          clear hx hX
          by_cases hl0 : l = 0
          · have HE : Hid (G = 52) := by rw [Hid, HG2.out, if_pos ⟨x, List.mem_of_getElem? HX.out, by rw [HXL.out, hl0]⟩]
            go_wp2
            go_ret
            exact ⟨by rw [HE.out]; rfl, Below.refl _ _⟩
          · have HK2 : Hid (∀ x ∈ wss.take (k + 1), x.length ≠ 0) := by
              rw [take_step HX.out]
              intro y hy
              rcases List.mem_append.1 hy with hy | hy
              · exact HK.out y hy
              · simp at hy; rw [hy, HXL.out]; exact hl0
            go_wp2
            go_round
            case rel => exact ⟨k + 1, by omega, by go_num, HK2⟩
            case measure => simp [intOf]; omega
        · obtain rfl : k = la := by omega
          have HK0 : Hid (∀ x ∈ wss, x.length ≠ 0) := by
            have h := HK.out
            rwa [List.take_of_length_le (by rw [HL.out]; exact Nat.le_refl _)] at h
          have HG3 : Hid (G = if (∃ x ∈ wss, x.length > 32) then 53 else if bsum wss > 600 then 54 else if nodesR fold wss > 400 then 55 else 0) := by
            rw [Hid, HG2.out, if_neg (by rintro ⟨x, hx, h⟩; exact HK0.out x hx h)]
          clear HG2 HK
          go_wp2
          go_loop [5, 7] (fun s i => ∃ (j : Nat) (n : Int), j ≤ k ∧ i = .int .i64 j ∧ s = .int .i64 n ∧ Hid (n = bsum (wss.take j)) ∧ Hid (∀ x ∈ wss.take j, ¬ x.length > 32)) (fun _ i => k - (intOf i).toNat)
          case atStart => exact ⟨0, 0, Nat.zero_le _, rfl, rfl, by simp [Hid, bsum], fun x hx => by simp at hx⟩
          case round =>
            obtain ⟨j, n, hj, rfl, rfl, HN, HJ⟩ := hrel
            have hnb := bsum_bd (wss.take j) (fun y hy => HM.out y (List.mem_of_mem_take hy))
            rw [← HN.out] at hnb
            have hnl : ((wss.take j).length : Int) ≤ 64 := by have := List.length_take_le j wss; omega
            have hn0 := hnb.1
            have hn1 : n ≤ 64000000 := by omega
            clear hnb hnl
            by_cases hjl : j < k
            · obtain ⟨bb, off, a', l, c, x, rfl, hbl, hcell, hx, hX, hlc⟩ := hA.at_ hjl
              have hxl : l ≤ 1000000 := by have := mem_bd HM.out hx; rw [hX.len] at this; exact this
              have HX := Lib.hid hx
              have HXL := Lib.hid hX.len
              clear hx hX
              by_cases hl32 : 32 < l
              · have HE : Hid (G = 53) := by rw [Hid, HG3.out, if_pos ⟨x, List.mem_of_getElem? HX.out, by rw [HXL.out]; exact hl32⟩]
                go_wp2
                go_ret
                exact ⟨by rw [HE.out]; rfl, Below.refl _ _⟩
              · have HJ2 : Hid (∀ x ∈ wss.take (j + 1), ¬ x.length > 32) := by
                  rw [take_step HX.out]
                  intro y hy
                  rcases List.mem_append.1 hy with hy | hy
                  · exact HJ.out y hy
                  · simp at hy; rw [hy, HXL.out]; exact hl32
                have HS : Hid (n + (l : Int) = bsum (wss.take (j + 1))) := by rw [Hid, take_step HX.out, bsum_snoc, HXL.out, HN.out]
                go_wp2
                go_round
                case rel => exact ⟨j + 1, _, by omega, by go_num, rfl, HS, HJ2⟩
                case measure => simp [intOf]; omega
            · obtain rfl : j = k := by omega
              have hfull : wss.take j = wss := List.take_of_length_le (by rw [HL.out]; exact Nat.le_refl _)
              have HG4 : Hid (G = if n > 600 then 54 else if nodesR fold wss > 400 then 55 else 0) := by
                have h2 := HN.out
                rw [hfull] at h2
                rw [Hid, HG3.out, if_neg (by rintro ⟨x, hx, h⟩; exact HJ.out x (by rw [hfull]; exact hx) h), h2]
              clear hfull HG3 HN HJ
              by_cases h6 : 600 < n
              · have HE : Hid (G = 54) := by rw [Hid, HG4.out, if_pos h6]
                go_wp2
                go_ret
                exact ⟨by rw [HE.out]; rfl, Below.refl _ _⟩
              · go_wp2_with fail
                refine (rnodes_any fold a j ca wss w hA hla HM.out).mono ?_
                rintro e w1 ⟨rfl, hb⟩
                obtain ⟨N, hN⟩ : ∃ N, nodesR fold wss = N := ⟨_, rfl⟩
                rw [hN]
                have HN : Hid (nodesR fold wss = N) := hN
                clear hN
                by_cases h4 : 400 < N
                · have HE : Hid (G = 55) := by rw [Hid, HG4.out, if_neg (by omega), HN.out, if_pos h4]
                  go_wp2
                  go_ret
                  exact ⟨by rw [HE.out]; rfl, hb⟩
                · have HE : Hid (G = 0) := by rw [Hid, HG4.out, if_neg (by omega), HN.out, if_neg (by omega)]
                  go_wp2
                  go_ret
                  exact ⟨by rw [HE.out]; rfl, hb⟩

end Go.Proofs.Ytmpmjkbjnklgfaa

/- Two sets that are the same, by the document (layer 5): walked. -/

namespace Go.Proofs.Ytmpmjkbjnklgfaa
open Go.RowKit Go.Sort
set_option linter.unusedVariables false

set_option maxHeartbeats 2000000 in
theorem rsames_any (f g : Bool) (a b : Option Addr) (la ca lb cb : Nat) (wss vss : List (List Int)) (w : World) (hA : Wds w a la wss) (hB : Wds w b lb vss) (hla : la ≤ 1000000) :
    Calls Try.prog 50 #[.agg (setV f a la ca), .agg (setV g b lb cb)] w fun e w' => e = .returned (.bool (sameS f g wss vss)) ∧ Below w.heap.size w w' := by
  obtain ⟨W, hW⟩ : ∃ W, W = (w.alloc (.cells (setV f a la ca) 39)).alloc (.cells (setV g b lb cb) 39) := ⟨_, rfl⟩
  have hBx : Below w.heap.size w ((w.alloc (.cells (setV f a la ca) 39)).alloc (.cells (setV g b lb cb) 39)) := ((Below.refl _ _).alloc (Nat.le_refl _) _).alloc (by simp) _
  have HA := Lib.hid hA.len
  have HB := Lib.hid hB.len
  by_cases hfg : f = g
  · subst hfg
    by_cases hl : la = lb
    · subst hl
      have hb1 : W.heap[w.heap.size]? = some (.cells (setV f a la ca) 39 (0, 0)) := by
        rw [hW]
        exact (Below.heap_alloc _ _ _ (by simp)).trans (World.alloc_heap_new _ _)
      have hb2 : W.heap[w.heap.size + 1]? = some (.cells (setV f b la cb) 39 (0, 0)) := by
        rw [hW]
        have := World.alloc_heap_new (w.alloc (.cells (setV f a la ca) 39)) (.cells (setV f b la cb) 39)
        rwa [World.size_alloc] at this
      have hA1 : Wds W a la wss := by rw [hW]; exact hA.below hBx
      have hB1 : Wds W b la vss := by rw [hW]; exact hB.below hBx
      have hBW : Below w.heap.size w W := by rw [hW]; exact hBx
      have hz : W.heap.size = w.heap.size + 2 := by rw [hW]; simp
      have HWD := Lib.hid hW
      clear hA hB hW
      go_enter Try.func50, Try.ntmps50
      go_wp2
      rw [← HWD.out]
      go_loopw [5] (fun i wr => ∃ k : Nat, k ≤ la ∧ i = .int .i64 k ∧ Hid (wss.take k = vss.take k) ∧ Below W.heap.size W wr) (fun i _ => la - (intOf i).toNat)
      case atStart => exact ⟨0, Nat.zero_le _, rfl, by simp [Hid], Below.refl _ _⟩
      case round =>
        obtain ⟨k, hk, rfl, HK, hBe⟩ := hrel
        have hw : Below w.heap.size w wr := hBW.trans (hBe.mono hBW.size)
        have h1 : wr.heap[w.heap.size]? = _ := (hBe.block _ (by omega)).trans hb1
        have h2 : wr.heap[w.heap.size + 1]? = _ := (hBe.block _ (by omega)).trans hb2
        have c1 : wr.cell? ⟨w.heap.size, 1, none⟩ = some (.slice a la ca) := by simp [World.cell?, h1]
        have c2 : wr.cell? ⟨w.heap.size + 1, 1, none⟩ = some (.slice b la cb) := by simp [World.cell?, h2]
        have hBd : ∀ n, Below W.heap.size W (wr.drewN n) := fun n => hBe.trans ⟨rfl, rfl, rfl, Nat.le_refl _, fun _ _ => rfl⟩
        have hwd : ∀ n, Below w.heap.size w (wr.drewN n) := fun n => hw.trans ⟨rfl, rfl, rfl, Nat.le_refl _, fun _ _ => rfl⟩
        by_cases hlt : k < la
        · obtain ⟨bb, off, a', l, c, x, rfl, hbl, hcell, hx, hX, hlc⟩ := (hA1.below hBe).at_ hlt
          obtain ⟨bb2, off2, a2, l2, c2, y, rfl, hbl2, hcell2, hy, hY, hlc2⟩ := (hB1.below hBe).at_ hlt
          have hd : ∀ n, Below wr.heap.size wr (wr.drewN n) := fun n => ⟨rfl, rfl, rfl, Nat.le_refl _, fun _ _ => rfl⟩
          have hXn : ∀ n, Bys (wr.drewN n) a' l x := fun n => hX.below (hd n)
          have hYn : ∀ n, Bys (wr.drewN n) a2 l2 y := fun n => hY.below (hd n)
          have v1 : ∀ n cap, Sem.run Try.prog (convert 40 9 (.slice a' l cap)) (wr.drewN n) = .ok (.string (strOfNums x)) (wr.drewN n) := fun n cap => conv_bys (hXn n) cap
          have v2 : ∀ n cap, Sem.run Try.prog (convert 40 9 (.slice a2 l2 cap)) (wr.drewN n) = .ok (.string (strOfNums y)) (wr.drewN n) := fun n cap => conv_bys (hYn n) cap
          have hbeq := str_beq hX.2 hY.2
          have HX := Lib.hid hx
          have HY := Lib.hid hy
          clear hx hy hX hY hXn hYn hd
          by_cases h : x = y
          · rw [decide_eq_true h] at hbeq
            have HS : Hid (wss.take (k + 1) = vss.take (k + 1)) := by rw [take_step HX.out, take_step HY.out, HK.out, h]; rfl
            clear h
            go_wp2
            go_quiet (fail)
            go_wp2
            go_roundw
            case rel => exact ⟨k + 1, by omega, by go_num, HS, hBd _⟩
            case measure => simp [intOf]; omega
          · rw [decide_eq_false h] at hbeq
            have HS : Hid (sameS f f wss vss = false) := by
              have : wss ≠ vss := fun e => by
                have h1 := HX.out
                rw [e, HY.out] at h1
                exact h (Option.some.inj h1).symm
              simp [Hid, sameS, this]
            clear h
            go_wp2
            go_quiet (fail)
            go_wp2
            go_ret
            exact ⟨by rw [HS.out]; rfl, hwd _⟩
        · obtain rfl : k = la := by omega
          have HS : Hid (sameS f f wss vss = true) := by
            have h := HK.out
            rw [List.take_of_length_le (by rw [HA.out]; exact Nat.le_refl _), List.take_of_length_le (by rw [HB.out]; exact Nat.le_refl _)] at h
            simp [Hid, sameS, h]
          go_wp2
          go_ret
          exact ⟨by rw [HS.out]; rfl, hw⟩
    · have HS : Hid (sameS f f wss vss = false) := sameS_no (.inr (by rw [HA.out, HB.out]; exact hl))
      have hne : ((la : Int) != (lb : Int)) = true := by simp; omega
      clear hW
      go_enter Try.func50, Try.ntmps50
      go_wp2
      all_goals
        go_ret
        exact ⟨by rw [HS.out]; rfl, hBx⟩
  · have HS : Hid (sameS f g wss vss = false) := sameS_no (.inl hfg)
    have hne : (f != g) = true := by simp [hfg]
    clear hW
    go_enter Try.func50, Try.ntmps50
    go_wp2
    all_goals
      go_ret
      exact ⟨by rw [HS.out]; rfl, hBx⟩

end Go.Proofs.Ytmpmjkbjnklgfaa

/- A set of words, made, by the document (layer 5): walked. -/







namespace Go.Proofs.Ytmpmjkbjnklgfaa
open Go.RowKit Go.Sort
set_option linter.unusedVariables false

set_option maxHeartbeats 1000000 in
theorem rmake_no (fold : Bool) (a : Option Addr) (la ca : Nat) (wss : List (List Int)) (w : World) (hA : Wds w a la wss) (hla : la ≤ 1000000) (hM : ∀ x ∈ wss, x.length ≤ 1000000) (hc : checkR fold wss ≠ 0) :
    Calls Try.prog 78 #[.bool fold, .slice a la ca] w fun e w' => e = .returned (.tuple #[.agg (setV false none 0 0), .int .i64 (checkR fold wss)]) ∧ Below w.heap.size w w' := by
  have hA1 := hA.below ((Below.refl _ _).alloc (Nat.le_refl _) (.cells (setV false none 0 0) 39))
  obtain ⟨n, hn⟩ : ∃ n, checkR fold wss = n := ⟨_, rfl⟩
  have HN : Hid (checkR fold wss = n) := hn
  rw [hn] at hc ⊢
  clear hn
  go_enter Try.func78, Try.ntmps78
  go_wp2_with fail
  refine (rcheck_any fold a la ca wss _ hA1 hla hM).mono ?_
  rintro e w1 ⟨rfl, hb⟩
  rw [HN.out]
  have hz : w1.heap[w.heap.size]? = some (.cells (setV false none 0 0) 39 (0, 0)) := (hb.block _ (by simp)).trans (World.alloc_heap_new _ _)
  have hB1 : Below w.heap.size w w1 := ((Below.refl _ _).alloc (Nat.le_refl _) _).trans (hb.mono (by simp))
  have z0 : w1.cell? ⟨w.heap.size, 0, none⟩ = some (.bool false) := by simp [World.cell?, hz]
  have z1 : w1.cell? ⟨w.heap.size, 1, none⟩ = some (.slice none 0 0) := by simp [World.cell?, hz]
  have y0 : w1.frozen? ⟨w.heap.size, 0, none⟩ = false := by simp [World.frozen?, hz]
  have y1 : w1.frozen? ⟨w.heap.size, 1, none⟩ = false := by simp [World.frozen?, hz]
  go_wp2
  have hz2 := set_at (i := 1) (set_at (i := 0) hz (.bool false)) (.slice none 0 0)
  refine bodyPost_ret (results_set rfl rfl (by simpa using hz2)) rfl ?_
  exact ⟨rfl, (hB1.setCell (Nat.le_refl _) _).setCell (Nat.le_refl _) _⟩

theorem text_o (fold : Bool) (a : Option Addr) (la ca : Nat) (xs : List Int) (w : World) (hA : Bys w a la xs) (hla : la ≤ 1000000) :
    Calls Try.prog 89 #[.bool fold, .slice a la ca] w fun e w' => ∃ a1 c1, e = .returned (.slice a1 la c1) ∧ OwnB w' w.heap.size (.slice a1 la c1) la (foldL fold xs) ∧ Below w.heap.size w w' :=
  (text_any fold a la ca xs w hA hla).mono fun e w' ⟨v, he, hown, hb⟩ => by
    obtain ⟨a1, c1, rfl, _, h⟩ := own_bys hown (foldL_bd hA.2)
    exact ⟨a1, c1, he, hown, hb⟩

set_option maxRecDepth 100000 in
set_option maxHeartbeats 4000000 in
theorem rmake_yes (fold : Bool) (a : Option Addr) (la ca : Nat) (wss : List (List Int)) (w : World) (hA : Wds w a la wss) (hla : la ≤ 1000000) (hM : ∀ x ∈ wss, x.length ≤ 1000000) (hc : checkR fold wss = 0) :
    Calls Try.prog 78 #[.bool fold, .slice a la ca] w fun e w' => ∃ v, e = .returned (.tuple #[.agg #[.bool fold, v], .int .i64 0]) ∧ OwnW w' w.heap.size v (makeL fold wss) ∧ Below w.heap.size w w' := by
  have hA1 := hA.below ((Below.refl _ _).alloc (Nat.le_refl _) (.cells (setV false none 0 0) 39))
  have HN : Hid (checkR fold wss = 0) := hc
  have HL := Lib.hid hA.len
  clear hc
  go_enter Try.func78, Try.ntmps78
  go_wp2_with fail
  refine (rcheck_any fold a la ca wss _ hA1 hla hM).mono ?_
  rintro e w1 ⟨rfl, hb⟩
  rw [HN.out]
  have hz : w1.heap[w.heap.size]? = some (.cells (setV false none 0 0) 39 (0, 0)) := (hb.block _ (by simp)).trans (World.alloc_heap_new _ _)
  have hB1 : Below w.heap.size w w1 := ((Below.refl _ _).alloc (Nat.le_refl _) _).trans (hb.mono (by simp))
  have hlt1 : w.heap.size < w1.heap.size := (Array.getElem?_eq_some_iff.1 hz).1
  go_wp2
  go_loopw [8] (fun i wr => ∃ (k : Nat) (v : Value), k ≤ la ∧ i = .int .i64 k ∧ Below w.heap.size w wr ∧ wr.heap[w.heap.size]? = some (.cells (setV false none 0 0) 39 (0, 0)) ∧ wr.heap[w1.heap.size]? = some (.cells #[.bool fold, v] 39 (0, 0)) ∧ OwnW wr w.heap.size v (makeL fold (wss.take k))) (fun i _ => la - (intOf i).toNat)
  case atStart => exact ⟨0, .slice none 0 0, Nat.zero_le _, rfl, hB1.alloc (by omega) _, (Below.heap_alloc _ _ _ hlt1).trans hz, World.alloc_heap_new _ _, by simpa [makeL] using OwnW.nil _ _⟩
  case round =>
    obtain ⟨k, v, hk, rfl, hBe, hzr, hsr, hown⟩ := hrel
    by_cases hlt : k < la
    · obtain ⟨bb, off, a', l, c, x, rfl, hbl, hcell, hx, hX, hlc⟩ := (hA.below hBe).at_ hlt
      have hxl : l ≤ 1000000 := by have := mem_bd hM hx; rw [hX.len] at this; exact this
      obtain ⟨av, cv, rfl, hcv, hW⟩ := hown.wds
      have s0 : wr.cell? ⟨w1.heap.size, 0, none⟩ = some (.bool fold) := by simp [World.cell?, hsr]
      have s1 : wr.cell? ⟨w1.heap.size, 1, none⟩ = some (.slice av (makeL fold (wss.take k)).length cv) := by simp [World.cell?, hsr]
      have hml : (makeL fold (wss.take k)).length ≤ 1000000 := by have := makeL_len fold (wss.take k); have := List.length_take_le k wss; omega
      have HX := Lib.hid hx
      clear hx
      have kc := cell_regrown hcell
      have ks := cell_regrown s1
      have cW : ∀ d os, Calls Try.prog 114 #[.bool fold, .slice a' l c, .slice av (makeL fold (wss.take k)).length cv] (grow (redrawn wr d) os) fun e w'' => e = .returned (.int .i64 (whichL fold x (makeL fold (wss.take k)))) ∧ ∃ p : Regrown, w'' = grow (redrawn wr p.d) p.os :=
        fun d os => Calls.regrown_of (rwhich_any fold a' av l c _ cv x (makeL fold (wss.take k)) _ (hX.below (below_regrown wr d os)) hxl (hW.below (below_regrown wr d os)) hml (makeL_mem _ (fun y hy => hM y (List.mem_of_mem_take hy))))
      go_wp2
      refine wp_region_quiet_below mixed (by kernel_rfl) ?_
      repeat (go_big_quiet_step (exact cW _ _))
      refine wpQuiet_nil ?_
      rintro _ ⟨⟨dq, osq⟩, rfl⟩
      obtain ⟨w2, hw2⟩ : ∃ w2, grow (redrawn wr dq) osq = w2 := ⟨_, rfl⟩
      rw [hw2]
      have hb2 : Below wr.heap.size wr w2 := hw2 ▸ below_regrown wr dq osq
      clear hw2 kc ks cW
      have hB2 : Below w.heap.size w w2 := hBe.trans (hb2.mono hBe.size)
      have hz2 : w2.heap[w.heap.size]? = _ := (hb2.block _ (Array.getElem?_eq_some_iff.1 hzr).1).trans hzr
      have hs2 : w2.heap[w1.heap.size]? = _ := (hb2.block _ (Array.getElem?_eq_some_iff.1 hsr).1).trans hsr
      have hown2 := hown.below hb2
      have hcl2 : w2.cell? ⟨bb, off + k, none⟩ = some (.slice a' l c) := (hb2.cell (p := ⟨bb, off + k, none⟩) hbl).trans hcell
      clear hown hW hsr hzr s0 s1 hcell
      have HM : Hid (makeL fold (wss.take (k + 1)) = addW fold (makeL fold (wss.take k)) x) := by rw [take_step HX.out, makeL_snoc]; rfl
      obtain ⟨q, hq⟩ : ∃ q, whichL fold x (makeL fold (wss.take k)) = q := ⟨_, rfl⟩
      have HQ : Hid (whichL fold x (makeL fold (wss.take k)) = q) := hq
      rw [hq]
      clear hq
      by_cases hq0 : 0 ≤ q
      · have HF : Hid (makeL fold (wss.take (k + 1)) = makeL fold (wss.take k)) := by
          rw [HM.out]
          unfold addW
          rw [HQ.out, if_neg (by omega)]
          rfl
        go_wp2
        go_roundw
        case rel => exact ⟨k + 1, _, by omega, by go_num, hB2, hz2, hs2, by rw [HF.out]; exact hown2⟩
        case measure => simp [intOf]; omega
      · have HF : Hid (makeL fold (wss.take (k + 1)) = makeL fold (wss.take k) ++ [foldL fold x]) := by
          rw [HM.out]
          unfold addW
          rw [HQ.out, if_pos (by omega)]
          rfl
        obtain ⟨i0, hi, hi0, hi1, hi2⟩ := info_parts words_info
        have s1 : w2.cell? ⟨w1.heap.size, 1, none⟩ = some (.slice av (makeL fold (wss.take k)).length cv) := by simp [World.cell?, hs2]
        obtain ⟨es, e1, e2, e3⟩ := hown2
        have hX2 : ∀ n, Bys (w2.drewN n) a' l x := fun n => (hX.below hb2).below ⟨rfl, rfl, rfl, Nat.le_refl _, fun _ _ => rfl⟩
        have hd : ∀ n, Below w2.heap.size w2 (w2.drewN n) := fun n => ⟨rfl, rfl, rfl, Nat.le_refl _, fun _ _ => rfl⟩
        obtain ⟨m, hm⟩ : ∃ m, (makeL fold (wss.take k)).length = m := ⟨_, rfl⟩
        rw [hm] at s1 hs2 e1 e2 hml ⊢
        have HMM := Lib.hid hm
        clear hm
        go_wp2
        have hXd : Bys w2.drew a' l x := hX2 1
        have hdd : Below w2.heap.size w2 w2.drew := hd 1
        go_region_law (first
          | (go_simp; go_at_call 89; refine (text_o fold a' l c x w2.drew hXd hxl).mono ?_; rintro e w3 ⟨a3, c3, rfl, hown3, hb3⟩
             have hB3 : Below w2.heap.size w2 w3 := hdd.trans hb3
             have e13 := own_below_ e1 hB3
             have hs3 : w3.heap[w1.heap.size]? = some (.cells #[.bool fold, .slice av m cv] 39 (0, 0)) := (hB3.block _ (Array.getElem?_eq_some_iff.1 hs2).1).trans hs2
             have s13 : w3.cell? ⟨w1.heap.size, 1, none⟩ = some (.slice av m cv) := by simp [World.cell?, hs3]
             have hl3 : w1.heap.size < w3.heap.size := (Array.getElem?_eq_some_iff.1 hs3).1
             have hl3b : w1.heap.size ≠ w3.heap.size := by omega
             have hl3c : w3.heap.size ≠ w1.heap.size := by omega
             have s14 : (w3.alloc (.cells #[.slice a3 l c3] 40)).cell? ⟨w1.heap.size, 1, none⟩ = some (.slice av m cv) := by rw [World.cell?_alloc_lt _ _ _ hl3]; exact s13
             have hne := own_far e13 hs3 (of_decide_eq_true (by kernel_rfl))
             have hB3w : Below w.heap.size w w3 := hB2.trans (hB3.mono hB2.size)
             dsimp only)
          | (refine step_append_lies _ (by rfl) _ _ 37 (by rfl) w.heap.size 40 i0 (.slice none 0 0) 1 24 Try.underlying37 hi hi0 hi1 hi2 rfl (by decide) (.slice av m cv) m es (by rfl) (e13.alloc _) ⟨w3.heap.size, 0, none⟩ 1 1 [.slice a3 l c3] (by rfl) rfl (cell_one_new _ _ _) (by simp [Value.oneCell']) (by decide) (by unfold maxLen; omega) (by omega) (by have := hB3w.size; simp; omega) _ rfl ?_
             intro g5 c5 w5 hown' hgrow hat hl5
             have hs5 : w5.heap[w1.heap.size]? = some (.cells #[.bool fold, .slice av m cv] 39 (0, 0)) := (hgrow.block _ (by simp; have := (Array.getElem?_eq_some_iff.1 hs3).1; omega) (Ne.symm hne)).trans ((Below.heap_alloc _ _ _ (Array.getElem?_eq_some_iff.1 hs3).1).trans hs3)
             have q0 : w5.cell? ⟨w1.heap.size, 1, none⟩ = some (.slice av m cv) := by simp [World.cell?, hs5]
             have q1 : w5.frozen? ⟨w1.heap.size, 1, none⟩ = false := by simp [World.frozen?, hs5]))
        all_goals
          go_wp2
          have hB5 : Below w.heap.size w w5 := (hB3w.alloc (by have := hB3w.size; omega) _).grown hgrow (by simp; have := hB3w.size; omega) (fun j hj => (e13.lt j hj).1)
          have hz5 : w5.heap[w.heap.size]? = some (.cells (setV false none 0 0) 39 (0, 0)) := by
            have h3 : w3.heap[w.heap.size]? = _ := (hB3.block _ (Array.getElem?_eq_some_iff.1 hz2).1).trans hz2
            exact (hgrow.block _ (by simp; have := (Array.getElem?_eq_some_iff.1 h3).1; omega) (Ne.symm (own_far e13 h3 (of_decide_eq_true (by kernel_rfl))))).trans ((Below.heap_alloc _ _ _ (Array.getElem?_eq_some_iff.1 h3).1).trans h3)
          go_roundw
          case rel =>
            refine ⟨k + 1, _, by omega, by go_num, hB5.setCell (by show w.heap.size ≤ w1.heap.size; omega) _, (Below.heap_setCell w5 ⟨w1.heap.size, 1, none⟩ _ _ (by simp; omega)).trans hz5, by simpa using set_at (i := 1) hs5 (.slice (some ⟨g5, 0, none⟩) (m + 1) c5), ?_⟩
            rw [HF.out]
            have hst := OwnW.step (wss := makeL fold (wss.take k)) (xs := foldL fold x) (e := .slice a3 l c3) (es := es) (v := .slice av m cv) (by rw [HMM.out]; exact e13.alloc _) (by rw [HMM.out]; exact e2)
              (fun i e xs he hx => ⟨own_below_ (own_below_ (e3 i e xs he hx).1 hB3) ((Below.refl _ _).alloc (Nat.le_refl _) _), (e3 i e xs he hx).2⟩) (by rw [foldL_length, hX.len]; exact (OwnB_mono (hown3.alloc _) (by have := hB2.size; simpa using this))) (foldL_bd hX.2) (by rw [HMM.out]; exact hown') hgrow
            exact hst.turned (grown_set2 w5 w1.heap.size 1 _) hs5 (of_decide_eq_true (by kernel_rfl)) (of_decide_eq_true (by kernel_rfl))
          case measure => simp [intOf]; omega
    · obtain rfl : k = la := by omega
      have HF : Hid (wss.take k = wss) := List.take_of_length_le (by have := HL.out; omega)
      have s0 : wr.cell? ⟨w1.heap.size, 0, none⟩ = some (.bool fold) := by simp [World.cell?, hsr]
      obtain ⟨av, cv, rfl, hcv, hW⟩ := hown.wds
      have s1 : wr.cell? ⟨w1.heap.size, 1, none⟩ = some (.slice av (makeL fold (wss.take k)).length cv) := by simp [World.cell?, hsr]
      have z0 : wr.cell? ⟨w.heap.size, 0, none⟩ = some (.bool false) := by simp [World.cell?, hzr]
      have z1 : wr.cell? ⟨w.heap.size, 1, none⟩ = some (.slice none 0 0) := by simp [World.cell?, hzr]
      have y0 : wr.frozen? ⟨w.heap.size, 0, none⟩ = false := by simp [World.frozen?, hzr]
      have y1 : wr.frozen? ⟨w.heap.size, 1, none⟩ = false := by simp [World.frozen?, hzr]
      go_wp2
      have hz2 := set_at (i := 1) (set_at (i := 0) hzr (.bool fold)) (.slice av (makeL fold (wss.take k)).length cv)
      refine bodyPost_ret (results_set rfl rfl (by simpa using hz2)) rfl ?_
      refine ⟨_, rfl, ?_, (hBe.setCell (Nat.le_refl _) _).setCell (Nat.le_refl _) _⟩
      have ho := (hown.turned (grown_set2 wr w.heap.size 0 (.bool fold)) hzr (of_decide_eq_true (by kernel_rfl)) (of_decide_eq_true (by kernel_rfl))).turned (grown_set2 _ w.heap.size 1 (.slice av (makeL fold (wss.take k)).length cv)) (set_at (i := 0) hzr (.bool fold)) (of_decide_eq_true (by kernel_rfl)) (of_decide_eq_true (by kernel_rfl))
      rw [HF.out] at ho ⊢
      exact ho

end Go.Proofs.Ytmpmjkbjnklgfaa

/- Which sets may be, by the document (layer 5): walked. -/

namespace Go.Proofs.Ytmpmjkbjnklgfaa
open Go.RowKit Go.Sort
set_option linter.unusedVariables false

def rightR (fold : Bool) (wss : List (List Int)) : Bool := decide (checkR fold wss = 0) && decide (makeL fold wss = wss)

set_option maxHeartbeats 1000000 in
theorem rright_any (fold : Bool) (a : Option Addr) (la ca : Nat) (wss : List (List Int)) (w : World) (hA : Wds w a la wss) (hla : la ≤ 1000000) (hM : ∀ x ∈ wss, x.length ≤ 1000000) :
    Calls Try.prog 41 #[.agg (setV fold a la ca)] w fun e w' => e = .returned (.bool (rightR fold wss)) ∧ Below w.heap.size w w' := by
  have hB0 : Below w.heap.size w (w.alloc (.cells (setV fold a la ca) 39)) := (Below.refl _ _).alloc (Nat.le_refl _) _
  have hA1 := hA.below hB0
  have hnew := World.alloc_heap_new w (.cells (setV fold a la ca) 39)
  by_cases hc : checkR fold wss = 0
  · have HR : Hid (rightR fold wss = sameS fold fold (makeL fold wss) wss) := by simp [Hid, rightR, sameS, hc]
    go_enter Try.func41, Try.ntmps41
    go_wp2_with fail
    refine (rmake_yes fold a la ca wss _ hA1 hla hM hc).mono ?_
    rintro e w1 ⟨v, rfl, hown, hb⟩
    have hB1 : Below w.heap.size w w1 := hB0.trans (hb.mono (by simp))
    obtain ⟨av, cv, rfl, hcv, hW⟩ := hown.wds
    have h1 : w1.heap[w.heap.size]? = _ := (hb.block _ (by simp)).trans hnew
    have hs1 : w.heap.size < w1.heap.size := (Array.getElem?_eq_some_iff.1 h1).1
    have c0 : w1.cell? ⟨w.heap.size, 0, none⟩ = some (.bool fold) := by simp [World.cell?, h1]
    have c1 : w1.cell? ⟨w.heap.size, 1, none⟩ = some (.slice a la ca) := by simp [World.cell?, h1]
    have hlen : (makeL fold wss).length ≤ 1000000 := by have := makeL_len fold wss; have := hA.len; omega
    have hne : w.heap.size ≠ w1.heap.size := by omega
    have hB2 : Below w1.heap.size w1 (w1.alloc (.cells (setV fold av (makeL fold wss).length cv) 39)) := (Below.refl _ _).alloc (Nat.le_refl _) _
    have hW2 := hW.below hB2
    have hA2 := (hA.below hB1).below hB2
    clear hc
    go_wp2_with fail
    refine (rsames_any fold fold av a _ cv la ca (makeL fold wss) wss _ hW2 hA2 hlen).mono ?_
    rintro e w3 ⟨rfl, hb3⟩
    go_wp2
    go_ret
    exact ⟨by rw [HR.out]; rfl, hB1.trans ((hB2.trans (hb3.mono (by simp))).mono hB1.size)⟩
  · have HR : Hid (rightR fold wss = false) := by simp [Hid, rightR, hc]
    obtain ⟨n, hn⟩ : ∃ n, checkR fold wss = n := ⟨_, rfl⟩
    have HC := Lib.hid hc
    have HN : Hid (checkR fold wss = n) := hn
    rw [hn] at hc
    clear hn
    have hnb : (n == 0) = false := by simp [hc]
    go_enter Try.func41, Try.ntmps41
    go_wp2_with fail
    refine (rmake_no fold a la ca wss _ hA1 hla hM HC.out).mono ?_
    rintro e w1 ⟨rfl, hb⟩
    rw [HN.out]
    have hB1 : Below w.heap.size w w1 := hB0.trans (hb.mono (by simp))
    go_wp2
    go_ret
    exact ⟨by rw [HR.out]; rfl, hB1.alloc hB1.size _⟩

end Go.Proofs.Ytmpmjkbjnklgfaa

/- Plain laws of layer 6: how many hits there are, a text in parts. -/

namespace Go.Proofs.Ytmpmjkbjnklgfaa
set_option linter.unusedVariables false

theorem putH_length (wss : List (List Int)) (l : List HitP) (h : HitP) : (putH wss l h).length = l.length + 1 := by
  have := putN_le wss l h
  unfold putH
  simp
  omega
theorem hereD_length (fold : Bool) (wss : List (List Int)) (frm : Int) (text : List Int) (place : Nat) : ∀ n, (hereD fold wss frm text place n).length = ((List.range n).filter fun k => stands fold wss text place k).length
  | 0 => by simp [hereD]
  | n + 1 => by
    have ih := hereD_length fold wss frm text place n
    rw [hereD_succ, List.range_succ, List.filter_append]
    cases e : stands fold wss text place n <;> simp [e, ih, putH_length]
theorem occTo_length (fold : Bool) (wss : List (List Int)) (frm : Int) (text : List Int) : ∀ n, (occTo fold wss frm text n).length = ((List.range n).map fun p => ((List.range wss.length).filter fun k => stands fold wss text p k).length).sum
  | 0 => by simp [occTo]
  | n + 1 => by
    rw [occTo_succ, List.range_succ, List.map_append, List.sum_append, List.length_append, occTo_length fold wss frm text n, hereD_length]
    simp
theorem sum_swap (f : Nat → Nat → Bool) (m : Nat) : ∀ n, ((List.range n).map fun p => ((List.range m).filter fun k => f p k).length).sum = ((List.range m).map fun k => ((List.range n).filter fun p => f p k).length).sum
  | 0 => by
    simp only [List.range_zero, List.map_nil, List.sum_nil, List.filter_nil, List.length_nil]
    induction m with
    | zero => simp
    | succ m ih => rw [List.range_succ, List.map_append, List.sum_append, ← ih]; simp
  | n + 1 => by
    rw [List.range_succ, List.map_append, List.sum_append, sum_swap f m n]
    simp only [List.map_cons, List.map_nil, List.sum_cons, List.sum_nil, Nat.add_zero]
    clear sum_swap
    induction m with
    | zero => simp
    | succ m ih =>
      simp only [List.range_succ (n := m), List.map_append, List.sum_append, List.filter_append, List.length_append, List.map_cons, List.map_nil, List.sum_cons, List.sum_nil, Nat.add_zero] at ih ⊢
      cases e : f n m <;> simp [e] <;> omega
theorem occ_count (fold : Bool) (wss : List (List Int)) (frm : Int) (text : List Int) : (occD fold wss frm text).length = ((List.range wss.length).map fun k => ((List.range (text.length + 1)).filter fun p => stands fold wss text p k).length).sum := by
  unfold occD
  rw [occTo_length, sum_swap (fun p k => stands fold wss text p k)]

theorem occD_mem {fold : Bool} {wss : List (List Int)} {frm : Int} {text : List Int} {h : HitP} (hm : h ∈ occD fold wss frm text) : standsH fold wss frm text h = true ∧ frm ≤ h.1 ∧ h.1 ≤ frm + text.length ∧ 0 ≤ h.2 ∧ h.2 < wss.length := by
  obtain ⟨p, k, h1, h2, h3, rfl⟩ := mem_occTo.1 hm
  unfold standsH
  dsimp only
  have e1 : (frm + (p : Int) - frm).toNat = p := by omega
  rw [e1, Int.toNat_natCast, h3, decide_eq_true (by omega)]
  exact ⟨rfl, by omega, by omega, by omega, by omega⟩

/-- What stands in a part. -/
theorem atL_take {fold : Bool} {text word : List Int} {at_ p : Nat} (hp : p ≤ at_) (ha : at_ ≤ text.length) : atL fold (text.take at_) p word = atL fold text p word := by
  unfold atL
  rw [List.length_take, Nat.min_eq_left ha, Int.toNat_natCast]
  have e : ((text.take at_).drop (p - word.length)).take word.length = (text.drop (p - word.length)).take word.length ∨ ¬ (word.length : Int) ≤ p := by
    by_cases hw : word.length ≤ p
    · left
      rw [List.drop_take, List.take_take, Nat.min_eq_left (by omega)]
    · right; omega
  rcases e with e | e
  · rw [e]
    congr 2
    simp
    omega
  · rw [decide_eq_false (by omega), decide_eq_false (by omega)]
    rfl
theorem atL_drop {fold : Bool} {text word : List Int} {d p : Nat} (hw : word.length ≤ p ∨ d = 0) (hd : d ≤ text.length) : atL fold (text.drop d) p word = atL fold text ((p + d : Nat) : Int) word := by
  rcases hw with hw | rfl
  · unfold atL
    rw [List.length_drop, Int.toNat_natCast, Int.toNat_natCast, List.drop_drop, show d + (p - word.length) = p + d - word.length by omega]
    congr 2
    simp
    omega
  · simp
theorem stands_take {fold : Bool} {wss : List (List Int)} {text : List Int} {at_ p k : Nat} (hp : p ≤ at_) (ha : at_ ≤ text.length) : stands fold wss (text.take at_) p k = stands fold wss text p k := atL_take hp ha
theorem longL_mem : ∀ (wss : List (List Int)), 0 ≤ longL wss ∧ ∀ x ∈ wss, (x.length : Int) ≤ longL wss := by
  intro wss
  unfold longL
  suffices h : ∀ (l : List (List Int)) (m : Int), m ≤ l.foldl (fun n w => max n (w.length : Int)) m ∧ ∀ x ∈ l, (x.length : Int) ≤ l.foldl (fun n w => max n (w.length : Int)) m from ⟨(h wss 0).1, (h wss 0).2⟩
  intro l
  induction l with
  | nil => intro m; simp
  | cons y l ih =>
    intro m
    rw [List.foldl_cons]
    obtain ⟨h1, h2⟩ := ih (max m (y.length : Int))
    refine ⟨by omega, fun x hx => ?_⟩
    rcases List.mem_cons.1 hx with rfl | hx
    · omega
    · exact h2 x hx
theorem occ_first (fold : Bool) (wss : List (List Int)) (frm : Int) (text : List Int) (at_ : Nat) (ha : at_ ≤ text.length) : occD fold wss frm (text.take at_) = occTo fold wss frm text (at_ + 1) := by
  refine rise_unique (occTo_rises _ _ _ _ _) (occTo_rises _ _ _ _ _) fun x => ?_
  unfold occD
  rw [mem_occTo, mem_occTo, List.length_take, Nat.min_eq_left ha]
  constructor
  · rintro ⟨p, k, h1, h2, h3, h4⟩
    exact ⟨p, k, h1, h2, by rwa [stands_take (by omega) ha] at h3, h4⟩
  · rintro ⟨p, k, h1, h2, h3, h4⟩
    exact ⟨p, k, h1, h2, by rwa [stands_take (by omega) ha], h4⟩
theorem betw_first (fold : Bool) (wss : List (List Int)) (frm : Int) (text : List Int) (at_ : Nat) (ha : at_ ≤ text.length) : occD fold wss frm (text.take at_) = betwH (frm - 1) (frm + at_) (occD fold wss frm text) := by
  rw [occ_first fold wss frm text at_ ha]
  refine rise_unique (occTo_rises _ _ _ _ _) ((occTo_rises _ _ _ _ _).filter _) fun x => ?_
  unfold occD betwH
  rw [mem_occTo, List.mem_filter, mem_occTo]
  constructor
  · rintro ⟨p, k, h1, h2, h3, rfl⟩
    exact ⟨⟨p, k, by omega, h2, h3, rfl⟩, by simp; omega⟩
  · rintro ⟨⟨p, k, h1, h2, h3, rfl⟩, h4⟩
    simp at h4
    exact ⟨p, k, by omega, h2, h3, rfl⟩
theorem occ_parts (fold : Bool) (wss : List (List Int)) (frm : Int) (text : List Int) (at_ warm : Nat) (ha : at_ ≤ text.length) (hw : warm = at_ ∨ longL wss - 1 ≤ warm ∧ warm ≤ at_) :
    occD fold wss frm text = occD fold wss frm (text.take at_) ++ betwH (frm + at_) (frm + text.length) (occD fold wss (frm + at_ - warm) (text.drop (at_ - warm))) := by
  have hwa : warm ≤ at_ := by omega
  have hlen : ∀ k, k < wss.length → ∀ p : Nat, warm < p → ((wss[k]?).getD []).length ≤ p ∨ at_ - warm = 0 := by
    intro k hk p hp
    rcases hw with rfl | ⟨h1, h2⟩
    · right; omega
    · left
      have hx : (wss[k]?).getD [] ∈ wss := by
        rw [List.getElem?_eq_getElem hk, Option.getD_some]
        exact List.getElem_mem hk
      have := (longL_mem wss).2 _ hx
      omega
  rw [occ_first fold wss frm text at_ ha]
  have hbm : ∀ x, x ∈ betwH (frm + at_) (frm + text.length) (occD fold wss (frm + at_ - warm) (text.drop (at_ - warm))) ↔ ∃ p k, at_ < p ∧ p < text.length + 1 ∧ k < wss.length ∧ stands fold wss text p k = true ∧ x = (frm + (p : Int), (k : Int)) := by
    intro x
    unfold betwH occD
    rw [List.mem_filter, mem_occTo, List.length_drop]
    constructor
    · rintro ⟨⟨p, k, h1, h2, h3, rfl⟩, h4⟩
      simp at h4
      refine ⟨p + (at_ - warm), k, by omega, by omega, h2, ?_, by simp; omega⟩
      unfold stands at h3 ⊢
      rwa [atL_drop (hlen k h2 p (by omega)) (by omega)] at h3
    · rintro ⟨p, k, h0, h1, h2, h3, rfl⟩
      refine ⟨⟨p - (at_ - warm), k, by omega, h2, ?_, by simp; omega⟩, by simp; omega⟩
      unfold stands at h3 ⊢
      rw [atL_drop (hlen k h2 _ (by omega)) (by omega), show p - (at_ - warm) + (at_ - warm) = p by omega]
      exact h3
  refine rise_unique (occTo_rises _ _ _ _ _) ?_ fun x => ?_
  · rw [List.pairwise_append]
    refine ⟨occTo_rises _ _ _ _ _, (occTo_rises _ _ _ _ _).filter _, fun a ha' b hb => ?_⟩
    obtain ⟨p, k, h1, h2, h3, rfl⟩ := mem_occTo.1 ha'
    obtain ⟨q, j, g0, g1, g2, g3, rfl⟩ := (hbm b).1 hb
    exact lessH_iff.2 (.inl (by dsimp only; omega))
  · rw [List.mem_append, hbm]
    unfold occD
    rw [mem_occTo, mem_occTo]
    constructor
    · rintro ⟨p, k, h1, h2, h3, rfl⟩
      by_cases hp : p ≤ at_
      · exact .inl ⟨p, k, by omega, h2, h3, rfl⟩
      · exact .inr ⟨p, k, by omega, h1, h2, h3, rfl⟩
    · rintro (⟨p, k, h1, h2, h3, rfl⟩ | ⟨p, k, h0, h1, h2, h3, rfl⟩)
      · exact ⟨p, k, by omega, h2, h3, rfl⟩
      · exact ⟨p, k, by omega, h2, h3, rfl⟩

/-- Rising in parts. -/
theorem rise_append {wss : List (List Int)} {l m : List HitP} : riseH wss (l ++ m) = (riseH wss l && riseH wss m && (match l.getLast?, m.head? with | some a, some b => lessH wss a b | _, _ => true)) := by
  induction l with
  | nil => cases m <;> simp [riseH]
  | cons a l ih =>
    cases l with
    | nil =>
      cases m with
      | nil => simp [riseH]
      | cons b m => simp [riseH, Bool.and_comm]
    | cons b l =>
      rw [List.cons_append, List.cons_append]
      simp only [riseH]
      rw [← List.cons_append, ih, List.getLast?_cons_cons]
      simp [Bool.and_assoc]
end Go.Proofs.Ytmpmjkbjnklgfaa
