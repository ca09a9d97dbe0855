/- Parts of the proof, one behind the other: Bn, B4, Fr, Lp, L1, B5, B6, B7, L2, L3, L4. No condition but what each theorem states. -/
import Derived.StillTailTactics
import Derived.Lib.Hide
import Derived.Test.YtmpmjkbjnklgfaaRows
import Derived.ProofKit
import Derived.OpenShut
import Derived.ShutString
import Derived.ChangeOld
import Derived.Lib.SmallJoins
import Derived.Test.YtmpmjkbjnklgfaaProg
import Derived.WalkKit
import Derived.WalkLawsBesides
import Derived.Deep.QuietTactic
import Derived.BigQuiet
import Derived.Lib.QuietBelow
import Derived.Stop.Walk2
import Derived.Deep.RegionHeld3
import Derived.Lib.MinMax
import Derived.Test.YtmpmjkbjnklgfaaW1

/- Plain arithmetic of layer 28: the functions' answers, and sizes. -/

namespace Go.Proofs.Ytmpmjkbjnklgfaa

theorem take_succ_of {α : Type} {l : List α} {k : Nat} {x : α} (h : l[k]? = some x) : l.take (k + 1) = l.take k ++ [x] := by
  rw [List.take_add_one, h]; rfl

/-! ### the functions' answers -/
section answers
variable (wk bl rg qu ou sl fr : Int)
def sliN (L y : Int) : Int := if rightB wk bl rg qu ou sl fr L y then totalI L bl sl y else 0
def sliE (L y : Int) : Int := if rightB wk bl rg qu ou sl fr L y then 0 else 2
def steB (L y r h : Int) : Bool := rightB wk bl rg qu ou sl fr L y && btw r 0 2147483647 && btw h 0 2147483647
def steN (L y r h : Int) : Int := if steB wk bl rg qu ou sl fr L y r h then 6 * overI y bl + r + wk + totalI L bl sl y + 2 * h + 5 else 0
def steE (L y r h : Int) : Int := if steB wk bl rg qu ou sl fr L y r h then 0 else 2
def aftN : Int := if confB wk bl rg qu ou sl fr then 2 * wk + qu + 4 else 0
def aftE : Int := if confB wk bl rg qu ou sl fr then 0 else 2
def rooB (L : Int) : Bool := confB wk bl rg qu ou sl fr && btw L 1 32
def rooN (L : Int) : Int := if rooB wk bl rg qu ou sl fr L then rg * (bl + L - 1) else 0
def rooE (L : Int) : Int := if rooB wk bl rg qu ou sl fr L then 0 else 2
end answers
def blkS (size : Int) (l : List Int) : Int := l.foldl (fun s n => s + overI n size) 0
theorem blkS_snoc (size : Int) (l : List Int) (n : Int) : blkS size (l ++ [n]) = blkS size l + overI n size := by simp [blkS]
theorem blkS_small {size : Int} (h : size < 1) (l : List Int) : blkS size l = 0 := by
  have : ∀ (l : List Int) (a : Int), l.foldl (fun s n => s + overI n size) a = a := by
    intro l
    induction l with
    | nil => intro a; rfl
    | cons n l ih => intro a; rw [List.foldl_cons, ih]; simp [overI, h]
  exact this l 0
theorem overI_bd {n size : Int} : 0 ≤ overI n size ∧ (overI n size ≤ n ∨ overI n size = 0) := by
  unfold overI
  split
  · exact ⟨by omega, .inr rfl⟩
  · rename_i h
    have := partsI_bd (s := size) (b := n) (by omega) (by omega)
    omega
theorem blkS_bd (size : Int) {M : Int} (hM : 0 ≤ M) : ∀ (l : List Int), (∀ n ∈ l, n ≤ M) → 0 ≤ blkS size l ∧ blkS size l ≤ l.length * M := by
  intro l
  obtain ⟨n, hn⟩ : ∃ n, l.length = n := ⟨_, rfl⟩
  induction n generalizing l with
  | zero => obtain rfl := List.eq_nil_of_length_eq_zero hn; simp [blkS]
  | succ n ih' =>
    obtain ⟨l', x, rfl⟩ : ∃ l' x, l = l' ++ [x] := ⟨l.dropLast, l.getLast (by intro h; simp [h] at hn), (List.dropLast_concat_getLast _).symm⟩
    intro h
    have ih := ih' l' (by simpa using hn) (fun n hn => h n (by simp [hn]))
    have hx := h x (by simp)
    have ho := overI_bd (n := x) (size := size)
    rw [blkS_snoc]
    have e : ((l' ++ [x]).length : Int) * M = l'.length * M + M := by simp [Int.add_mul]
    rw [e]
    omega

/-! ### sizes -/
theorem sumN_bd {L B S : Int} (hL : 1 ≤ L) (hB : 1 ≤ B) (hS : 1 ≤ S) : ∀ k, 0 ≤ sumN L B S k ∧ sumN L B S k ≤ k * (L - 1 + B)
  | 0 => by simp [sumN]
  | k + 1 => by
    have ih := sumN_bd hL hB hS k
    have hw := wI_bd (L := L) (B := B) hL hB k
    have hp := partsI_bd (s := S) (b := wI L B k + B) hS (by omega)
    have e : ((k + 1 : Nat) : Int) * (L - 1 + B) = k * (L - 1 + B) + (L - 1 + B) := by rw [Int.natCast_add, Int.add_mul]; simp
    rw [sumN, e]
    omega
theorem totalI_bd {L B S y : Int} (hL : 1 ≤ L) (hL2 : L ≤ 32) (hB : 1 ≤ B) (hB2 : B ≤ 256) (hS : 1 ≤ S) (hy : 0 ≤ y) : 0 ≤ totalI L B S y ∧ totalI L B S y ≤ y * 287 + 287 := by
  have h1 := sumN_bd (S := S) hL hB hS (y / B).toNat
  have h2 := (div_mul_le hB hy).2
  have h3 : (((y / B).toNat : Nat) : Int) * (L - 1 + B) ≤ y * 287 := Int.mul_le_mul h2 (by omega) (by omega) hy
  have hw := wI_bd (L := L) (B := B) hL hB (y / B).toNat
  have m0 : 0 ≤ y % B := Int.emod_nonneg _ (by omega)
  have m1 : y % B < B := Int.emod_lt_of_pos _ (by omega)
  have hp := partsI_bd (s := S) (b := wI L B (y / B).toNat + y % B) hS (by omega)
  unfold totalI
  split <;> omega

/-! ### the document's loop -/
def refV (L B S y : Int) (k : Nat) : Int := if k ≤ (y / B).toNat then sumN L B S k else totalI L B S y
theorem refV_step {L B S y : Int} (hL : 1 ≤ L) (hB : 1 ≤ B) (hS : 1 ≤ S) (hy : 0 ≤ y) {k : Nat} (h : (k : Int) * B < y) :
    refV L B S y (k + 1) = refV L B S y k + overI (min (L - 1) (k * B) + min B (y - k * B)) S := by
  have hw := wI_bd (L := L) (B := B) hL hB k
  rcases total_step hB hy k h with ⟨h1, h2⟩ | ⟨h1, h2, h3⟩
  · unfold refV
    rw [if_pos (by omega), if_pos (by omega), h2, sumN]
    rw [overI_eq (by unfold wI at hw; omega) hS]
    rfl
  · subst h1
    unfold refV
    rw [if_neg (by omega), if_pos (by omega), h3, totalI, if_pos h2]
    rw [overI_eq (by unfold wI at hw; omega) hS]
    rfl
theorem refV_end {L B S y : Int} (hB : 1 ≤ B) (hy : 0 ≤ y) {k : Nat} (h : ¬ (k : Int) * B < y) : refV L B S y k = totalI L B S y := by
  unfold refV
  split
  · rename_i hk
    have e := Int.mul_ediv_add_emod y B
    have m0 : 0 ≤ y % B := Int.emod_nonneg _ (by omega)
    have q0 : 0 ≤ y / B := Int.ediv_nonneg hy (by omega)
    have hkq : (k : Int) ≤ y / B := by omega
    have : (k : Int) * B ≤ y / B * B := Int.mul_le_mul_of_nonneg_right hkq (by omega)
    rw [Int.mul_comm] at e
    have hz : ¬ 0 < y % B := by omega
    have hkK : k = (y / B).toNat := by
      by_cases hlt : k < (y / B).toNat
      · have : ((k : Int) + 1) * B ≤ y / B * B := Int.mul_le_mul_of_nonneg_right (by omega) (by omega)
        rw [Int.add_mul] at this
        omega
      · omega
    rw [totalI, if_neg hz, ← hkK]; omega
  · rfl
theorem refV_bd {L B S y : Int} (hL : 1 ≤ L) (hL2 : L ≤ 32) (hB : 1 ≤ B) (hB2 : B ≤ 256) (hS : 1 ≤ S) (hy : 0 ≤ y) (k : Nat) : 0 ≤ refV L B S y k ∧ refV L B S y k ≤ y * 287 + 287 := by
  unfold refV
  split
  · rename_i hk
    have h1 := sumN_bd (S := S) hL hB hS k
    have h2 := (div_mul_le hB hy).2
    have h3 : (k : Int) * (L - 1 + B) ≤ y * 287 := Int.mul_le_mul (by omega) (by omega) (by omega) hy
    omega
  · exact totalI_bd hL hL2 hB hB2 hS hy

end Go.Proofs.Ytmpmjkbjnklgfaa

/- Steps, After, Room, Blocks of layer 28. -/




namespace Go.Proofs.Ytmpmjkbjnklgfaa
open Go.RowKit Go.Sort
set_option linter.unusedVariables false

/-- A slice whose elements fill a cell each. -/
def Sl1 {α : Type} (enc : α → Value) (w : World) (a : Option Addr) (len : Nat) (xs : List α) : Prop :=
  xs.length = len ∧ (len = 0 ∨ ∃ b off, a = some ⟨b, off, none⟩ ∧ b < w.heap.size ∧ ∀ i x, xs[i]? = some x → w.cell? ⟨b, off + i, none⟩ = some (enc x))
theorem Sl1.below {α : Type} {enc : α → Value} {w w' : World} {a : Option Addr} {len : Nat} {xs : List α} (h : Sl1 enc w a len xs) (hb : Below w.heap.size w w') : Sl1 enc w' a len xs := by
  obtain ⟨h1, h2 | ⟨b, off, e, hlt, hc⟩⟩ := h
  · exact ⟨h1, .inl h2⟩
  · exact ⟨h1, .inr ⟨b, off, e, Nat.lt_of_lt_of_le hlt hb.size, fun i x hx => (hb.cell (p := ⟨b, off + i, none⟩) hlt).trans (hc i x hx)⟩⟩

theorem after_any (wk bl rg qu ou sl fr : Int) (w : World) :
    Calls Try.prog 19 #[.agg (confV wk bl rg qu ou sl fr)] w fun e w' => e = .returned (.tuple #[.int .i64 (aftN wk bl rg qu ou sl fr), .int .i64 (aftE wk bl rg qu ou sl fr)]) ∧ Below w.heap.size w w' := by
  go_enter Try.func19, Try.ntmps19
  go_wp2_with fail
  refine (right_any _ _ _ _ _ _ _ _).mono ?_
  rintro e w' ⟨rfl, hb⟩
  obtain ⟨hc, hf⟩ := bcell hb
  have hB : Below w.heap.size w w' := ((Below.refl _ _).alloc (Nat.le_refl _) _).trans (hb.mono (by simp))
  by_cases h : confB wk bl rg qu ou sl fr = true
  · have h' := confB_iff.1 h
    obtain ⟨⟨_, _⟩, _, _, ⟨_, _⟩, _⟩ := h'
    rw [h]
    go_wp2
    go_ret2
    exact ⟨by simp [aftN, aftE, h], hB⟩
  · have h2 : confB wk bl rg qu ou sl fr = false := by simpa using h
    rw [h2]
    go_wp2
    go_ret2
    exact ⟨by simp [aftN, aftE, h2], hB⟩

theorem room_any (wk bl rg qu ou sl fr L : Int) (w : World) :
    Calls Try.prog 21 #[.agg (confV wk bl rg qu ou sl fr), .int .i64 L] w fun e w' => e = .returned (.tuple #[.int .i64 (rooN wk bl rg qu ou sl fr L), .int .i64 (rooE wk bl rg qu ou sl fr L)]) ∧ Below w.heap.size w w' := by
  go_enter Try.func21, Try.ntmps21
  go_wp2_with fail
  refine (right_any _ _ _ _ _ _ _ _).mono ?_
  rintro e w' ⟨rfl, hb⟩
  obtain ⟨hc, hf⟩ := bcell hb
  have hB : Below w.heap.size w w' := ((Below.refl _ _).alloc (Nat.le_refl _) _).trans (hb.mono (by simp))
  by_cases h : confB wk bl rg qu ou sl fr = true
  · by_cases hL : btw L 1 32 = true
    · have h' := confB_iff.1 h
      obtain ⟨⟨_, _⟩, ⟨_, _⟩, ⟨_, _⟩, ⟨_, _⟩, _⟩ := h'
      have hL' := hL
      simp only [btw, Bool.and_eq_true, decide_eq_true_eq] at hL'
      obtain ⟨_, _⟩ := hL'
      have m0 : 0 ≤ rg * (bl + L - 1) := Int.mul_nonneg (by omega) (by omega)
      have m1 : rg * (bl + L - 1) ≤ 16 * 287 := Int.mul_le_mul (by omega) (by omega) (by omega) (by omega)
      rw [h]
      go_wp2_with (go_at_call 67; refine (long_any _ _).mono ?_; rintro e w' ⟨rfl, rfl⟩; rw [hL])
      go_ret2
      exact ⟨by simp [rooN, rooE, rooB, h, hL], hB⟩
    · have hL2 : btw L 1 32 = false := by simpa using hL
      rw [h]
      go_wp2_with (go_at_call 67; refine (long_any _ _).mono ?_; rintro e w' ⟨rfl, rfl⟩; rw [hL2])
      go_ret2
      exact ⟨by simp [rooN, rooE, rooB, h, hL2], hB⟩
  · have h2 : confB wk bl rg qu ou sl fr = false := by simpa using h
    rw [h2]
    go_wp2
    go_ret2
    exact ⟨by simp [rooN, rooE, rooB, h2], hB⟩

set_option maxHeartbeats 1000000 in
theorem blocksN_any (size : Int) (a : Option Addr) (len cap : Nat) (zs : List Int) (w : World) (hs : -9223372036854775808 ≤ size ∧ size ≤ 9223372036854775807) (hl : len ≤ 60) (hz : ∀ n ∈ zs, n ≤ 1099511627776) (h : Sl1 (Value.int .i64) w a len zs) :
    Calls Try.prog 23 #[.int .i64 size, .slice a len cap] w fun e w' => e = .returned (.int .i64 (blkS size zs)) ∧ w = w' := by
  obtain ⟨hs1, hs2⟩ := hs
  by_cases h1 : size < 1
  · rw [blkS_small h1]
    go_enter Try.func23, Try.ntmps23
    go_wp2
    go_ret
    exact ⟨rfl, rfl⟩
  · obtain ⟨hlen, hm⟩ := h
    have HZ := Lib.hid hz
    have HL := Lib.hid hlen
    clear hz hlen
    go_enter Try.func23, Try.ntmps23
    go_wp2
    go_loop [5, 12] (fun s i => ∃ k : Nat, k ≤ len ∧ i = .int .i64 k ∧ s = .int .i64 (blkS size (zs.take k))) (fun _ i => len - (intOf i).toNat)
    case atStart => exact ⟨0, Nat.zero_le _, rfl, rfl⟩
    case round =>
      obtain ⟨k, hk, rfl, rfl⟩ := hrel
      by_cases hlt : k < len
      · obtain ⟨z, hz⟩ : ∃ z, zs[k]? = some z := ⟨zs[k]'(by rw [HL.out]; exact hlt), by simp⟩
        have hzm := HZ.out z (List.mem_of_getElem? hz)
        obtain ⟨b, off, rfl, _, hc⟩ := hm.resolve_left (by omega)
        have hcell := hc k z hz
        have htk := take_succ_of hz
        have hbd := blkS_bd size (M := 1099511627776) (by omega) (zs.take k) (fun n hn => HZ.out n (List.mem_of_mem_take hn))
        have hbl : ((zs.take k).length : Int) ≤ 60 := by have := List.length_take_le k zs; omega
        have hbd2 : ((zs.take k).length : Int) * 1099511627776 ≤ 60 * 1099511627776 := Int.mul_le_mul_of_nonneg_right hbl (by omega)
        have hov := overI_bd (n := z) (size := size)
        have HS : Hid (blkS size (zs.take (k + 1)) = blkS size (zs.take k) + overI z size) := by rw [htk, blkS_snoc]; rfl
        have HO : Hid (1 ≤ z → overI z size = partsI size z) := fun h => by unfold overI; rw [if_neg (by omega)]
        have HN : Hid (z < 1 → overI z size = 0) := fun h => by unfold overI; rw [if_pos (by omega)]
        clear htk hz hc hm
        by_cases h1z : 1 ≤ z
        · rw [HO.out h1z] at HS hov
          go_wp2_with (go_at_call 62; refine (parts_any _ _ _ (by omega) (by omega) (by omega) (by omega)).mono ?_; rintro e w' ⟨rfl, rfl⟩)
          go_round
          case rel => exact ⟨k + 1, by omega, by go_num, by rw [HS.out]⟩
          case measure => simp [intOf]; omega
        · rw [HN.out (by omega)] at HS
          go_wp2
          go_round
          case rel => exact ⟨k + 1, by omega, by go_num, by rw [HS.out, Int.add_zero]⟩
          case measure => simp [intOf]; omega
      · obtain rfl : k = len := by omega
        go_wp2
        go_ret
        exact ⟨ret_int (by rw [List.take_of_length_le (by rw [HL.out]; exact Nat.le_refl _)]), rfl⟩

end Go.Proofs.Ytmpmjkbjnklgfaa

/- Opening the arguments of laws: integers, configurations, slices of integers. -/







namespace Go.Proofs.Ytmpmjkbjnklgfaa
open Go.ChangeShapes Go.WideShapes Go.ChangeAt Go.RowKit Go.Joins
open Go.ChangeMaps (open_string shut_string)
set_option linter.unusedVariables false
set_option linter.unusedSimpArgs false

theorem own : ownKnob Try.prog.godebug = none := by kernel_rfl
theorem laidOut : laidOutB Try.prog = true := by kernel_rfl
theorem cells_Conf : Try.prog.cellsOf 23 = 7 := by kernel_rfl
theorem cells_int : Try.prog.cellsOf 3 = 1 := by kernel_rfl

section
variable {H : Type} {enc : TypeId × Value → H} {W : World} {r : Reach} {base : Nat} {d : DataW H} {p : List MemPlace} {v : Value}

theorem array7 {α : Type} {cs : Array α} (h : cs.size = 7) : ∃ c0 c1 c2 c3 c4 c5 c6, cs = #[c0, c1, c2, c3, c4, c5, c6] := by
  obtain ⟨l⟩ := cs
  match l, h with
  | [c0, c1, c2, c3, c4, c5, c6], _ => exact ⟨c0, c1, c2, c3, c4, c5, c6, rfl⟩

set_option maxRecDepth 100000 in
theorem open_conf (hv : Value.okWide Try.prog W r base 23 v) (h : DataW.Trod enc Try.prog W 0 (fun _ => true) true 23 v d p) :
    ∃ wk bl rg qu ou sl fr : Int, v = .agg (confV wk bl rg qu ou sl fr) := by
  obtain ⟨cs, rfl, hsz⟩ := okWide_struct Try.underlying23 hv
  obtain ⟨c0, c1, c2, c3, c4, c5, c6, rfl⟩ := array7 (hsz.trans cells_Conf)
  obtain ⟨fuel, hf⟩ := h
  obtain ⟨xs, n, _, _, _, hlen, hx⟩ := DataW.trod_struct Try.underlying23 hf
  have key : ∀ i : Nat, i < 7 → ∃ m : Int, (#[c0, c1, c2, c3, c4, c5, c6] : Array Value)[i]? = some (.int .i64 m) := by
    intro i hi
    have hlen' : xs.length = 7 := hlen
    obtain ⟨y, hy⟩ : ∃ y, xs[i]? = some y := ⟨xs[i]'(by omega), by simp⟩
    match i, hi with
    | 0, _ => have this := hx 0; simp only [List.getElem?_toArray, List.getElem?_cons_zero, List.getElem?_cons_succ, Option.some.injEq, forall_eq', cells_int, hy] at this; obtain ⟨m, e, _⟩ := DataW.trod_int Try.underlying3 this; simp [Value.cells] at e; exact ⟨m, by simp [e]⟩
    | 1, _ => have this := hx 1; simp only [List.getElem?_toArray, List.getElem?_cons_zero, List.getElem?_cons_succ, Option.some.injEq, forall_eq', cells_int, hy] at this; obtain ⟨m, e, _⟩ := DataW.trod_int Try.underlying3 this; simp [Value.cells] at e; exact ⟨m, by simp [e]⟩
    | 2, _ => have this := hx 2; simp only [List.getElem?_toArray, List.getElem?_cons_zero, List.getElem?_cons_succ, Option.some.injEq, forall_eq', cells_int, hy] at this; obtain ⟨m, e, _⟩ := DataW.trod_int Try.underlying3 this; simp [Value.cells] at e; exact ⟨m, by simp [e]⟩
    | 3, _ => have this := hx 3; simp only [List.getElem?_toArray, List.getElem?_cons_zero, List.getElem?_cons_succ, Option.some.injEq, forall_eq', cells_int, hy] at this; obtain ⟨m, e, _⟩ := DataW.trod_int Try.underlying3 this; simp [Value.cells] at e; exact ⟨m, by simp [e]⟩
    | 4, _ => have this := hx 4; simp only [List.getElem?_toArray, List.getElem?_cons_zero, List.getElem?_cons_succ, Option.some.injEq, forall_eq', cells_int, hy] at this; obtain ⟨m, e, _⟩ := DataW.trod_int Try.underlying3 this; simp [Value.cells] at e; exact ⟨m, by simp [e]⟩
    | 5, _ => have this := hx 5; simp only [List.getElem?_toArray, List.getElem?_cons_zero, List.getElem?_cons_succ, Option.some.injEq, forall_eq', cells_int, hy] at this; obtain ⟨m, e, _⟩ := DataW.trod_int Try.underlying3 this; simp [Value.cells] at e; exact ⟨m, by simp [e]⟩
    | 6, _ => have this := hx 6; simp only [List.getElem?_toArray, List.getElem?_cons_zero, List.getElem?_cons_succ, Option.some.injEq, forall_eq', cells_int, hy] at this; obtain ⟨m, e, _⟩ := DataW.trod_int Try.underlying3 this; simp [Value.cells] at e; exact ⟨m, by simp [e]⟩
  obtain ⟨m0, e0⟩ := key 0 (by omega)
  obtain ⟨m1, e1⟩ := key 1 (by omega)
  obtain ⟨m2, e2⟩ := key 2 (by omega)
  obtain ⟨m3, e3⟩ := key 3 (by omega)
  obtain ⟨m4, e4⟩ := key 4 (by omega)
  obtain ⟨m5, e5⟩ := key 5 (by omega)
  obtain ⟨m6, e6⟩ := key 6 (by omega)
  simp at e0 e1 e2 e3 e4 e5 e6
  exact ⟨m0, m1, m2, m3, m4, m5, m6, by rw [e0, e1, e2, e3, e4, e5, e6]⟩

set_option maxRecDepth 100000 in
theorem open_i64 (hv : Value.okWide Try.prog W r base 3 v) (h : DataW.Trod enc Try.prog W 0 (fun _ => true) true 3 v d p) :
    ∃ n : Int, v = .int .i64 n ∧ -9223372036854775808 ≤ n ∧ n ≤ 9223372036854775807 := by
  obtain ⟨n, rfl, _, _, hw⟩ := open_int Try.underlying3 hv h
  refine ⟨n, rfl, ?_⟩
  simp [Lit.wf, IntKind.min, IntKind.max, IntKind.signed, IntKind.bits] at hw
  omega

set_option maxRecDepth 100000 in
theorem open_sl_i64 (hv : Value.okWide Try.prog W r base 24 v) (h : DataW.Trod enc Try.prog W 0 (fun _ => true) true 24 v d p) :
    ∃ (a : Option Addr) (len cap : Nat) (zs : List Int), v = .slice a len cap ∧ Sl1 (Value.int .i64) W a len zs := by
  obtain ⟨a, len, cap, rfl⟩ := okWide_slice Try.underlying24 hv
  refine ⟨a, len, cap, ?_⟩
  obtain ⟨fuel, hf⟩ := h
  rcases open_ints Try.underlying24 Try.underlying3 (by kernel_rfl) hf with ⟨hcs, _⟩ | ⟨x, l, c, zs, hcs, _, hl, hm, hz, _, hcell, hwz⟩
  · simp [Value.cells] at hcs
    obtain ⟨rfl, rfl, rfl⟩ := hcs
    exact ⟨[], rfl, rfl, .inl rfl⟩
  · simp [Value.cells] at hcs
    obtain ⟨rfl, rfl, rfl⟩ := hcs
    have hz' : zs.length = cap := by simpa using hz
    refine ⟨zs.take len, rfl, by simp; omega, ?_⟩
    by_cases h0 : len = 0
    · exact .inl h0
    · right
      obtain ⟨b, off, spot⟩ := x
      have hc := hcell 0 (by omega)
      have hspot : spot = none := by simpa [Addr.add] using World.cell?_spot hc
      subst hspot
      refine ⟨b, off, rfl, ?_, ?_⟩
      · have := World.block_lt_of_cell? W _ hc
        simpa [Addr.add] using this
      · intro i x hx
        have hi : i < len := by have := (List.getElem?_eq_some_iff.1 hx).1; simp at this; omega
        have h1 := hcell i (by omega)
        rw [Addr.add_lit] at h1
        rw [h1]
        rw [List.getElem?_take, if_pos hi] at hx
        simp [hx]
end

end Go.Proofs.Ytmpmjkbjnklgfaa

/- Plain words of layer 3: bytes folded, texts that are the same, where they stand, which of them. -/
namespace Go.Proofs.Ytmpmjkbjnklgfaa
set_option linter.unusedVariables false

def foldI (x : Int) : Int := if 65 ≤ x ∧ x ≤ 90 then x + 32 else x
def foldL (fold : Bool) (xs : List Int) : List Int := if fold then xs.map foldI else xs
def sameL (fold : Bool) (xs ys : List Int) : Bool := decide (foldL fold xs = foldL fold ys)
def atL (fold : Bool) (text : List Int) (place : Int) (word : List Int) : Bool :=
  decide ((word.length : Int) ≤ place ∧ place ≤ (text.length : Int)) && sameL fold ((text.drop (place.toNat - word.length)).take word.length) word
def whichO (fold : Bool) (text : List Int) (wss : List (List Int)) : Option Nat := wss.findIdx? (fun w => sameL fold text w)
def whichL (fold : Bool) (text : List Int) (wss : List (List Int)) : Int := match whichO fold text wss with | none => -1 | some k => k

theorem foldI_bd {x : Int} (h : 0 ≤ x ∧ x ≤ 255) : 0 ≤ foldI x ∧ foldI x ≤ 255 := by unfold foldI; split <;> omega
theorem foldI_foldI (x : Int) : foldI (foldI x) = foldI x := by unfold foldI; by_cases h : 65 ≤ x ∧ x ≤ 90 <;> simp [h] <;> omega
theorem foldL_length (fold : Bool) (xs : List Int) : (foldL fold xs).length = xs.length := by cases fold <;> simp [foldL]
theorem foldL_foldL (fold : Bool) (xs : List Int) : foldL fold (foldL fold xs) = foldL fold xs := by
  cases fold
  · rfl
  · simp only [foldL, if_true, List.map_map]
    exact List.map_congr_left fun x _ => foldI_foldI x
theorem foldL_bd {fold : Bool} {xs : List Int} (h : ∀ x ∈ xs, 0 ≤ x ∧ x ≤ 255) : ∀ x ∈ foldL fold xs, 0 ≤ x ∧ x ≤ 255 := by
  cases fold
  · exact h
  · intro x hx
    simp only [foldL, if_true, List.mem_map] at hx
    obtain ⟨y, hy, rfl⟩ := hx
    exact foldI_bd (h y hy)
theorem sameL_comm (fold : Bool) (xs ys : List Int) : sameL fold xs ys = sameL fold ys xs := by
  unfold sameL
  by_cases h : foldL fold xs = foldL fold ys
  · simp [h]
  · simp [h]; exact fun e => h e.symm
theorem sameL_length {fold : Bool} {xs ys : List Int} (h : sameL fold xs ys = true) : xs.length = ys.length := by
  have := of_decide_eq_true h
  have h2 := congrArg List.length this
  rwa [foldL_length, foldL_length] at h2
theorem sameL_ne {fold : Bool} {xs ys : List Int} (h : xs.length ≠ ys.length) : sameL fold xs ys = false := by
  cases e : sameL fold xs ys with
  | false => rfl
  | true => exact absurd (sameL_length e) h

/-- One byte against another. -/
def sameI (fold : Bool) (x y : Int) : Bool := if fold then decide (foldI x = foldI y) else decide (x = y)
theorem foldL_map (fold : Bool) (xs : List Int) : foldL fold xs = xs.map (fun x => if fold then foldI x else x) := by cases fold <;> simp [foldL]
theorem sameL_zip {fold : Bool} : ∀ {xs ys : List Int}, xs.length = ys.length → (sameL fold xs ys = true ↔ ∀ p ∈ xs.zip ys, sameI fold p.1 p.2 = true)
  | [], [], _ => by simp [sameL]
  | x :: xs, y :: ys, h => by
    have ih := sameL_zip (fold := fold) (xs := xs) (ys := ys) (by simpa using h)
    unfold sameL at ih ⊢
    rw [foldL_map, foldL_map] at ih ⊢
    simp only [decide_eq_true_eq] at ih ⊢
    simp only [List.map_cons, List.cons.injEq, List.zip_cons_cons, List.mem_cons, forall_eq_or_imp, ih]
    cases fold <;> simp [sameI]
  | [], _ :: _, h => by simp at h
  | _ :: _, [], h => by simp at h

theorem whichL_nil (fold : Bool) (text : List Int) : whichL fold text [] = -1 := rfl
theorem whichL_snoc_no {fold : Bool} {text : List Int} {wss : List (List Int)} {y : List Int} (h : whichL fold text wss = -1) (hy : sameL fold text y = false) : whichL fold text (wss ++ [y]) = -1 := by
  unfold whichL whichO at h ⊢
  rw [List.findIdx?_append]
  cases e : wss.findIdx? (fun w => sameL fold text w) with
  | none => simp [hy]
  | some k => rw [e] at h; simp at h
theorem whichL_hit {fold : Bool} {text : List Int} {wss rest : List (List Int)} {y : List Int} (h : whichL fold text wss = -1) (hy : sameL fold text y = true) : whichL fold text (wss ++ y :: rest) = wss.length := by
  unfold whichL whichO at h ⊢
  rw [List.findIdx?_append]
  cases e : wss.findIdx? (fun w => sameL fold text w) with
  | none => simp [hy, List.findIdx?_cons]
  | some k => rw [e] at h; simp at h
theorem whichL_bd (fold : Bool) (text : List Int) (wss : List (List Int)) : -1 ≤ whichL fold text wss ∧ whichL fold text wss < wss.length := by
  unfold whichL whichO
  cases e : wss.findIdx? (fun w => sameL fold text w) with
  | none => simp; omega
  | some k =>
    have := (List.findIdx?_eq_some_iff_getElem.1 e).1
    simp; omega

theorem take_step {α : Type} {xs : List α} {k : Nat} {z : α} (h : xs[k]? = some z) : xs.take (k + 1) = xs.take k ++ [z] := by
  rw [List.take_add_one, h]; rfl
theorem split_at {α : Type} {xs : List α} {k : Nat} {z : α} (h : xs[k]? = some z) : xs = xs.take k ++ z :: xs.drop (k + 1) := by
  have hk := (List.getElem?_eq_some_iff.1 h)
  obtain ⟨hlt, rfl⟩ := hk
  rw [← List.drop_eq_getElem_cons hlt, List.take_append_drop]

def longL (wss : List (List Int)) : Int := wss.foldl (fun n w => max n (w.length : Int)) 0
theorem longL_snoc (l : List (List Int)) (x : List Int) : longL (l ++ [x]) = max (longL l) (x.length : Int) := by simp [longL, List.foldl_append]

end Go.Proofs.Ytmpmjkbjnklgfaa

/- Small functions of layer 3, walked: bytes folded, compared. -/












namespace Go.Proofs.Ytmpmjkbjnklgfaa
open Go.RowKit Go.Sort
set_option linter.unusedVariables false

theorem cells0 : Try.prog.cellsOf 219 = 0 := by kernel_rfl
theorem run_partAt_zero (w : World) (b : Nat) (cs : Array Value) (t : TypeId) (fr : Nat × Nat) (h : w.heap[b]? = some (.cells cs t fr)) (ht : Try.prog.cellsOf t = 0) :
    Sem.run Try.prog (partAt ⟨b, 0, none⟩ 0 0) w = .ok ⟨b, 0, none⟩ w := by
  simp [partAt, byteOf, noView, viewAt, World.shape?, h, ht, go_sem]
theorem partAt_new (w : World) (t : TypeId) (ht : Try.prog.cellsOf t = 0) :
    Sem.run Try.prog (partAt ⟨w.heap.size, 0, none⟩ 0 0) (w.alloc (.cells #[] t)) = .ok ⟨w.heap.size, 0, none⟩ (w.alloc (.cells #[] t)) :=
  run_partAt_zero _ _ _ _ _ (World.alloc_heap_new _ _) ht
theorem partAt_grown {w : World} {b : Nat} {cs : Array Value} {t : TypeId} {fr : Nat × Nat} (h : w.heap[b]? = some (.cells cs t fr)) (ht : Try.prog.cellsOf t = 0) (d : Nat) (os : Array Obj) :
    Sem.run Try.prog (partAt ⟨b, 0, none⟩ 0 0) (grow (redrawn w d) os) = .ok ⟨b, 0, none⟩ (grow (redrawn w d) os) :=
  run_partAt_zero _ _ _ _ _ (((below_regrown w d os).block b (Array.getElem?_eq_some_iff.1 h).1).trans h) ht

theorem fold_any (x : Int) (w : World) (h0 : 0 ≤ x) (h1 : x ≤ 255) :
    Calls Try.prog 194 #[.int .u8 x] w fun e w' => e = .returned (.int .u8 (foldI x)) ∧ w = w' := by
  by_cases h2 : 65 ≤ x
  · by_cases h3 : x ≤ 90
    all_goals
      go_enter Try.func194, Try.ntmps194
      go_wp2
      go_ret
      exact ⟨ret_int (by unfold foldI; first | rw [if_pos (by omega)] | rw [if_neg (by omega)]), rfl⟩
  · go_enter Try.func194, Try.ntmps194
    go_wp2
    go_ret
    exact ⟨ret_int (by unfold foldI; rw [if_neg (by omega)]), rfl⟩

theorem rfold_any (x : Int) (w : World) (h0 : 0 ≤ x) (h1 : x ≤ 255) :
    Calls Try.prog 150 #[.int .u8 x] w fun e w' => e = .returned (.int .u8 (foldI x)) ∧ w = w' := by
  by_cases h2 : 65 ≤ x
  · by_cases h3 : x ≤ 90
    all_goals
      go_enter Try.func150, Try.ntmps150
      go_wp2
      go_ret
      exact ⟨ret_int (by unfold foldI; first | rw [if_pos (by omega)] | rw [if_neg (by omega)]), rfl⟩
  · go_enter Try.func150, Try.ntmps150
    go_wp2
    go_ret
    exact ⟨ret_int (by unfold foldI; rw [if_neg (by omega)]), rfl⟩

theorem exact_any (x y : Int) (w : World) :
    Calls Try.prog 185 #[.agg #[], .int .u8 x, .int .u8 y] w fun e w' => e = .returned (.bool (decide (x = y))) ∧ Below w.heap.size w w' := by
  by_cases h : x = y
  all_goals
    go_enter Try.func185, Try.ntmps185
    go_wp2
    go_ret
    exact ⟨by simp [h], (Below.refl _ _).alloc (Nat.le_refl _) _⟩

theorem folded_any (x y : Int) (w : World) (hx0 : 0 ≤ x) (hx1 : x ≤ 255) (hy0 : 0 ≤ y) (hy1 : y ≤ 255) :
    Calls Try.prog 184 #[.agg #[], .int .u8 x, .int .u8 y] w fun e w' => e = .returned (.bool (decide (foldI x = foldI y))) ∧ Below w.heap.size w w' := by
  have hX := foldI_bd ⟨hx0, hx1⟩
  have hY := foldI_bd ⟨hy0, hy1⟩
  go_enter Try.func184, Try.ntmps184
  have hp := partAt_grown (World.alloc_heap_new w (.cells #[] 219)) cells0
  go_wp2
  refine wp_region_quiet_below mixed (by kernel_rfl) ?_
  repeat (go_big_quiet_step (first | exact grown_same (fold_any _ _ (by omega) (by omega)) | exact grown_below (exact_any _ _ _)))
  refine wpQuiet_nil ?_
  rintro _ ⟨⟨dq, osq⟩, rfl⟩
  go_wp2
  go_ret
  exact ⟨rfl, ((Below.refl _ _).alloc (Nat.le_refl _) _).trans ((below_regrown _ dq osq).mono (by simp))⟩

theorem run_store_fn (P : Program) (w : World) (a : Addr) (f : Fn) (vs us : Array Value) (m : Mode) : (store a (.func f vs us) m).run P w = stored P w a (.func f vs us) m := run_store P w a _ m rfl

/-- Which function compares. -/
def cmpFn (fold : Bool) : FuncId := if fold then 184 else 185

theorem by_any (fold : Bool) (w : World) :
    Calls Try.prog 167 #[.bool fold] w fun e w' => e = .returned (.func (.func (cmpFn fold)) #[.agg #[]] #[]) ∧ Below w.heap.size w w' := by
  cases fold
  all_goals
    go_enter Try.func167, Try.ntmps167
    have hp := partAt_new w 219 cells0
    go_wp2
    go_ret
    exact ⟨by simp [cmpFn], (Below.refl _ _).alloc (Nat.le_refl _) _⟩

end Go.Proofs.Ytmpmjkbjnklgfaa

/- Steps of layer 28, and the document's functions. -/


namespace Go.Proofs.Ytmpmjkbjnklgfaa
open Go.RowKit Go.Sort
set_option linter.unusedVariables false

theorem slices_any (wk bl rg qu ou sl fr L y : Int) (w : World) :
    Calls Try.prog 15 #[.agg (confV wk bl rg qu ou sl fr), .int .i64 L, .int .i64 y] w fun e w' => e = .returned (.tuple #[.int .i64 (sliN wk bl rg qu ou sl fr L y), .int .i64 (sliE wk bl rg qu ou sl fr L y)]) ∧ Below w.heap.size w w' := by
  by_cases h : rightB wk bl rg qu ou sl fr L y = true
  · rw [sliN, sliE, if_pos h, if_pos h]
    exact slices_yes _ _ _ _ _ _ _ _ _ _ h
  · rw [sliN, sliE, if_neg h, if_neg h]
    exact slices_no _ _ _ _ _ _ _ _ _ _ (by simpa using h)

theorem Sl1.one {W : World} {n : Int} {b : Nat} (hc : W.cell? ⟨b, 0, none⟩ = some (.int .i64 n)) (hb : b < W.heap.size) : Sl1 (Value.int .i64) W (some ⟨b, 0, none⟩) 1 [n] := by
  refine ⟨rfl, .inr ⟨b, 0, rfl, hb, fun i x hx => ?_⟩⟩
  cases i with
  | zero => simp at hx; subst hx; exact hc
  | succ i => simp at hx

set_option maxHeartbeats 4000000 in
theorem steps_any (wk bl rg qu ou sl fr L y r h : Int) (w : World) :
    Calls Try.prog 17 #[.agg (confV wk bl rg qu ou sl fr), .int .i64 L, .int .i64 y, .int .i64 r, .int .i64 h] w fun e w' => e = .returned (.tuple #[.int .i64 (steN wk bl rg qu ou sl fr L y r h), .int .i64 (steE wk bl rg qu ou sl fr L y r h)]) ∧ Below w.heap.size w w' := by
  go_enter Try.func17, Try.ntmps17
  go_wp2_with fail
  refine (slices_any _ _ _ _ _ _ _ _ _ _).mono ?_
  rintro e w1 ⟨rfl, hb⟩
  obtain ⟨hc, hf⟩ := bcell hb
  have hsz : w.heap.size < w1.heap.size := by have := hb.size; simp at this; omega
  have hB : Below w.heap.size w w1 := ((Below.refl _ _).alloc (Nat.le_refl _) _).trans (hb.mono (by simp))
  by_cases hr : rightB wk bl rg qu ou sl fr L y = true
  · have hE : sliE wk bl rg qu ou sl fr L y = 0 := by rw [sliE, if_pos hr]
    have hN : sliN wk bl rg qu ou sl fr L y = totalI L bl sl y := by rw [sliN, if_pos hr]
    rw [hE, hN]
    clear hE hN
    by_cases hrr : btw r 0 2147483647 = true
    · by_cases hh : btw h 0 2147483647 = true
      · have hr0 := hr
        simp only [rightB, Bool.and_eq_true, confB_iff, btw, decide_eq_true_eq] at hr0
        obtain ⟨⟨⟨⟨_, _⟩, ⟨b1, b2⟩, _, _, _, ⟨s1, s2⟩, _⟩, l1, l2⟩, y1, y2⟩ := hr0
        have hrb := hrr
        simp only [btw, Bool.and_eq_true, decide_eq_true_eq] at hrb
        obtain ⟨r1, r2⟩ := hrb
        have hhb := hh
        simp only [btw, Bool.and_eq_true, decide_eq_true_eq] at hhb
        obtain ⟨h1, h2⟩ := hhb
        have ht := totalI_bd (S := sl) l1 l2 b1 b2 s1 y1
        have ho := overI_bd (n := y) (size := bl)
        have HF : Hid (steN wk bl rg qu ou sl fr L y r h = 6 * overI y bl + r + wk + totalI L bl sl y + 2 * h + 5 ∧ steE wk bl rg qu ou sl fr L y r h = 0) := by
          simp [steN, steE, steB, hr, hrr, hh, Hid]
        have hb1 : blkS bl [y] = overI y bl := by simp [blkS]
        have cB : ∀ (W : World) (b : Nat), W.cell? ⟨b, 0, none⟩ = some (.int .i64 y) → b < W.heap.size → Calls Try.prog 23 #[.int .i64 bl, .slice (some ⟨b, 0, none⟩) 1 1] W fun e w' => e = .returned (.int .i64 (overI y bl)) ∧ W = w' := by
          intro W b hc hb
          rw [← hb1]
          exact blocksN_any _ _ _ _ _ _ (by omega) (by omega) (by simp; omega) (Sl1.one hc hb)
        clear hb1
        obtain ⟨O, hO⟩ : ∃ O, overI y bl = O := ⟨_, rfl⟩
        obtain ⟨T, hT⟩ : ∃ T, totalI L bl sl y = T := ⟨_, rfl⟩
        rw [hT] at ht HF ⊢
        rw [hO] at ho HF cB
        clear hT hO
        go_wp2_with (go_at_call 65; refine (counted_any _ _).mono ?_; rintro e w' ⟨rfl, rfl⟩; first | rw [hrr] | rw [hh])
        have e1 : IntKind.i64.wrap (6 * O) = 6 * O := IntWalk.i64_in _ (by omega)
        have e2 : IntKind.i64.wrap (6 * O + r) = 6 * O + r := IntWalk.i64_in _ (by omega)
        have e3 : IntKind.i64.wrap (6 * O + r + wk) = 6 * O + r + wk := IntWalk.i64_in _ (by omega)
        have e4 : IntKind.i64.wrap (6 * O + r + wk + T) = 6 * O + r + wk + T := IntWalk.i64_in _ (by omega)
        have e5 : IntKind.i64.wrap (2 * h) = 2 * h := IntWalk.i64_in _ (by omega)
        have e6 : IntKind.i64.wrap (6 * O + r + wk + T + 2 * h) = 6 * O + r + wk + T + 2 * h := IntWalk.i64_in _ (by omega)
        have e7 : IntKind.i64.wrap (6 * O + r + wk + T + 2 * h + 5) = 6 * O + r + wk + T + 2 * h + 5 := IntWalk.i64_in _ (by omega)
        go_region_held3 (fun w' => w'.cell? ⟨w.heap.size, 0, none⟩ = some (.int .i64 wk) ∧ w'.cell? ⟨w.heap.size, 1, none⟩ = some (.int .i64 bl)) (go_keep)
          (first | (go_at_call 23; refine (cB _ _ ?_ ?_).mono ?_; (simp); (simp); rintro e w' ⟨rfl, rfl⟩))
        clear e1 e2 e3 e4 e5 e6 e7
        go_wp2
        go_ret2
        exact ⟨by rw [HF.out.1, HF.out.2]; rfl, (hB.alloc (by omega) _).drew⟩
      · have hh2 : btw h 0 2147483647 = false := by simpa using hh
        go_wp2_with (go_at_call 65; refine (counted_any _ _).mono ?_; rintro e w' ⟨rfl, rfl⟩; first | rw [hrr] | rw [hh2])
        go_ret2
        exact ⟨by simp [steN, steE, steB, hr, hrr, hh2], hB⟩
    · have hrr2 : btw r 0 2147483647 = false := by simpa using hrr
      go_wp2_with (go_at_call 65; refine (counted_any _ _).mono ?_; rintro e w' ⟨rfl, rfl⟩; rw [hrr2])
      go_ret2
      exact ⟨by simp [steN, steE, steB, hr, hrr2], hB⟩
  · have hr2 : rightB wk bl rg qu ou sl fr L y = false := by simpa using hr
    have hE : sliE wk bl rg qu ou sl fr L y = 2 := by rw [sliE, if_neg hr]
    rw [hE]
    clear hE
    go_wp2
    go_ret2
    exact ⟨by simp [steN, steE, steB, hr2], hB⟩

end Go.Proofs.Ytmpmjkbjnklgfaa

/- The document's functions of layer 28 (and of configurations). -/


namespace Go.Proofs.Ytmpmjkbjnklgfaa
open Go.RowKit Go.Sort
set_option linter.unusedVariables false

theorem over_any (l s : Int) (w : World) (hl : l ≤ 4611686018427387904) (hs : s ≤ 9223372036854775807) :
    Calls Try.prog 64 #[.int .i64 l, .int .i64 s] w fun e w' => e = .returned (.int .i64 (overI l s)) ∧ w = w' := by
  by_cases h1 : l < 1
  · go_enter Try.func64, Try.ntmps64
    go_wp2
    go_ret
    exact ⟨ret_int (by unfold overI; rw [if_pos (.inl (by omega))]), rfl⟩
  · by_cases h2 : s < 1
    · go_enter Try.func64, Try.ntmps64
      go_wp2
      go_ret
      exact ⟨ret_int (by unfold overI; rw [if_pos (.inr (by omega))]), rfl⟩
    · have hne : (s == 0) = false := by simp; omega
      have HO : Hid (overI l s = if l / s * s < l then l / s + 1 else l / s) := by
        unfold overI
        rw [if_neg (by omega), over_code (by omega) (by omega)]; rfl
      have hd : 0 ≤ l / s := Int.ediv_nonneg (by omega) (by omega)
      have hd2 : l / s ≤ l := Int.ediv_le_self _ (by omega)
      have hm : l / s * s ≤ l := Int.ediv_mul_le _ (by omega)
      have hm0 : 0 ≤ l / s * s := Int.mul_nonneg hd (by omega)
      by_cases hc : l / s * s < l
      · rw [if_pos hc] at HO
        go_enter Try.func64, Try.ntmps64
        go_wp2
        go_ret
        exact ⟨ret_int HO.out.symm, rfl⟩
      · rw [if_neg hc] at HO
        go_enter Try.func64, Try.ntmps64
        go_wp2
        go_ret
        exact ⟨ret_int HO.out.symm, rfl⟩

def min6 (a b c d e f : Int) : Int := min (min (min (min (min a b) c) d) e) f
theorem run_min6 {P : Program} (w : World) (ts : Array TypeId) (t : TypeId) (a b c d e f : Int) :
    (Builtin.min_ ts t #[.int .i64 a, .int .i64 b, .int .i64 c, .int .i64 d, .int .i64 e, .int .i64 f]).run P w = .ok (.int .i64 (min6 a b c d e f)) w := by
  have m : ∀ x y : Int, (if y < x then y else x) = min x y := by intro x y; rw [Int.min_def]; split <;> split <;> omega
  simp only [← m, min6]
  simp [Builtin.min_, Builtin.min2]
theorem min6_iff {a b c d e f : Int} : 1 ≤ min6 a b c d e f ↔ 1 ≤ a ∧ 1 ≤ b ∧ 1 ≤ c ∧ 1 ≤ d ∧ 1 ≤ e ∧ 1 ≤ f := by unfold min6; omega
attribute [local go_sem high] run_min6

set_option maxHeartbeats 4000000 in
theorem right27_any (wk bl rg qu ou sl fr : Int) (w : World) :
    Calls Try.prog 25 #[.agg (confV wk bl rg qu ou sl fr)] w fun e w' => e = .returned (.bool (confB wk bl rg qu ou sl fr)) ∧ Below w.heap.size w w' := by
  obtain ⟨B, hB⟩ : ∃ B, confB wk bl rg qu ou sl fr = B := ⟨_, rfl⟩
  have HB : Hid (confB wk bl rg qu ou sl fr = B) := hB
  rw [hB]
  clear hB
  have hfr : fr ≤ 4611686018427387904 ∨ ¬ fr ≤ 4611686018427387904 := Decidable.em _
  rcases hfr with hfr | hfr
  all_goals
    go_enter Try.func25, Try.ntmps25
    go_wp2
    all_goals
      go_ret
      refine ⟨?_, (Below.refl _ _).alloc (Nat.le_refl _) _⟩
      first
        | (show Ending.returned (.bool true) = _
           rw [← HB.out, confB_iff.2 (by simp only [min6_iff] at *; omega)])
        | (show Ending.returned (.bool false) = _
           have e : confB wk bl rg qu ou sl fr = false := by
             refine Bool.eq_false_iff.2 fun h => ?_
             have h1 := confB_iff.1 h
             have h2 := min6_iff.2 ⟨h1.1.1, h1.2.1.1, h1.2.2.1.1, h1.2.2.2.1.1, h1.2.2.2.2.1.1, h1.2.2.2.2.2.1.1⟩
             omega
           rw [← HB.out, e])

end Go.Proofs.Ytmpmjkbjnklgfaa

/- The document's functions of layer 28, the loops. -/

namespace Go.Proofs.Ytmpmjkbjnklgfaa
open Go.RowKit Go.Sort
set_option linter.unusedVariables false

theorem ret_bool {a b : Bool} (h : a = b) : Ending.returned (.bool a) = .returned (.bool b) := by rw [h]

set_option maxHeartbeats 1000000 in
theorem may28_any (wk bl rg qu ou sl fr L y : Int) (w : World) :
    Calls Try.prog 63 #[.agg (confV wk bl rg qu ou sl fr), .int .i64 L, .int .i64 y] w fun e w' => e = .returned (.bool (rightB wk bl rg qu ou sl fr L y)) ∧ Below w.heap.size w w' := by
  obtain ⟨B, hB⟩ : ∃ B, rightB wk bl rg qu ou sl fr L y = B := ⟨_, rfl⟩
  have HB : Hid (rightB wk bl rg qu ou sl fr L y = B) := hB
  rw [hB]
  clear hB
  have hy : y ≤ 2147483647 ∨ ¬ y ≤ 2147483647 := Decidable.em _
  rcases hy with hy | hy
  all_goals
    go_enter Try.func63, Try.ntmps63
    go_wp2_with fail
    refine (right27_any _ _ _ _ _ _ _ _).mono ?_
    rintro e w' ⟨rfl, hb⟩
    have hBel : Below w.heap.size w w' := ((Below.refl _ _).alloc (Nat.le_refl _) _).trans (hb.mono (by simp))
    go_wp2
    all_goals
      go_ret
      refine ⟨ret_bool ?_, hBel⟩
      rw [← HB.out, Bool.eq_iff_iff]
      simp only [rightB, btw, Bool.and_eq_true, decide_eq_true_eq]
      simp [*]
      try omega

set_option maxHeartbeats 2000000 in
theorem rslices_any (wk bl rg qu ou sl fr L y : Int) (w : World) :
    Calls Try.prog 16 #[.agg (confV wk bl rg qu ou sl fr), .int .i64 L, .int .i64 y] w fun e w' => e = .returned (.tuple #[.int .i64 (sliN wk bl rg qu ou sl fr L y), .int .i64 (sliE wk bl rg qu ou sl fr L y)]) ∧ Below w.heap.size w w' := by
  go_enter Try.func16, Try.ntmps16
  go_wp2_with fail
  refine (may28_any _ _ _ _ _ _ _ _ _ _).mono ?_
  rintro e w1 ⟨rfl, hb⟩
  obtain ⟨hc, hf⟩ := bcell hb
  have hB : Below w.heap.size w w1 := ((Below.refl _ _).alloc (Nat.le_refl _) _).trans (hb.mono (by simp))
  by_cases hr : rightB wk bl rg qu ou sl fr L y = true
  · have hr0 := hr
    simp only [rightB, Bool.and_eq_true, confB_iff, btw, decide_eq_true_eq] at hr0
    obtain ⟨⟨⟨_, ⟨b1, b2⟩, _, _, _, ⟨s1, s2⟩, _⟩, l1, l2⟩, y1, y2⟩ := hr0
    have HN : Hid (sliN wk bl rg qu ou sl fr L y = totalI L bl sl y ∧ sliE wk bl rg qu ou sl fr L y = 0) := by simp [Hid, sliN, sliE, hr]
    have hc1 : w1.cell? ⟨w.heap.size, 1, none⟩ = some (.int .i64 bl) := by rw [hc _ _ (by simp)]; simp
    have hc5 : w1.cell? ⟨w.heap.size, 5, none⟩ = some (.int .i64 sl) := by rw [hc _ _ (by simp)]; simp
    clear hc hf hb
    rw [hr]
    clear hr
    go_wp2
    go_loop [8, 9] (fun s f => ∃ (k : Nat) (q : Int), Hid (q = k * bl) ∧ 0 ≤ q ∧ q ≤ y + 256 ∧ f = .int .i64 q ∧ s = .int .i64 (refV L bl sl y k)) (fun _ f => (y - intOf f).toNat)
    case atStart => exact ⟨0, 0, by simp [Hid], by omega, by omega, rfl, by simp [refV, sumN]⟩
    case round =>
      obtain ⟨k, q, Hq, q0, q1, rfl, rfl⟩ := hrel
      have hv := refV_bd (S := sl) l1 l2 b1 b2 s1 y1 k
      by_cases hlt : q < y
      · have hst := refV_step (S := sl) l1 b1 s1 y1 (k := k) (by rw [← Hq.out]; exact hlt)
        rw [← Hq.out] at hst
        have hv2 := refV_bd (S := sl) l1 l2 b1 b2 s1 y1 (k + 1)
        have HS := Lib.hid hst
        rw [hst] at hv2
        clear hst
        have g1 : 0 ≤ min (L - 1) q := by omega
        have g2 : min (L - 1) q ≤ 31 := by omega
        have g3 : 0 ≤ min bl (y - q) := by omega
        have g4 : min bl (y - q) ≤ 256 := by omega
        go_wp2_with (go_at_call 64; refine (over_any _ _ _ (by omega) (by omega)).mono ?_; rintro e w' ⟨rfl, rfl⟩)
        go_round
        case rel => exact ⟨k + 1, q + bl, by unfold Hid; rw [Hq.out]; simp [Int.add_mul], by omega, by omega, rfl, by rw [HS.out]⟩
        case measure => simp [intOf]; omega
      · have HE := Lib.hid (refV_end (L := L) (S := sl) b1 y1 (k := k) (by rw [← Hq.out]; exact hlt))
        go_wp2
        go_ret2
        exact ⟨by rw [HN.out.1, HN.out.2, ← HE.out]; rfl, hB⟩
  · have hr2 : rightB wk bl rg qu ou sl fr L y = false := by simpa using hr
    have HN : Hid (sliN wk bl rg qu ou sl fr L y = 0 ∧ sliE wk bl rg qu ou sl fr L y = 2) := by simp [Hid, sliN, sliE, hr2]
    rw [hr2]
    go_wp2
    go_ret2
    exact ⟨by rw [HN.out.1, HN.out.2]; rfl, hB⟩

end Go.Proofs.Ytmpmjkbjnklgfaa

/- Texts that are the same (layer 3): the iterator over two texts, and its caller. -/



namespace Go.Proofs.Ytmpmjkbjnklgfaa
open Go.RowKit Go.Sort
set_option linter.unusedVariables false
attribute [local go_sem] Oper.semAt_some
attribute [local simp] wide_fn wide_depth
attribute [local go_sem] wide_fn wide_depth

/-- A slice of bytes: what it reads. -/
def Bys (w : World) (a : Option Addr) (len : Nat) (xs : List Int) : Prop := Sl1 (Value.int .u8) w a len xs ∧ ∀ x ∈ xs, 0 ≤ x ∧ x ≤ 255
theorem Bys.below {w w' : World} {a : Option Addr} {len : Nat} {xs : List Int} (h : Bys w a len xs) (hb : Below w.heap.size w w') : Bys w' a len xs := ⟨h.1.below hb, h.2⟩
theorem Bys.len {w : World} {a : Option Addr} {len : Nat} {xs : List Int} (h : Bys w a len xs) : xs.length = len := h.1.1
theorem Bys.nil (w : World) (a : Option Addr) : Bys w a 0 [] := ⟨⟨rfl, .inl rfl⟩, by simp⟩
/-- what was there lies as it lay -/
abbrev kept (w W : World) : Prop := keepOn (fun k => k < w.heap.size) w W
theorem kept_cell {w W : World} (h : kept w W) {p : Addr} (hp : p.block < w.heap.size) : W.cell? p = w.cell? p := World.cell?_of_block (h _ hp)
theorem kept_below {w W : World} (h : Below w.heap.size w W) : kept w W := keepOn_of_below h fun _ h => h
theorem Sl1.kept {α : Type} {enc : α → Value} {w w' : World} {a : Option Addr} {len : Nat} {xs : List α} (h : Sl1 enc w a len xs) (hk : kept w w') (hs : w.heap.size ≤ w'.heap.size) : Sl1 enc w' a len xs := by
  obtain ⟨h1, h2 | ⟨b, off, e, hlt, hc⟩⟩ := h
  · exact ⟨h1, .inl h2⟩
  · exact ⟨h1, .inr ⟨b, off, e, Nat.lt_of_lt_of_le hlt hs, fun i x hx => (kept_cell hk (p := ⟨b, off + i, none⟩) hlt).trans (hc i x hx)⟩⟩

theorem pairs_any (a b : Option Addr) (la ca lb cb : Nat) (w : World) :
    Calls Try.prog 168 #[.slice a la ca, .slice b lb cb] w fun e w' => e = .returned (.func (.func 186) #[] #[.pointer (some ⟨w.heap.size, 0, none⟩), .pointer (some ⟨w.heap.size + 1, 0, none⟩)]) ∧
      w' = (w.alloc (.cells #[.slice a la ca] 40)).alloc (.cells #[.slice b lb cb] 40) := by
  go_enter Try.func168, Try.ntmps168
  go_wp2
  go_ret
  exact ⟨rfl, rfl⟩

abbrev By2 := { p : Int × Int // (0 ≤ p.1 ∧ p.1 ≤ 255) ∧ 0 ≤ p.2 ∧ p.2 ≤ 255 }
def by2Enc (p : By2) : Array Value := #[.int .u8 p.1.1, .int .u8 p.1.2]

set_option maxHeartbeats 1000000 in
theorem pairs_stops (a b : Option Addr) (la ca lb cb p1 p2 : Nat) (xs ys : List Int) (n : Nat) (w : World) (hA : Bys w a la xs) (hB : Bys w b lb ys) (hl : la = lb) (hla : la ≤ 1000000)
    (h1 : w.heap[p1]? = some (.cells #[.slice a la ca] 40 (0, 0))) (h2 : w.heap[p2]? = some (.cells #[.slice b lb cb] 40 (0, 0))) :
    SeqStopsK Fence.wide n Try.prog 186 #[.pointer (some ⟨p1, 0, none⟩), .pointer (some ⟨p2, 0, none⟩)] by2Enc (keepOn (fun k => k < w.heap.size)) (fun zs => zs.map Subtype.val = xs.zip ys) (fun pre => ∃ k, pre.map Subtype.val = (xs.zip ys).take k) 1000001 w := by
  intro l J Jx W hW hJ hJx hY h0
  have hkW : kept w W := kept_below hW
  have hp1 : p1 < w.heap.size := (Array.getElem?_eq_some_iff.1 h1).1
  have hp2 : p2 < w.heap.size := (Array.getElem?_eq_some_iff.1 h2).1
  have cells : ∀ v : World, kept w v → v.cell? ⟨p1, 0, none⟩ = some (.slice a la ca) ∧ v.cell? ⟨p2, 0, none⟩ = some (.slice b lb cb) := by
    intro v hv
    rw [kept_cell hv hp1, kept_cell hv hp2]
    simp [World.cell?, h1, h2]
  obtain ⟨hxl, hxm⟩ := hA.1
  obtain ⟨hyl, hym⟩ := hB.1
  have HX := Lib.hid hA.2
  have HY := Lib.hid hB.2
  have HL := Lib.hid hl
  have HXL := Lib.hid hxl
  have HYL := Lib.hid hyl
  clear hA hB hl hxl hyl
  obtain ⟨c1, c2⟩ := cells W hkW
  refine callsIn_of_wp Try.func186 rfl trivial ?_ rfl
  simp only [Try.ntmps186, List.size_toArray, List.length_cons, List.length_nil, Nat.reduceAdd, Nat.reduceSub, Array.replicate_succ, Array.replicate_zero, List.push_toArray, List.append_toArray, List.nil_append, List.cons_append]
  gi_wp2
  clear c1 c2
  gi_loopw [8] (fun i wr => ∃ (k : Nat) (pre : List By2), k ≤ la ∧ i = .int .i64 k ∧ pre.map Subtype.val = (xs.zip ys).take k ∧ J pre wr ∧ kept w wr) (fun i _ => la - (intOf i).toNat)
  case atStart => exact ⟨0, [], Nat.zero_le _, rfl, by simp, h0, hkW⟩
  case round =>
    obtain ⟨k, pre, hk, rfl, hpre, hj, hkr⟩ := hrel
    have HP := Lib.hid hpre
    clear hpre
    by_cases hlt : k < la
    · obtain ⟨x, hx⟩ : ∃ x, xs[k]? = some x := ⟨xs[k]'(by rw [HXL.out]; exact hlt), by simp⟩
      obtain ⟨y, hy⟩ : ∃ y, ys[k]? = some y := ⟨ys[k]'(by rw [HYL.out, ← HL.out]; exact hlt), by simp⟩
      obtain ⟨ba, oa, rfl, hba, hxc⟩ := hxm.resolve_left (by omega)
      obtain ⟨bb, ob, rfl, hbb, hyc⟩ := hym.resolve_left (by have := HL.out; omega)
      obtain ⟨c1, c2⟩ := cells wr hkr
      have cx : wr.cell? ⟨ba, oa + k, none⟩ = some (.int .u8 x) := (kept_cell hkr (p := ⟨ba, oa + k, none⟩) hba).trans (hxc k x hx)
      have cy : wr.cell? ⟨bb, ob + k, none⟩ = some (.int .u8 y) := (kept_cell hkr (p := ⟨bb, ob + k, none⟩) hbb).trans (hyc k y hy)
      have hbx := HX.out x (List.mem_of_getElem? hx)
      have hby := HY.out y (List.mem_of_getElem? hy)
      have hlen : pre.length ≤ k := by have := congrArg List.length HP.out; simp at this; omega
      have hltb : (k : Int) < lb := by have := HL.out; omega
      obtain ⟨fn, tmps, assign, body, hyl, hRo⟩ := hY pre ⟨(x, y), hbx, hby⟩ wr hj (by omega)
      have HS : Hid ((pre ++ [(⟨(x, y), hbx, hby⟩ : By2)]).map Subtype.val = (xs.zip ys).take (k + 1)) := by
        have hz : (xs.zip ys)[k]? = some (x, y) := by rw [List.getElem?_zip_eq_some]; exact ⟨hx, hy⟩
        rw [take_step hz, ← HP.out]
        simp [Hid]
      dsimp only [by2Enc] at hyl
      clear hx hy hxc hyc hxm hym
      gi_wp2
      refine hRo.mono ?_
      rintro e W4 (⟨rfl, hJ4, hk4⟩ | ⟨rfl, hJx4⟩)
      · gi_wp2
        go_roundw
        case rel => exact ⟨k + 1, _, by omega, by go_num, HS.out, hJ4, keepOn_t hkr hk4⟩
        case measure => simp [intOf]; omega
      · gi_wp2
        refine bodyPost_ret (results_none rfl _ _ _) rfl ?_
        exact ⟨⟨_, rfl⟩, .inr ⟨_, ⟨k + 1, HS.out⟩, hJx4⟩⟩
    · obtain rfl : k = la := by omega
      gi_wp2
      go_end0
      refine ⟨⟨_, rfl⟩, .inl ⟨pre, ?_, hj⟩⟩
      show pre.map Subtype.val = xs.zip ys
      rw [HP.out, List.take_of_length_le (by simp; have := HXL.out; omega)]

end Go.Proofs.Ytmpmjkbjnklgfaa

/- Texts that are the same (layer 3), walked. -/

namespace Go.Proofs.Ytmpmjkbjnklgfaa
open Go.RowKit Go.Sort
set_option linter.unusedVariables false
attribute [local go_sem] Oper.semAt_some
attribute [local simp] wide_fn wide_depth
attribute [local go_sem] wide_fn wide_depth
attribute [local go_sem] run_store_fn

theorem samefn_any (fold : Bool) (x y : Int) (w : World) (hx : 0 ≤ x ∧ x ≤ 255) (hy : 0 ≤ y ∧ y ≤ 255) :
    Calls Try.prog (cmpFn fold) #[.agg #[], .int .u8 x, .int .u8 y] w fun e w' => e = .returned (.bool (sameI fold x y)) ∧ Below w.heap.size w w' := by
  cases fold
  · exact exact_any x y w
  · exact folded_any x y w hx.1 hx.2 hy.1 hy.2

theorem results_bool {fn : Func} {p : Tmp} {tmps : Array Value} {W : World} {B : Nat} {t : TypeId} {b : Bool} (h : fn.results = #[.cell p 4]) (hp : tmps.getD p undef = .pointer (some ⟨B, 0, none⟩)) (hB : Boxed W B t (.bool b)) :
    (results fn tmps).run Try.prog W = .ok (.bool b) W := by
  have hp' : tmps[p]?.getD undef = .pointer (some ⟨B, 0, none⟩) := by simpa using hp
  have hc := hB.cell
  simp [results, h, hp', asAddr, hc, go_sem, loadVar]

theorem cmpFn_enters (fold : Bool) (args : Array Value) (w : World) : Sem.run Try.prog (callFunc (cmpFn fold) args) w = .ok (.enter (cmpFn fold) args) w := by
  cases fold
  · exact enters_of Try.func185 (by kernel_rfl) rfl args w
  · exact enters_of Try.func184 (by kernel_rfl) rfl args w
theorem own_size {β : Type} (B n : Nat) : OwnFrom B (fun (_ : β) W => n ≤ W.heap.size) := fun s A C row hs hg hr => Nat.le_trans hs hg.size
theorem own_pure {β : Type} (B : Nat) (p : β → Prop) : OwnFrom B (fun s (_ : World) => p s) := fun s A C row hs hg hr => hs

set_option maxRecDepth 100000 in
set_option maxHeartbeats 4000000 in
theorem same_any (fold : Bool) (a b : Option Addr) (la ca lb cb : Nat) (xs ys : List Int) (w : World) (hA : Bys w a la xs) (hB : Bys w b lb ys) (hla : la ≤ 1000000) :
    Calls Try.prog 149 #[.bool fold, .slice a la ca, .slice b lb cb] w fun e w' => e = .returned (.bool (sameL fold xs ys)) ∧ Below w.heap.size w w' := by
  refine calls_of_wp_M Try.func149 rfl ?_
  simp only [Try.ntmps149, List.size_toArray, List.length_cons, List.length_nil, Nat.reduceAdd, Nat.reduceSub, Array.replicate_succ, Array.replicate_zero, List.push_toArray, List.append_toArray, List.nil_append, List.cons_append]
  have hA0 := hA
  have hB0 := hB
  by_cases hl : la = lb
  · subst hl
    go_wp2_with fail
    refine (by_any fold _).mono ?_
    rintro e w1 ⟨rfl, hb⟩
    have hB1 : Below w.heap.size w w1 := ((Below.refl _ _).alloc (Nat.le_refl _) _).trans (hb.mono (by simp))
    have bR : Boxed w1 w.heap.size 4 (.bool false) := (hb.block _ (by simp)).trans (Boxed.new w 4 (.bool false))
    have hs1 : w.heap.size < w1.heap.size := bR.lt
    go_wp2_with (go_at_call 168; refine (pairs_any _ _ _ _ _ _ _).mono ?_; rintro e w' ⟨rfl, rfl⟩)
    have bF : Boxed (((w1.alloc (.cells #[.func (.func (cmpFn fold)) #[.agg #[]] #[]] 192)).alloc (.cells #[.slice a la ca] 40)).alloc (.cells #[.slice b la cb] 40)) w1.heap.size 192 (.func (.func (cmpFn fold)) #[.agg #[]] #[]) :=
      ((Boxed.new w1 _ _).alloc _).alloc _
    have bA : (((w1.alloc (.cells #[.func (.func (cmpFn fold)) #[.agg #[]] #[]] 192)).alloc (.cells #[.slice a la ca] 40)).alloc (.cells #[.slice b la cb] 40)).heap[w1.heap.size + 1]? = some (.cells #[.slice a la ca] 40 (0, 0)) := by
      have := (Boxed.new (w1.alloc (.cells #[.func (.func (cmpFn fold)) #[.agg #[]] #[]] 192)) 40 (.slice a la ca)).alloc (.cells #[.slice b la cb] 40)
      rwa [World.size_alloc] at this
    have bB : (((w1.alloc (.cells #[.func (.func (cmpFn fold)) #[.agg #[]] #[]] 192)).alloc (.cells #[.slice a la ca] 40)).alloc (.cells #[.slice b la cb] 40)).heap[w1.heap.size + 1 + 1]? = some (.cells #[.slice b la cb] 40 (0, 0)) := by
      have := (Boxed.new ((w1.alloc (.cells #[.func (.func (cmpFn fold)) #[.agg #[]] #[]] 192)).alloc (.cells #[.slice a la ca] 40)) 40 (.slice b la cb))
      rwa [World.size_alloc, World.size_alloc] at this
    have bR3 := ((bR.alloc (.cells #[.func (.func (cmpFn fold)) #[.agg #[]] #[]] 192)).alloc (.cells #[.slice a la ca] 40)).alloc (.cells #[.slice b la cb] 40)
    have hB3 := ((hB1.alloc (Nat.le_of_lt hs1) (.cells #[.func (.func (cmpFn fold)) #[.agg #[]] #[]] 192)).alloc (by simp; omega) (.cells #[.slice a la ca] 40)).alloc (by simp; omega) (.cells #[.slice b la cb] 40)
    have hs3 : (((w1.alloc (.cells #[.func (.func (cmpFn fold)) #[.agg #[]] #[]] 192)).alloc (.cells #[.slice a la ca] 40)).alloc (.cells #[.slice b la cb] 40)).heap.size = w1.heap.size + 3 := by simp
    generalize (((w1.alloc (.cells #[.func (.func (cmpFn fold)) #[.agg #[]] #[]] 192)).alloc (.cells #[.slice a la ca] 40)).alloc (.cells #[.slice b la cb] 40)) = w3 at *
    have hA3 := hA.below hB3
    have hB3' := hB.below hB3
    apply rangeF rfl (enters_of Try.func186 (by kernel_rfl) rfl) (pairs_stops a b la ca la cb (w1.heap.size + 1) (w1.heap.size + 1 + 1) xs ys 8 w3 hA3 hB3' rfl hla bA bB) keepOn_t (keepOn_b fun _ h => h) (fun _ => rfl)
      (fun pre W => Boxed W w1.heap.size 192 (.func (.func (cmpFn fold)) #[.agg #[]] #[]) ∧ Boxed W w.heap.size 4 (.bool false) ∧ Below w.heap.size w W ∧ w3.heap.size ≤ W.heap.size ∧ ∀ p ∈ pre.map Subtype.val, sameI fold p.1 p.2 = true)
      (fun c pre W => Boxed W w.heap.size 4 (.bool false) ∧ Below w.heap.size w W ∧ c = .ret ∧ ∃ p ∈ pre.map Subtype.val, sameI fold p.1 p.2 = false)
    case hI => exact OwnFrom.and (Own.from (boxed_own _ _ _) _) (OwnFrom.and (Own.from (boxed_own _ _ _) _) (OwnFrom.and (ownFrom_below (Nat.le_refl _) (by omega)) (OwnFrom.and (own_size _ _) (own_pure _ _))))
    case hIx => exact fun c => OwnFrom.and (Own.from (boxed_own _ _ _) _) (OwnFrom.and (ownFrom_below (Nat.le_refl _) (by omega)) (own_pure _ _))
    case h0 => exact ⟨bF, bR3, hB3, Nat.le_refl _, by simp⟩
    case hassign =>
      intro l x W K hK
      unfold by2Enc
      gi_wp2
      exact hK
    case hbody =>
      rintro l pre ⟨⟨x, y⟩, hx, hy⟩ W ⟨hF, hR, hB, hs, hall⟩ hlen
      have hc := hF.cell
      have hc2 := hR.cell
      have hf2 := hR.frozen
      dsimp only at hx hy ⊢
      have HALL := Lib.hid hall
      clear hall
      have he := cmpFn_enters fold
      gi_wp2_with fail
      refine (callsIn_wide.2 (samefn_any fold x y W hx hy)).mono ?_
      rintro e W4 ⟨rfl, hb4⟩
      have hR4 : Boxed W4 w.heap.size 4 (.bool false) := (hb4.block _ hR.lt).trans hR
      have hF4 : Boxed W4 w1.heap.size 192 (.func (.func (cmpFn fold)) #[.agg #[]] #[]) := (hb4.block _ hF.lt).trans hF
      have hc4 := hR4.cell
      have hf4 := hR4.frozen
      have hs4 : w3.heap.size ≤ W4.heap.size := Nat.le_trans hs hb4.size
      have hB4 : Below w.heap.size w W4 := hB.trans (hb4.mono hB.size)
      cases e : sameI fold x y with
      | true =>
        gi_wp2
        refine ⟨keepsFrom_of_below hb4, keepOn_of_below hb4 (fun k hk => by omega), hF4, hR4, hB4, hs4, ?_⟩
        rw [List.map_append]
        intro p hp
        rcases List.mem_append.1 hp with hp | hp
        · exact HALL.out p hp
        · simp at hp; rw [hp]; exact e
      | false =>
        gi_wp2
        have kO := (KeepsOthers.setCell W4 ⟨w.heap.size, 0, none⟩ (.bool false)).from w3.heap.size
        exact ⟨(keepsFrom_of_below hb4).trans kO, hR4.set _, hB4.setCell (Nat.le_refl _) _, rfl, (x, y), by simp, e⟩
    case hdone =>
      rintro D zs W hD hS ⟨hF, hR, hB, hs, hall⟩ hK
      have hK' : (W.setCell ⟨w.heap.size, 0, none⟩ (.bool true)).heap[D]? = some (.deferred (some [])) := (Below.heap_setCell W ⟨w.heap.size, 0, none⟩ _ _ (by simp; omega)).trans hK
      have hc2 := hR.cell
      have hf2 := hR.frozen
      go_wp2
      have bT : Boxed ((W.setCell ⟨w.heap.size, 0, none⟩ (.bool true)).putObj D (.deferred none)) w.heap.size 4 (.bool true) := (World.putObj_heap_other (by omega)).trans (hR.set _)
      refine endM rfl hK' (results_bool rfl rfl bT) ⟨?_, put_below (hB.setCell (Nat.le_refl _) _) (by omega) (Nat.le_refl _) _⟩
      rw [(sameL_zip (by rw [hA0.len, hB0.len])).2 (by rw [← hS]; exact hall)]
    case hstop =>
      rintro D c pre W hD hS ⟨hR, hB, rfl, hex⟩ hK
      go_wp2
      have bT : Boxed (W.putObj D (.deferred none)) w.heap.size 4 (.bool false) := (World.putObj_heap_other (by omega)).trans hR
      refine endM rfl hK (results_bool rfl rfl bT) ⟨?_, put_below hB (by omega) (Nat.le_refl _) _⟩
      obtain ⟨p, hp, hpf⟩ := hex
      cases e : sameL fold xs ys with
      | false => rfl
      | true =>
        exfalso
        have := (sameL_zip (by rw [hA0.len, hB0.len])).1 e p (by obtain ⟨k, hk⟩ := hS; rw [hk] at hp; exact List.mem_of_mem_take hp)
        rw [this] at hpf
        cases hpf
  · have hE : sameL fold xs ys = false := sameL_ne (by rw [hA.len, hB.len]; exact hl)
    have hne : ((la : Int) != (lb : Int)) = true := by simp; omega
    go_wp2
    refine endN rfl (results_bool rfl rfl (Boxed.new w 4 _)) ⟨by rw [hE], (Below.refl _ _).alloc (Nat.le_refl _) _⟩

end Go.Proofs.Ytmpmjkbjnklgfaa

/- Where texts stand, which of them (layer 3), walked. -/

namespace Go.Proofs.Ytmpmjkbjnklgfaa
open Go.RowKit Go.Sort
set_option linter.unusedVariables false

theorem add_plain (b off i : Nat) : (⟨b, off, none⟩ : Addr).add i = ⟨b, off + i, none⟩ := by
  unfold Addr.add
  split <;> simp_all
theorem Sl1.cut {α : Type} {enc : α → Value} {w : World} {a : Option Addr} {n : Nat} {xs : List α} (h : Sl1 enc w a n xs) {lo m : Nat} (hm : lo + m ≤ n) :
    Sl1 enc w (a.map (·.add lo)) m ((xs.drop lo).take m) := by
  obtain ⟨h1, h2⟩ := h
  refine ⟨by simp; omega, ?_⟩
  by_cases h0 : m = 0
  · exact .inl h0
  · right
    obtain ⟨b, off, rfl, hlt, hcell⟩ := h2.resolve_left (by omega)
    refine ⟨b, off + lo, by simp [add_plain], hlt, fun i x hx => ?_⟩
    rw [List.getElem?_take] at hx
    split at hx
    · rw [List.getElem?_drop] at hx
      rw [Nat.add_assoc]
      exact hcell _ x hx
    · cases hx
theorem Sl1.cut0 {α : Type} {enc : α → Value} {w : World} {a : Option Addr} {xs : List α} {lo m : Nat} (hm : m = 0) : Sl1 enc w a m ((xs.drop lo).take m) := ⟨by simp; omega, .inl hm⟩
theorem Bys.cut {w : World} {a : Option Addr} {n : Nat} {xs : List Int} (h : Bys w a n xs) {lo m : Nat} (hm : lo + m ≤ n) : Bys w (a.map (·.add lo)) m ((xs.drop lo).take m) :=
  ⟨h.1.cut hm, fun x hx => h.2 x (List.mem_of_mem_drop (List.mem_of_mem_take hx))⟩
theorem Bys.cut0 {w : World} {a a' : Option Addr} {n : Nat} {xs : List Int} (h : Bys w a n xs) {lo m : Nat} (hm : m = 0) : Bys w a' m ((xs.drop lo).take m) :=
  ⟨Sl1.cut0 hm, fun x hx => h.2 x (List.mem_of_mem_drop (List.mem_of_mem_take hx))⟩

set_option maxHeartbeats 1000000 in
theorem at_any (fold : Bool) (a b : Option Addr) (la ca lb cb : Nat) (place : Int) (xs ys : List Int) (w : World) (hA : Bys w a la xs) (hB : Bys w b lb ys) (hca : la ≤ ca) (hla : la ≤ 1000000) (hp : -9223372036854775808 ≤ place ∧ place ≤ 9223372036854775807) :
    Calls Try.prog 112 #[.bool fold, .slice a la ca, .int .i64 place, .slice b lb cb] w fun e w' => e = .returned (.bool (atL fold xs place ys)) ∧ Below w.heap.size w w' := by
  have hxl := hA.len
  have hyl := hB.len
  by_cases h1 : (lb : Int) ≤ place
  · by_cases h2 : place ≤ (la : Int)
    · obtain ⟨p, rfl⟩ : ∃ p : Nat, place = p := ⟨place.toNat, by omega⟩
      have HE : Hid (atL fold xs p ys = sameL fold ((xs.drop (p - lb)).take (p - (p - lb))) ys) := by
        unfold Hid atL
        rw [hxl, hyl, decide_eq_true ⟨h1, h2⟩, Bool.true_and, Int.toNat_natCast, show p - (p - lb) = lb by omega]
      clear hxl hyl
      go_enter Try.func112, Try.ntmps112
      go_wp2_with fail
      · refine (same_any fold _ b _ _ lb cb _ ys w (hA.cut0 (lo := p - lb) (m := p - (p - lb)) (by omega)) hB (by omega)).mono ?_
        rintro e w1 ⟨rfl, hb⟩
        go_wp2
        go_ret
        exact ⟨by rw [HE.out]; rfl, hb⟩
      · refine (same_any fold _ b _ _ lb cb _ ys w (hA.cut (lo := p - lb) (m := p - (p - lb)) (by omega)) hB (by omega)).mono ?_
        rintro e w1 ⟨rfl, hb⟩
        go_wp2
        go_ret
        exact ⟨by rw [HE.out]; rfl, hb⟩
    · have HE : Hid (atL fold xs place ys = false) := by
        unfold Hid atL
        rw [hxl, hyl, decide_eq_false (by omega), Bool.false_and]
      clear hxl hyl
      go_enter Try.func112, Try.ntmps112
      go_wp2
      go_ret
      exact ⟨by rw [HE.out]; rfl, Below.refl _ _⟩
  · have HE : Hid (atL fold xs place ys = false) := by
      unfold Hid atL
      rw [hxl, hyl, decide_eq_false (by omega), Bool.false_and]
    clear hxl hyl
    go_enter Try.func112, Try.ntmps112
    go_wp2
    go_ret
    exact ⟨by rw [HE.out]; rfl, Below.refl _ _⟩

/-- A slice of texts: what it reads. -/
def Wds (w : World) (a : Option Addr) (len : Nat) (wss : List (List Int)) : Prop :=
  ∃ vs : List (Option Addr × Nat × Nat), Sl1 (fun v => Value.slice v.1 v.2.1 v.2.2) w a len vs ∧ vs.length = wss.length ∧ ∀ (i : Nat) (v : Option Addr × Nat × Nat) (xs : List Int), vs[i]? = some v → wss[i]? = some xs → Bys w v.1 v.2.1 xs ∧ v.2.1 ≤ v.2.2
theorem Wds.below {w w' : World} {a : Option Addr} {len : Nat} {wss : List (List Int)} (h : Wds w a len wss) (hb : Below w.heap.size w w') : Wds w' a len wss := by
  obtain ⟨vs, h1, h2, h3⟩ := h
  exact ⟨vs, h1.below hb, h2, fun i v xs hv hx => ⟨(h3 i v xs hv hx).1.below hb, (h3 i v xs hv hx).2⟩⟩
theorem Wds.len {w : World} {a : Option Addr} {len : Nat} {wss : List (List Int)} (h : Wds w a len wss) : wss.length = len := by
  obtain ⟨vs, h1, h2, h3⟩ := h
  rw [← h2, h1.1]
theorem Wds.at_ {w : World} {a : Option Addr} {len : Nat} {wss : List (List Int)} (h : Wds w a len wss) {k : Nat} (hk : k < len) :
    ∃ b off a' l c xs, a = some ⟨b, off, none⟩ ∧ b < w.heap.size ∧ w.cell? ⟨b, off + k, none⟩ = some (.slice a' l c) ∧ wss[k]? = some xs ∧ Bys w a' l xs ∧ l ≤ c := by
  have hl := h.len
  obtain ⟨vs, ⟨h0, h1⟩, h2, h3⟩ := h
  obtain ⟨b, off, rfl, hlt, hc⟩ := h1.resolve_left (by omega)
  obtain ⟨v, hv⟩ : ∃ v, vs[k]? = some v := ⟨vs[k]'(by omega), by simp⟩
  obtain ⟨x, hx⟩ : ∃ v, wss[k]? = some v := ⟨wss[k]'(by omega), by simp⟩
  exact ⟨b, off, v.1, v.2.1, v.2.2, x, rfl, hlt, hc k v hv, hx, h3 k v x hv hx⟩
theorem mem_bd {wss : List (List Int)} {M : Nat} (h : ∀ x ∈ wss, x.length ≤ M) {k : Nat} {x : List Int} (hx : wss[k]? = some x) : x.length ≤ M := h x (List.mem_of_getElem? hx)

set_option maxHeartbeats 1000000 in
theorem which_any (fold : Bool) (a b : Option Addr) (la ca lb cb : Nat) (xs : List Int) (wss : List (List Int)) (w : World) (hA : Bys w a la xs) (hB : Wds w b lb wss) (hlb : lb ≤ 1000000) (hM : ∀ x ∈ wss, x.length ≤ 1000000) :
    Calls Try.prog 171 #[.bool fold, .slice a la ca, .slice b lb cb] w fun e w' => e = .returned (.int .i64 (whichL fold xs wss)) ∧ Below w.heap.size w w' := by
  have HL := Lib.hid hB.len
  go_enter Try.func171, Try.ntmps171
  go_wp2
  go_loopw [11] (fun i wr => ∃ k : Nat, k ≤ lb ∧ i = .int .i64 k ∧ Hid (whichL fold xs (wss.take k) = -1) ∧ Below w.heap.size w wr) (fun i _ => lb - (intOf i).toNat)
  case atStart => exact ⟨0, Nat.zero_le _, rfl, by simp [Hid, whichL_nil], Below.refl _ _⟩
  case round =>
    obtain ⟨k, hk, rfl, HK, hBe⟩ := hrel
    have hAr := hA.below hBe
    have hBr := hB.below hBe
    by_cases hlt : k < lb
    · obtain ⟨bb, off, a', l, c, x, rfl, hbl, hcell, hx, hX, hlc⟩ := hBr.at_ hlt
      have hxl : l ≤ 1000000 := by have := mem_bd hM hx; rw [hX.len] at this; exact this
      go_wp2_with fail
      refine (same_any fold a' a l c la ca x xs wr hX hAr hxl).mono ?_
      rintro e w1 ⟨rfl, hb⟩
      have hB1 : Below w.heap.size w w1 := hBe.trans (hb.mono hBe.size)
      cases e : sameL fold x xs with
      | true =>
        have HH : Hid (whichL fold xs wss = k) := by
          have h := whichL_hit (rest := wss.drop (k + 1)) HK (by rw [sameL_comm]; exact e)
          rw [← split_at hx] at h
          rw [Hid, h, List.length_take, HL.out]
          omega
        go_wp2
        go_ret
        exact ⟨by rw [HH.out]; rfl, hB1⟩
      | false =>
        have HH : Hid (whichL fold xs (wss.take (k + 1)) = -1) := by
          rw [take_step hx]
          exact whichL_snoc_no HK (by rw [sameL_comm]; exact e)
        go_wp2
        go_roundw
        case rel => exact ⟨k + 1, by omega, by go_num, HH, hB1⟩
        case measure => simp [intOf]; omega
    · obtain rfl : k = lb := by omega
      have HH : Hid (whichL fold xs wss = -1) := by
        have h := HK
        rwa [List.take_of_length_le (by rw [HL.out]; exact Nat.le_refl _)] at h
      go_wp2
      go_ret
      exact ⟨by rw [HH.out]; rfl, hBe⟩

end Go.Proofs.Ytmpmjkbjnklgfaa
