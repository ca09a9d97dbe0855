/- The document's functions of layer 3: texts that are the same, where they stand, which of them. -/
import Derived.Test.YtmpmjkbjnklgfaaL5
import Derived.Laws.BytesArg
import Derived.Deep.RegionHeld3
import Derived.Deep.RegionWith
namespace Go.Proofs.Ytmpmjkbjnklgfaa
open Go.RowKit Go.Sort
set_option linter.unusedVariables false

theorem strOfNums_inj {xs ys : List Int} (hx : ∀ x ∈ xs, 0 ≤ x ∧ x ≤ 255) (hy : ∀ x ∈ ys, 0 ≤ x ∧ x ≤ 255) (h1 : (strOfNums xs).data.toList = (strOfNums ys).data.toList) : xs = ys := by
  simp only [strOfNums_data] at h1
  have h2 := congrArg (List.map fun b : UInt8 => (b.toNat : Int)) h1
  simp only [List.map_map] at h2
  have f : ∀ l : List Int, (∀ x ∈ l, 0 ≤ x ∧ x ≤ 255) → l.map ((fun b : UInt8 => (b.toNat : Int)) ∘ fun n => UInt8.ofNat n.toNat) = l := by
    intro l hl
    conv => rhs; rw [← List.map_id l]
    refine List.map_congr_left fun x hxl => ?_
    have := hl x hxl
    simp
    omega
  rwa [f xs hx, f ys hy] at h2
theorem conv_bys {w : World} {a : Option Addr} {len : Nat} {xs : List Int} (h : Bys w a len xs) (cap : Nat) :
    Sem.run Try.prog (convert 40 9 (.slice a len cap)) w = .ok (.string (strOfNums xs)) w := by
  obtain ⟨⟨h1, h2⟩, hb⟩ := h
  by_cases h0 : len = 0
  · subst h0
    have hx : xs = [] := List.eq_nil_of_length_eq_zero h1
    subst hx
    cases a with
    | none => exact run_convert_bytes_nil w _ _ Try.underlying40 Try.underlying5 0 cap _ Try.underlying9
    | some ad =>
      rw [run_convert_bytes_string w 40 9 _ _ 0 cap Try.underlying40 Try.underlying5 Try.underlying9]
      have hl : (loadCells ad 0).run Try.prog w = .ok (([] : List Int).map (Value.int .u8)).toArray w := by
        simpa using run_loadCells_list (P := Try.prog) w ad [] (fun j v hj => by simp at hj)
      rw [run_bytesToString w ad 0 cap [] hl]
      rfl
  · obtain ⟨b, off, rfl, hlt, hc⟩ := h2.resolve_left h0
    refine run_convert_bytes_arg w _ _ Try.underlying40 Try.underlying5 b off len cap xs h1 (fun i hi => ?_) _ Try.underlying9
    rw [hc i (xs[i]'(by omega)) (List.getElem?_eq_getElem _)]
    simp [List.getD, List.getElem?_eq_getElem (show i < xs.length by omega)]

theorem str_beq {xs ys : List Int} (hx : ∀ x ∈ xs, 0 ≤ x ∧ x ≤ 255) (hy : ∀ x ∈ ys, 0 ≤ x ∧ x ≤ 255) : ((strOfNums xs).toList == (strOfNums ys).toList) = decide (xs = ys) := by
  by_cases h : xs = ys
  · subst h; simp
  · have : (strOfNums xs).toList ≠ (strOfNums ys).toList := fun e => h (strOfNums_inj hx hy (by rwa [ByteArray.toList_eq, ByteArray.toList_eq] at e))
    simp [h, this]

theorem rfolded_c (a : Option Addr) (la ca : Nat) (xs : List Int) (w : World) (hA : Bys w a la xs) (hla : la ≤ 1000000) :
    Calls Try.prog 115 #[.slice a la ca] w fun e w' => ∃ a1 c1, e = .returned (.slice a1 la c1) ∧ Bys w' a1 la (xs.map foldI) ∧ Below w.heap.size w w' :=
  (rfolded_any a la ca xs w hA hla).mono fun e w' ⟨v, he, hown, hb⟩ => by
    obtain ⟨a1, c1, rfl, _, h⟩ := own_bys hown (fun x hx => by obtain ⟨y, hy, rfl⟩ := List.mem_map.1 hx; exact foldI_bd (hA.2 y hy))
    exact ⟨a1, c1, he, h, hb⟩

set_option maxRecDepth 100000 in
set_option maxHeartbeats 300000 in
theorem rsame_any (fold : Bool) (a b : Option Addr) (la ca lb cb : Nat) (xs ys : List Int) (w : World) (hA : Bys w a la xs) (hB : Bys w b lb ys) (hla : la ≤ 1000000) (hlb : lb ≤ 1000000) :
    Calls Try.prog 79 #[.bool fold, .slice a la ca, .slice b lb cb] w fun e w' => e = .returned (.bool (sameL fold xs ys)) ∧ Below w.heap.size w w' := by
  cases fold
  · have c1 := conv_bys hA
    have c2 := conv_bys hB
    go_enter Try.func79, Try.ntmps79
    go_wp2
    go_ret
    exact ⟨by simp [sameL, foldL, str_beq hA.2 hB.2], Below.refl _ _⟩
  · have hAd : Bys w.drew a la xs := hA
    have hBd : Bys w.drew b lb ys := hB
    go_enter Try.func79, Try.ntmps79
    go_wp2
    go_region_with (first
      | (go_at_call 115; refine (rfolded_c a la ca xs w.drew hAd hla).mono ?_; rintro e w1 ⟨a1, c1, rfl, h12, hb1⟩; have cv0 := conv_bys h12; have hB1 := hBd.below hb1; clear hAd)
      | (go_at_call 115; refine (rfolded_c b lb cb ys w1 hB1 hlb).mono ?_; rintro e w2 ⟨a2, c2, rfl, h22, hb2⟩; have cv1 := conv_bys (h12.below hb2); have cv2 := conv_bys h22))
    all_goals
      go_wp2
      go_ret
      have hx : ∀ x ∈ xs.map foldI, 0 ≤ x ∧ x ≤ 255 := fun x hx => by obtain ⟨y, hy, rfl⟩ := List.mem_map.1 hx; exact foldI_bd (hA.2 y hy)
      have hy : ∀ x ∈ ys.map foldI, 0 ≤ x ∧ x ≤ 255 := fun x hx => by obtain ⟨y, hy, rfl⟩ := List.mem_map.1 hx; exact foldI_bd (hB.2 y hy)
      have hbd : Below w.heap.size w w.drew := ⟨rfl, rfl, rfl, Nat.le_refl _, fun _ _ => rfl⟩
      have hbe : Below w.heap.size w w2 := hbd.trans (hb1.trans (hb2.mono hb1.size))
      refine ⟨?_, hbe⟩
      show Ending.returned (.bool ((strOfNums (xs.map foldI)).toList == (strOfNums (ys.map foldI)).toList)) = _
      rw [str_beq hx hy]
      rfl

set_option maxHeartbeats 1000000 in
theorem rat_any (fold : Bool) (a b : Option Addr) (la ca lb cb : Nat) (place : Int) (xs ys : List Int) (w : World) (hA : Bys w a la xs) (hB : Bys w b lb ys) (hca : la ≤ ca) (hla : la ≤ 1000000) (hlb : lb ≤ 1000000) (hp : -9223372036854775808 ≤ place ∧ place ≤ 9223372036854775807) :
    Calls Try.prog 42 #[.bool fold, .slice a la ca, .int .i64 place, .slice b lb cb] w fun e w' => e = .returned (.bool (atL fold xs place ys)) ∧ Below w.heap.size w w' := by
  have hxl := hA.len
  have hyl := hB.len
  by_cases h1 : (lb : Int) ≤ place
  · by_cases h2 : place ≤ (la : Int)
    · obtain ⟨p, rfl⟩ : ∃ p : Nat, place = p := ⟨place.toNat, by omega⟩
      have HE : Hid (atL fold xs p ys = sameL fold ((xs.drop (p - lb)).take (p - (p - lb))) ys) := by
        unfold Hid atL
        rw [hxl, hyl, decide_eq_true ⟨h1, h2⟩, Bool.true_and, Int.toNat_natCast, show p - (p - lb) = lb by omega]
      clear hxl hyl
      go_enter Try.func42, Try.ntmps42
      go_wp2_with fail
      · refine (rsame_any fold _ b _ _ lb cb _ ys w (hA.cut0 (lo := p - lb) (m := p - (p - lb)) (by omega)) hB (by omega) hlb).mono ?_
        rintro e w1 ⟨rfl, hb⟩
        go_wp2
        go_ret
        exact ⟨by rw [HE.out]; rfl, hb⟩
      · refine (rsame_any fold _ b _ _ lb cb _ ys w (hA.cut (lo := p - lb) (m := p - (p - lb)) (by omega)) hB (by omega) hlb).mono ?_
        rintro e w1 ⟨rfl, hb⟩
        go_wp2
        go_ret
        exact ⟨by rw [HE.out]; rfl, hb⟩
    · have HE : Hid (atL fold xs place ys = false) := by
        unfold Hid atL
        rw [hxl, hyl, decide_eq_false (by omega), Bool.false_and]
      clear hxl hyl
      go_enter Try.func42, Try.ntmps42
      go_wp2
      go_ret
      exact ⟨by rw [HE.out]; rfl, Below.refl _ _⟩
  · have HE : Hid (atL fold xs place ys = false) := by
      unfold Hid atL
      rw [hxl, hyl, decide_eq_false (by omega), Bool.false_and]
    clear hxl hyl
    go_enter Try.func42, Try.ntmps42
    go_wp2
    go_ret
    exact ⟨by rw [HE.out]; rfl, Below.refl _ _⟩

set_option maxHeartbeats 1000000 in
theorem rwhich_any (fold : Bool) (a b : Option Addr) (la ca lb cb : Nat) (xs : List Int) (wss : List (List Int)) (w : World) (hA : Bys w a la xs) (hla : la ≤ 1000000) (hB : Wds w b lb wss) (hlb : lb ≤ 1000000) (hM : ∀ x ∈ wss, x.length ≤ 1000000) :
    Calls Try.prog 114 #[.bool fold, .slice a la ca, .slice b lb cb] w fun e w' => e = .returned (.int .i64 (whichL fold xs wss)) ∧ Below w.heap.size w w' := by
  have HL := Lib.hid hB.len
  go_enter Try.func114, Try.ntmps114
  go_wp2
  go_loopw [7] (fun i wr => ∃ k : Nat, k ≤ lb ∧ i = .int .i64 k ∧ Hid (whichL fold xs (wss.take k) = -1) ∧ Below w.heap.size w wr) (fun i _ => lb - (intOf i).toNat)
  case atStart => exact ⟨0, Nat.zero_le _, rfl, by simp [Hid, whichL_nil], Below.refl _ _⟩
  case round =>
    obtain ⟨k, hk, rfl, HK, hBe⟩ := hrel
    have hAr := hA.below hBe
    have hBr := hB.below hBe
    by_cases hlt : k < lb
    · obtain ⟨bb, off, a', l, c, x, rfl, hbl, hcell, hx, hX, hlc⟩ := hBr.at_ hlt
      have hxl : l ≤ 1000000 := by have := mem_bd hM hx; rw [hX.len] at this; exact this
      go_wp2_with fail
      refine (rsame_any fold a a' la ca l c xs x wr hAr hX hla hxl).mono ?_
      rintro e w1 ⟨rfl, hb⟩
      have hB1 : Below w.heap.size w w1 := hBe.trans (hb.mono hBe.size)
      cases e : sameL fold xs x with
      | true =>
        have HH : Hid (whichL fold xs wss = k) := by
          have h := whichL_hit (rest := wss.drop (k + 1)) HK e
          rw [← split_at hx] at h
          rw [Hid, h, List.length_take, HL.out]
          omega
        go_wp2
        go_ret
        exact ⟨by rw [HH.out]; rfl, hB1⟩
      | false =>
        have HH : Hid (whichL fold xs (wss.take (k + 1)) = -1) := by
          rw [take_step hx]
          exact whichL_snoc_no HK e
        go_wp2
        go_roundw
        case rel => exact ⟨k + 1, by omega, by go_num, HH, hB1⟩
        case measure => simp [intOf]; omega
    · obtain rfl : k = lb := by omega
      have HH : Hid (whichL fold xs wss = -1) := by
        have h := HK
        rwa [List.take_of_length_le (by rw [HL.out]; exact Nat.le_refl _)] at h
      go_wp2
      go_ret
      exact ⟨by rw [HH.out]; rfl, hBe⟩

end Go.Proofs.Ytmpmjkbjnklgfaa
