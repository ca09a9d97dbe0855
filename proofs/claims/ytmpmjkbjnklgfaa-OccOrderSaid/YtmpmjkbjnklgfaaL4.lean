/- Where texts stand, which of them (layer 3), walked. -/
import Derived.Test.YtmpmjkbjnklgfaaL3
namespace Go.Proofs.Ytmpmjkbjnklgfaa
open Go.RowKit Go.Sort
set_option linter.unusedVariables false

theorem add_plain (b off i : Nat) : (⟨b, off, none⟩ : Addr).add i = ⟨b, off + i, none⟩ := by
  unfold Addr.add
  split <;> simp_all
theorem Sl1.cut {α : Type} {enc : α → Value} {w : World} {a : Option Addr} {n : Nat} {xs : List α} (h : Sl1 enc w a n xs) {lo m : Nat} (hm : lo + m ≤ n) :
    Sl1 enc w (a.map (·.add lo)) m ((xs.drop lo).take m) := by
  obtain ⟨h1, h2⟩ := h
  refine ⟨by simp; omega, ?_⟩
  by_cases h0 : m = 0
  · exact .inl h0
  · right
    obtain ⟨b, off, rfl, hlt, hcell⟩ := h2.resolve_left (by omega)
    refine ⟨b, off + lo, by simp [add_plain], hlt, fun i x hx => ?_⟩
    rw [List.getElem?_take] at hx
    split at hx
    · rw [List.getElem?_drop] at hx
      rw [Nat.add_assoc]
      exact hcell _ x hx
    · cases hx
theorem Sl1.cut0 {α : Type} {enc : α → Value} {w : World} {a : Option Addr} {xs : List α} {lo m : Nat} (hm : m = 0) : Sl1 enc w a m ((xs.drop lo).take m) := ⟨by simp; omega, .inl hm⟩
theorem Bys.cut {w : World} {a : Option Addr} {n : Nat} {xs : List Int} (h : Bys w a n xs) {lo m : Nat} (hm : lo + m ≤ n) : Bys w (a.map (·.add lo)) m ((xs.drop lo).take m) :=
  ⟨h.1.cut hm, fun x hx => h.2 x (List.mem_of_mem_drop (List.mem_of_mem_take hx))⟩
theorem Bys.cut0 {w : World} {a a' : Option Addr} {n : Nat} {xs : List Int} (h : Bys w a n xs) {lo m : Nat} (hm : m = 0) : Bys w a' m ((xs.drop lo).take m) :=
  ⟨Sl1.cut0 hm, fun x hx => h.2 x (List.mem_of_mem_drop (List.mem_of_mem_take hx))⟩

set_option maxHeartbeats 1000000 in
theorem at_any (fold : Bool) (a b : Option Addr) (la ca lb cb : Nat) (place : Int) (xs ys : List Int) (w : World) (hA : Bys w a la xs) (hB : Bys w b lb ys) (hca : la ≤ ca) (hla : la ≤ 1000000) (hp : -9223372036854775808 ≤ place ∧ place ≤ 9223372036854775807) :
    Calls Try.prog 112 #[.bool fold, .slice a la ca, .int .i64 place, .slice b lb cb] w fun e w' => e = .returned (.bool (atL fold xs place ys)) ∧ Below w.heap.size w w' := by
  have hxl := hA.len
  have hyl := hB.len
  by_cases h1 : (lb : Int) ≤ place
  · by_cases h2 : place ≤ (la : Int)
    · obtain ⟨p, rfl⟩ : ∃ p : Nat, place = p := ⟨place.toNat, by omega⟩
      have HE : Hid (atL fold xs p ys = sameL fold ((xs.drop (p - lb)).take (p - (p - lb))) ys) := by
        unfold Hid atL
        rw [hxl, hyl, decide_eq_true ⟨h1, h2⟩, Bool.true_and, Int.toNat_natCast, show p - (p - lb) = lb by omega]
      clear hxl hyl
      go_enter Try.func112, Try.ntmps112
      go_wp2_with fail
      · refine (same_any fold _ b _ _ lb cb _ ys w (hA.cut0 (lo := p - lb) (m := p - (p - lb)) (by omega)) hB (by omega)).mono ?_
        rintro e w1 ⟨rfl, hb⟩
        go_wp2
        go_ret
        exact ⟨by rw [HE.out]; rfl, hb⟩
      · refine (same_any fold _ b _ _ lb cb _ ys w (hA.cut (lo := p - lb) (m := p - (p - lb)) (by omega)) hB (by omega)).mono ?_
        rintro e w1 ⟨rfl, hb⟩
        go_wp2
        go_ret
        exact ⟨by rw [HE.out]; rfl, hb⟩
    · have HE : Hid (atL fold xs place ys = false) := by
        unfold Hid atL
        rw [hxl, hyl, decide_eq_false (by omega), Bool.false_and]
      clear hxl hyl
      go_enter Try.func112, Try.ntmps112
      go_wp2
      go_ret
      exact ⟨by rw [HE.out]; rfl, Below.refl _ _⟩
  · have HE : Hid (atL fold xs place ys = false) := by
      unfold Hid atL
      rw [hxl, hyl, decide_eq_false (by omega), Bool.false_and]
    clear hxl hyl
    go_enter Try.func112, Try.ntmps112
    go_wp2
    go_ret
    exact ⟨by rw [HE.out]; rfl, Below.refl _ _⟩

/-- A slice of texts: what it reads. -/
def Wds (w : World) (a : Option Addr) (len : Nat) (wss : List (List Int)) : Prop :=
  ∃ vs : List (Option Addr × Nat × Nat), Sl1 (fun v => Value.slice v.1 v.2.1 v.2.2) w a len vs ∧ vs.length = wss.length ∧ ∀ (i : Nat) (v : Option Addr × Nat × Nat) (xs : List Int), vs[i]? = some v → wss[i]? = some xs → Bys w v.1 v.2.1 xs ∧ v.2.1 ≤ v.2.2
theorem Wds.below {w w' : World} {a : Option Addr} {len : Nat} {wss : List (List Int)} (h : Wds w a len wss) (hb : Below w.heap.size w w') : Wds w' a len wss := by
  obtain ⟨vs, h1, h2, h3⟩ := h
  exact ⟨vs, h1.below hb, h2, fun i v xs hv hx => ⟨(h3 i v xs hv hx).1.below hb, (h3 i v xs hv hx).2⟩⟩
theorem Wds.len {w : World} {a : Option Addr} {len : Nat} {wss : List (List Int)} (h : Wds w a len wss) : wss.length = len := by
  obtain ⟨vs, h1, h2, h3⟩ := h
  rw [← h2, h1.1]
theorem Wds.at_ {w : World} {a : Option Addr} {len : Nat} {wss : List (List Int)} (h : Wds w a len wss) {k : Nat} (hk : k < len) :
    ∃ b off a' l c xs, a = some ⟨b, off, none⟩ ∧ b < w.heap.size ∧ w.cell? ⟨b, off + k, none⟩ = some (.slice a' l c) ∧ wss[k]? = some xs ∧ Bys w a' l xs ∧ l ≤ c := by
  have hl := h.len
  obtain ⟨vs, ⟨h0, h1⟩, h2, h3⟩ := h
  obtain ⟨b, off, rfl, hlt, hc⟩ := h1.resolve_left (by omega)
  obtain ⟨v, hv⟩ : ∃ v, vs[k]? = some v := ⟨vs[k]'(by omega), by simp⟩
  obtain ⟨x, hx⟩ : ∃ v, wss[k]? = some v := ⟨wss[k]'(by omega), by simp⟩
  exact ⟨b, off, v.1, v.2.1, v.2.2, x, rfl, hlt, hc k v hv, hx, h3 k v x hv hx⟩
theorem mem_bd {wss : List (List Int)} {M : Nat} (h : ∀ x ∈ wss, x.length ≤ M) {k : Nat} {x : List Int} (hx : wss[k]? = some x) : x.length ≤ M := h x (List.mem_of_getElem? hx)

set_option maxHeartbeats 1000000 in
theorem which_any (fold : Bool) (a b : Option Addr) (la ca lb cb : Nat) (xs : List Int) (wss : List (List Int)) (w : World) (hA : Bys w a la xs) (hB : Wds w b lb wss) (hlb : lb ≤ 1000000) (hM : ∀ x ∈ wss, x.length ≤ 1000000) :
    Calls Try.prog 171 #[.bool fold, .slice a la ca, .slice b lb cb] w fun e w' => e = .returned (.int .i64 (whichL fold xs wss)) ∧ Below w.heap.size w w' := by
  have HL := Lib.hid hB.len
  go_enter Try.func171, Try.ntmps171
  go_wp2
  go_loopw [11] (fun i wr => ∃ k : Nat, k ≤ lb ∧ i = .int .i64 k ∧ Hid (whichL fold xs (wss.take k) = -1) ∧ Below w.heap.size w wr) (fun i _ => lb - (intOf i).toNat)
  case atStart => exact ⟨0, Nat.zero_le _, rfl, by simp [Hid, whichL_nil], Below.refl _ _⟩
  case round =>
    obtain ⟨k, hk, rfl, HK, hBe⟩ := hrel
    have hAr := hA.below hBe
    have hBr := hB.below hBe
    by_cases hlt : k < lb
    · obtain ⟨bb, off, a', l, c, x, rfl, hbl, hcell, hx, hX, hlc⟩ := hBr.at_ hlt
      have hxl : l ≤ 1000000 := by have := mem_bd hM hx; rw [hX.len] at this; exact this
      go_wp2_with fail
      refine (same_any fold a' a l c la ca x xs wr hX hAr hxl).mono ?_
      rintro e w1 ⟨rfl, hb⟩
      have hB1 : Below w.heap.size w w1 := hBe.trans (hb.mono hBe.size)
      cases e : sameL fold x xs with
      | true =>
        have HH : Hid (whichL fold xs wss = k) := by
          have h := whichL_hit (rest := wss.drop (k + 1)) HK (by rw [sameL_comm]; exact e)
          rw [← split_at hx] at h
          rw [Hid, h, List.length_take, HL.out]
          omega
        go_wp2
        go_ret
        exact ⟨by rw [HH.out]; rfl, hB1⟩
      | false =>
        have HH : Hid (whichL fold xs (wss.take (k + 1)) = -1) := by
          rw [take_step hx]
          exact whichL_snoc_no HK (by rw [sameL_comm]; exact e)
        go_wp2
        go_roundw
        case rel => exact ⟨k + 1, by omega, by go_num, HH, hB1⟩
        case measure => simp [intOf]; omega
    · obtain rfl : k = lb := by omega
      have HH : Hid (whichL fold xs wss = -1) := by
        have h := HK
        rwa [List.take_of_length_le (by rw [HL.out]; exact Nat.le_refl _)] at h
      go_wp2
      go_ret
      exact ⟨by rw [HH.out]; rfl, hBe⟩

end Go.Proofs.Ytmpmjkbjnklgfaa
