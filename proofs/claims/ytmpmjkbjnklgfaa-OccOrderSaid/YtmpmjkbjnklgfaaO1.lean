/- Which of two hits comes ahead (layer 6), walked. -/
import Derived.Test.YtmpmjkbjnklgfaaL4
import Derived.Test.YtmpmjkbjnklgfaaOp
import Derived.Shelf.Abstract
namespace Go.Proofs.Ytmpmjkbjnklgfaa
open Go.RowKit Go.Sort
set_option linter.unusedVariables false

theorem compare_any (x y : Int) (w : World) :
    Calls Try.prog 110 #[.int .i64 x, .int .i64 y] w fun e w' => e = .returned (.int .i64 (cmpI x y)) ∧ w = w' := by
  by_cases h1 : x < y
  · have hE : Hid (cmpI x y = -1) := by simp [Hid, cmpI, h1]
    go_enter Try.func110, Try.ntmps110
    go_wp2
    go_ret
    exact ⟨by rw [hE.out]; rfl, rfl⟩
  · by_cases h2 : y < x
    · have hE : Hid (cmpI x y = 1) := by simp [Hid, cmpI, h1, h2]
      go_enter Try.func110, Try.ntmps110
      go_wp2
      go_ret
      exact ⟨by rw [hE.out]; rfl, rfl⟩
    · have hE : Hid (cmpI x y = 0) := by simp [Hid, cmpI, h1, h2]
      go_enter Try.func110, Try.ntmps110
      go_wp2
      go_ret
      exact ⟨by rw [hE.out]; rfl, rfl⟩

def orL (zs : List Int) : Int := (zs.find? (fun z => z != 0)).getD 0
theorem orL_hit {pre rest : List Int} {z : Int} (h : ∀ x ∈ pre, x = 0) (hz : z ≠ 0) : orL (pre ++ z :: rest) = z := by
  unfold orL
  rw [List.find?_append, List.find?_eq_none.2 (fun x hx => by simp [h x hx])]
  simp [hz]
theorem orL_none {zs : List Int} (h : ∀ x ∈ zs, x = 0) : orL zs = 0 := by
  unfold orL
  rw [List.find?_eq_none.2 (fun x hx => by simp [h x hx])]
  rfl
theorem orL3 (x y z : Int) : orL [x, y, z] = orI x y z := by
  unfold orL orI
  by_cases h1 : x = 0
  · by_cases h2 : y = 0
    · by_cases h3 : z = 0 <;> simp [h1, h2, h3]
    · simp [h1, h2]
  · simp [h1]

set_option maxHeartbeats 1000000 in
theorem or_any (a : Option Addr) (la ca : Nat) (zs : List Int) (w : World) (hA : Sl1 (Value.int .i64) w a la zs) (hla : la ≤ 1000000) :
    Calls Try.prog 109 #[.slice a la ca] w fun e w' => e = .returned (.int .i64 (orL zs)) ∧ w = w' := by
  obtain ⟨hl, hm⟩ := hA
  have HL := Lib.hid hl
  clear hl
  go_enter Try.func109, Try.ntmps109
  go_wp2
  go_loop [8] (fun i => ∃ k : Nat, k ≤ la ∧ i = .int .i64 k ∧ Hid (∀ x ∈ zs.take k, x = 0)) (fun i => la - (intOf i).toNat)
  case atStart => exact ⟨0, Nat.zero_le _, rfl, fun x hx => by simp at hx⟩
  case round =>
    obtain ⟨k, hk, rfl, HK⟩ := hrel
    by_cases hlt : k < la
    · obtain ⟨b, off, rfl, hb, hc⟩ := hm.resolve_left (by omega)
      obtain ⟨z, hz⟩ : ∃ z, zs[k]? = some z := ⟨zs[k]'(by rw [HL.out]; exact hlt), by simp⟩
      have hcell : w.cell? ⟨b, off + k, none⟩ = some (.int .i64 z) := hc k z hz
      have HZ := Lib.hid hz
      clear hz hc hm
      by_cases h0 : z = 0
      · subst h0
        have HS : Hid (∀ x ∈ zs.take (k + 1), x = 0) := by
          rw [take_step HZ.out]
          intro x hx
          rcases List.mem_append.1 hx with hx | hx
          · exact HK.out x hx
          · simpa using hx
        go_wp2
        go_round
        case rel => exact ⟨k + 1, by omega, by go_num, HS⟩
        case measure => simp [intOf]; omega
      · have HS : Hid (orL zs = z) := by
          have h := orL_hit (rest := zs.drop (k + 1)) HK.out h0
          rwa [← split_at HZ.out] at h
        have hne : (z != 0) = true := by simp [h0]
        clear h0
        go_wp2
        go_ret
        exact ⟨by rw [HS.out]; rfl, rfl⟩
    · obtain rfl : k = la := by omega
      have HS : Hid (orL zs = 0) := by
        have h := HK.out
        rw [List.take_of_length_le (by rw [HL.out]; exact Nat.le_refl _)] at h
        exact orL_none h
      go_wp2
      go_ret
      exact ⟨by rw [HS.out]; rfl, rfl⟩

set_option maxHeartbeats 1000000 in
theorem glen_any (b : Nat) (k : Int) (a : Option Addr) (la ca : Nat) (wss : List (List Int)) (w : World) (hg : w.cell? ⟨b, 1, none⟩ = some (.slice a la ca)) (hA : Wds w a la wss) (hla : la ≤ 1000000) :
    Calls Try.prog 111 #[.pointer (some ⟨b, 0, none⟩), .int .i64 k] w fun e w' => e = .returned (.int .i64 (lenW wss k)) ∧ w = w' := by
  have HL := Lib.hid hA.len
  by_cases h0 : 0 ≤ k
  · by_cases h1 : k < la
    · obtain ⟨n, rfl⟩ : ∃ n : Nat, k = n := ⟨k.toNat, by omega⟩
      obtain ⟨bb, off, a', l, c, x, rfl, hbl, hcell, hx, hX, hlc⟩ := hA.at_ (show n < la by omega)
      have hE : Hid (lenW wss n = l) := by
        unfold Hid lenW
        rw [if_pos ⟨h0, by rw [HL.out]; exact h1⟩, Int.toNat_natCast, hx, Option.getD_some, hX.len]
      clear hx hX hA
      go_enter Try.func111, Try.ntmps111
      go_wp2
      go_ret
      exact ⟨by rw [hE.out]; rfl, rfl⟩
    · have hE : Hid (lenW wss k = 0) := by
        unfold Hid lenW
        rw [if_neg (by rw [HL.out]; omega)]
      go_enter Try.func111, Try.ntmps111
      go_wp2
      go_ret
      exact ⟨by rw [hE.out]; rfl, rfl⟩
  · have hE : Hid (lenW wss k = 0) := by
      unfold Hid lenW
      rw [if_neg (by omega)]
    go_enter Try.func111, Try.ntmps111
    go_wp2
    go_ret
    exact ⟨by rw [hE.out]; rfl, rfl⟩

/-- Draws and blocks. -/
theorem grow_drew3 (w : World) (A B C : Obj) (n : Nat) : ∃ q os, (((w.alloc A).alloc B).drewN n).alloc C = grow (w.drewN q) os :=
  ⟨n, #[A] ++ #[B] ++ #[C], by
    show ({ heap := ((w.heap.push A).push B).push C, tape := w.tape, drawn := w.drawn + n, os := w.os, output := w.output } : World) = grow (w.drewN n) _
    simp only [grow, World.drewN]
    congr 1⟩
theorem below_grew {w w' : World} (h : ∃ q os, w' = grow (w.drewN q) os) : Below w.heap.size w w' := by
  obtain ⟨q, os, rfl⟩ := h
  exact below_regrown w (w.drawn + q) os

theorem Sl1.lay {α : Type} (enc : α → Value) (w : World) (zs : List α) (t : TypeId) (n : Nat) (h : w.heap.size = n) : Sl1 enc (w.alloc (.cells (zs.map enc).toArray t)) (some ⟨n, 0, none⟩) zs.length zs := by
  subst h
  refine ⟨rfl, .inr ⟨w.heap.size, 0, rfl, by simp, fun i x hx => ?_⟩⟩
  have hn := World.alloc_heap_new w (.cells (zs.map enc).toArray t)
  unfold World.cell?
  dsimp only
  rw [hn]
  simp [hx]

set_option maxHeartbeats 2000000 in
theorem order_any (b : Nat) (x y : HitP) (a : Option Addr) (la ca : Nat) (wss : List (List Int)) (w : World) (hb : b < w.heap.size) (hg : w.cell? ⟨b, 1, none⟩ = some (.slice a la ca)) (hA : Wds w a la wss) (hla : la ≤ 1000000) :
    Calls Try.prog 73 #[.pointer (some ⟨b, 0, none⟩), .agg #[.int .i64 x.1, .int .i64 x.2], .agg #[.int .i64 y.1, .int .i64 y.2]] w fun e w' => e = .returned (.int .i64 (ordH wss x y)) ∧ ∃ q os, w' = grow (w.drewN q) os := by
  have HE : Hid (ordH wss x y = orL [cmpI x.1 y.1, cmpI (lenW wss y.2) (lenW wss x.2), cmpI x.2 y.2]) := (orL3 _ _ _).symm
  have hB2 : Below w.heap.size w ((w.alloc (.cells #[.int .i64 x.1, .int .i64 x.2] 43)).alloc (.cells #[.int .i64 y.1, .int .i64 y.2] 43)) := ((Below.refl _ _).alloc (Nat.le_refl _) _).alloc (by simp) _
  have hg2 : ∀ n, (((w.alloc (.cells #[.int .i64 x.1, .int .i64 x.2] 43)).alloc (.cells #[.int .i64 y.1, .int .i64 y.2] 43)).drewN n).cell? ⟨b, 1, none⟩ = some (.slice a la ca) := fun n => (hB2.cell (p := ⟨b, 1, none⟩) hb).trans hg
  have hA2 : ∀ n, Wds (((w.alloc (.cells #[.int .i64 x.1, .int .i64 x.2] 43)).alloc (.cells #[.int .i64 y.1, .int .i64 y.2] 43)).drewN n) a la wss := fun n => (hA.below hB2).below ⟨rfl, rfl, rfl, Nat.le_refl _, fun _ _ => rfl⟩
  go_enter Try.func73, Try.ntmps73
  go_wp2
  refine region_drawn_tail 19 mixed (by kernel_rfl) ?_
  dsimp only [List.take_succ_cons, List.take_zero, List.drop_succ_cons, List.drop_zero]
  repeat (go_big_quiet_step (first | exact drawn_same (compare_any _ _ _) | exact drawn_same (glen_any b _ a la ca wss _ (hg2 _) (hA2 _) hla)))
  refine wpQuiet_nil ?_
  rintro _ ⟨nq, rfl⟩
  go_wp2_with fail
  refine (or_any _ _ _ [cmpI x.1 y.1, cmpI (lenW wss y.2) (lenW wss x.2), cmpI x.2 y.2] _ (Sl1.lay _ _ [cmpI x.1 y.1, cmpI (lenW wss y.2) (lenW wss x.2), cmpI x.2 y.2] _ _ (by simp)) (by simp)).mono ?_
  rintro e w3 ⟨rfl, rfl⟩
  go_wp2
  go_ret
  exact ⟨by rw [HE.out]; rfl, grow_drew3 _ _ _ _ _⟩

theorem orderB_any (b : Nat) (x y : HitP) (a : Option Addr) (la ca : Nat) (wss : List (List Int)) (w : World) (hb : b < w.heap.size) (hg : w.cell? ⟨b, 1, none⟩ = some (.slice a la ca)) (hA : Wds w a la wss) (hla : la ≤ 1000000) :
    Calls Try.prog 73 #[.pointer (some ⟨b, 0, none⟩), .agg #[.int .i64 x.1, .int .i64 x.2], .agg #[.int .i64 y.1, .int .i64 y.2]] w fun e w' => e = .returned (.int .i64 (ordH wss x y)) ∧ Below w.heap.size w w' :=
  (order_any b x y a la ca wss w hb hg hA hla).mono fun _ _ ⟨h1, h2⟩ => ⟨h1, below_grew h2⟩
end Go.Proofs.Ytmpmjkbjnklgfaa
