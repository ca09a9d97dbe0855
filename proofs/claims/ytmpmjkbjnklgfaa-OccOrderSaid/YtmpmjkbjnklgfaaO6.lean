/- Two lists of hits that are the same, lists joined (layer 6, and the document's): walked. -/
import Derived.Test.YtmpmjkbjnklgfaaO5
namespace Go.Proofs.Ytmpmjkbjnklgfaa
open Go.RowKit Go.Sort
set_option linter.unusedVariables false

theorem hit_fields : ((Try.prog.fieldsOf 43).toList.map fun f => (f.name, f.type, f.offset)) = [("End", 3, 0), ("Word", 3, 1)] := by kernel_rfl
theorem eqFields_map (d : Nat) (xs ys : Array Value) (fs gs : List Field) (h : fs.map (fun f => (f.name, f.type, f.offset)) = gs.map (fun f => (f.name, f.type, f.offset))) : Op.eqFields d xs ys fs = Op.eqFields d xs ys gs := by
  induction fs generalizing gs with
  | nil => cases gs with
    | nil => rfl
    | cons g gs => simp at h
  | cons f fs ih => cases gs with
    | nil => simp at h
    | cons g gs =>
      simp only [List.map_cons, List.cons.injEq, Prod.mk.injEq] at h
      obtain ⟨⟨h1, h2, h3⟩, h4⟩ := h
      simp only [Op.eqFields, h1, h2, h3, ih gs h4]
theorem equalIn_hit (x y : HitP) (W : World) : (Op.equalIn 10000 43 (.agg #[.int .i64 x.1, .int .i64 x.2]) (.agg #[.int .i64 y.1, .int .i64 y.2])).run Try.prog W = .ok (decide (x = y)) W := by
  rw [run_equalIn_agg W 9999 43 _ _ (by kernel_rfl) (by kernel_rfl)]
  rw [eqFields_map 9999 _ _ _ [⟨ "End", 3, 0, false, "", "", 0⟩, ⟨ "Word", 3, 1, false, "", "", 0⟩] hit_fields]
  have h0 : ∀ W : World, (part 3 #[.int .i64 x.1, .int .i64 x.2] 0).run Try.prog W = .ok (.int .i64 x.1) W := fun W => by kernel_rfl
  have h1 : ∀ W : World, (part 3 #[.int .i64 x.1, .int .i64 x.2] 1).run Try.prog W = .ok (.int .i64 x.2) W := fun W => by kernel_rfl
  have g0 : ∀ W : World, (part 3 #[.int .i64 y.1, .int .i64 y.2] 0).run Try.prog W = .ok (.int .i64 y.1) W := fun W => by kernel_rfl
  have g1 : ∀ W : World, (part 3 #[.int .i64 y.1, .int .i64 y.2] 1).run Try.prog W = .ok (.int .i64 y.2) W := fun W => by kernel_rfl
  simp only [Op.eqFields, Sem.run_bind, Sem.run_ite, Sem.run_pure, h0, h1, g0, g1, Result.andThen_ok, run_equalIn_int _ _ _ _ _ _ _ Try.underlying3]
  obtain ⟨a, b⟩ := x
  obtain ⟨c, d⟩ := y
  by_cases e1 : a = c <;> by_cases e2 : b = d <;> simp [e1, e2]
theorem eql_hit (x y : HitP) (W : World) : (binOp .eql 43 (.agg #[.int .i64 x.1, .int .i64 x.2]) (.agg #[.int .i64 y.1, .int .i64 y.2])).run Try.prog W = .ok (.bool (decide (x = y))) W := by
  rw [run_eql_struct, equalIn_hit]
  rfl
theorem neq_hit (x y : HitP) (W : World) : (binOp .neq 43 (.agg #[.int .i64 x.1, .int .i64 x.2]) (.agg #[.int .i64 y.1, .int .i64 y.2])).run Try.prog W = .ok (.bool (!decide (x = y))) W := by
  rw [run_neq_struct, equalIn_hit]
  rfl
theorem hit_guard : Try.prog.eqGuardType Try.prog.depth 43 = false := by kernel_rfl

set_option maxHeartbeats 2000000 in
theorem sEqual_any (a b : Option Addr) (la ca lb cb : Nat) (l m : List HitP) (w : World) (hA : Hts w a la l) (hB : Hts w b lb m) (hla : la ≤ 4611686018427387904) :
    Calls Try.prog 77 #[.slice a la ca, .slice b lb cb] w fun e w' => e = .returned (.bool (decide (l = m))) ∧ Below w.heap.size w w' := by
  have HA := Lib.hid hA.len
  have HB := Lib.hid hB.len
  have hgt := hit_guard
  by_cases hl : la = lb
  · subst hl
    go_enter Try.func77, Try.ntmps77
    go_wp2
    go_loopw [13] (fun i wr => ∃ k : Nat, k ≤ la ∧ i = .int .i64 k ∧ Hid (l.take k = m.take k) ∧ Below w.heap.size w wr) (fun i _ => la - (intOf i).toNat)
    case atStart => exact ⟨0, Nat.zero_le _, rfl, by simp [Hid], Below.refl _ _⟩
    case round =>
      obtain ⟨k, hk, rfl, HK, hBe⟩ := hrel
      by_cases hlt : k < la
      · obtain ⟨b1, o1, x, rfl, hb1, x0, x1, hx, _, _⟩ := (hA.below hBe).at_ hlt
        obtain ⟨b2, o2, y, rfl, hb2, y0, y1, hy, _, _⟩ := (hB.below hBe).at_ hlt
        have HX := Lib.hid hx
        have HY := Lib.hid hy
        clear hx hy
        have hd : decide ((k : Int) < la) = true := by simp; omega
        have hne := fun W => neq_hit x y W
        by_cases h : x = y
        · have HS : Hid (l.take (k + 1) = m.take (k + 1)) := by rw [take_step HX.out, take_step HY.out, HK.out, h]; rfl
          have hdd : decide (x = y) = true := by simp [h]
          rw [hdd] at hne
          clear h hdd
          go_wp2
          go_quiet (fail)
          go_wp2
          go_roundw
          case rel => exact ⟨k + 1, by omega, by go_num, HS, hBe.trans ⟨rfl, rfl, rfl, Nat.le_refl _, fun _ _ => rfl⟩⟩
          case measure => simp [intOf]; omega
        · have HS : Hid (decide (l = m) = false) := by
            have : l ≠ m := fun e => by
              have h1 := HX.out
              rw [e, HY.out] at h1
              exact h (Option.some.inj h1).symm
            simp [Hid, this]
          have hdd : decide (x = y) = false := by simp [h]
          rw [hdd] at hne
          clear h hdd
          go_wp2
          go_quiet (fail)
          go_wp2
          go_ret
          exact ⟨by rw [HS.out]; rfl, hBe.trans ⟨rfl, rfl, rfl, Nat.le_refl _, fun _ _ => rfl⟩⟩
      · obtain rfl : k = la := by omega
        have HS : Hid (decide (l = m) = true) := by
          have h := HK.out
          rw [List.take_of_length_le (by rw [HA.out]; exact Nat.le_refl _), List.take_of_length_le (by rw [HB.out]; exact Nat.le_refl _)] at h
          simp [Hid, h]
        go_wp2
        go_ret
        exact ⟨by rw [HS.out]; rfl, hBe⟩
  · have HS : Hid (decide (l = m) = false) := by
      have : l ≠ m := fun e => hl (by rw [← HA.out, ← HB.out, e])
      simp [Hid, this]
    have hne : ((la : Int) != (lb : Int)) = true := by simp; omega
    go_enter Try.func77, Try.ntmps77
    go_wp2
    go_ret
    exact ⟨by rw [HS.out]; rfl, Below.refl _ _⟩

theorem osame_any (a b : Option Addr) (la ca lb cb : Nat) (l m : List HitP) (w : World) (hA : Hts w a la l) (hB : Hts w b lb m) (hla : la ≤ 4611686018427387904) :
    Calls Try.prog 40 #[.slice a la ca, .slice b lb cb] w fun e w' => e = .returned (.bool (decide (l = m))) ∧ Below w.heap.size w w' := by
  go_enter Try.func40, Try.ntmps40
  go_wp2_with fail
  refine (sEqual_any a b la ca lb cb l m w hA hB hla).mono ?_
  rintro e w1 ⟨rfl, hb⟩
  go_wp2
  go_ret
  exact ⟨rfl, hb⟩

set_option maxHeartbeats 2000000 in
theorem rsame6_any (a b : Option Addr) (la ca lb cb : Nat) (l m : List HitP) (w : World) (hA : Hts w a la l) (hB : Hts w b lb m) (hla : la ≤ 4611686018427387904) :
    Calls Try.prog 30 #[.slice a la ca, .slice b lb cb] w fun e w' => e = .returned (.bool (decide (l = m))) ∧ Below w.heap.size w w' := by
  have HA := Lib.hid hA.len
  have HB := Lib.hid hB.len
  have hgt := hit_guard
  by_cases hl : la = lb
  · subst hl
    go_enter Try.func30, Try.ntmps30
    go_wp2
    go_loopw [5] (fun i wr => ∃ k : Nat, k ≤ la ∧ i = .int .i64 k ∧ Hid (l.take k = m.take k) ∧ Below w.heap.size w wr) (fun i _ => la - (intOf i).toNat)
    case atStart => exact ⟨0, Nat.zero_le _, rfl, by simp [Hid], Below.refl _ _⟩
    case round =>
      obtain ⟨k, hk, rfl, HK, hBe⟩ := hrel
      by_cases hlt : k < la
      · obtain ⟨b1, o1, x, rfl, hb1, x0, x1, hx, _, _⟩ := (hA.below hBe).at_ hlt
        obtain ⟨b2, o2, y, rfl, hb2, y0, y1, hy, _, _⟩ := (hB.below hBe).at_ hlt
        have HX := Lib.hid hx
        have HY := Lib.hid hy
        clear hx hy
        have hd : decide ((k : Int) < la) = true := by simp; omega
        have hne := fun W => neq_hit x y W
        by_cases h : x = y
        · have HS : Hid (l.take (k + 1) = m.take (k + 1)) := by rw [take_step HX.out, take_step HY.out, HK.out, h]; rfl
          have hdd : decide (x = y) = true := by simp [h]
          rw [hdd] at hne
          clear h hdd
          go_wp2
          go_quiet (fail)
          go_wp2
          go_roundw
          case rel => exact ⟨k + 1, by omega, by go_num, HS, hBe.trans ⟨rfl, rfl, rfl, Nat.le_refl _, fun _ _ => rfl⟩⟩
          case measure => simp [intOf]; omega
        · have HS : Hid (decide (l = m) = false) := by
            have : l ≠ m := fun e => by
              have h1 := HX.out
              rw [e, HY.out] at h1
              exact h (Option.some.inj h1).symm
            simp [Hid, this]
          have hdd : decide (x = y) = false := by simp [h]
          rw [hdd] at hne
          clear h hdd
          go_wp2
          go_quiet (fail)
          go_wp2
          go_ret
          exact ⟨by rw [HS.out]; rfl, hBe.trans ⟨rfl, rfl, rfl, Nat.le_refl _, fun _ _ => rfl⟩⟩
      · obtain rfl : k = la := by omega
        have HS : Hid (decide (l = m) = true) := by
          have h := HK.out
          rw [List.take_of_length_le (by rw [HA.out]; exact Nat.le_refl _), List.take_of_length_le (by rw [HB.out]; exact Nat.le_refl _)] at h
          simp [Hid, h]
        go_wp2
        go_ret
        exact ⟨by rw [HS.out]; rfl, hBe⟩
  · have HS : Hid (decide (l = m) = false) := by
      have : l ≠ m := fun e => hl (by rw [← HA.out, ← HB.out, e])
      simp [Hid, this]
    have hne : ((la : Int) != (lb : Int)) = true := by simp; omega
    go_enter Try.func30, Try.ntmps30
    go_wp2
    go_ret
    exact ⟨by rw [HS.out]; rfl, Below.refl _ _⟩

/-- Some lists of hits. -/
def Hss (w : World) (a : Option Addr) (len : Nat) (ls : List (List HitP)) : Prop :=
  ∃ vs : List (Option Addr × Nat × Nat), Sl1 (fun v => Value.slice v.1 v.2.1 v.2.2) w a len vs ∧ vs.length = ls.length ∧ ∀ (i : Nat) (v : Option Addr × Nat × Nat) (l : List HitP), vs[i]? = some v → ls[i]? = some l → Hts w v.1 v.2.1 l
theorem Hss.below {w w' : World} {a : Option Addr} {len : Nat} {ls : List (List HitP)} (h : Hss w a len ls) (hb : Below w.heap.size w w') : Hss w' a len ls := by
  obtain ⟨vs, h1, h2, h3⟩ := h
  exact ⟨vs, h1.below hb, h2, fun i v l hv hl => (h3 i v l hv hl).below hb⟩
theorem Hss.len {w : World} {a : Option Addr} {len : Nat} {ls : List (List HitP)} (h : Hss w a len ls) : ls.length = len := by
  obtain ⟨vs, h1, h2, h3⟩ := h
  rw [← h2, h1.1]
theorem Hss.at_ {w : World} {a : Option Addr} {len : Nat} {ls : List (List HitP)} (h : Hss w a len ls) {k : Nat} (hk : k < len) :
    ∃ b off a' l c x, a = some ⟨b, off, none⟩ ∧ b < w.heap.size ∧ w.cell? ⟨b, off + k, none⟩ = some (.slice a' l c) ∧ ls[k]? = some x ∧ Hts w a' l x := by
  have hl := h.len
  obtain ⟨vs, ⟨h0, h1⟩, h2, h3⟩ := h
  obtain ⟨b, off, rfl, hlt, hc⟩ := h1.resolve_left (by omega)
  obtain ⟨v, hv⟩ : ∃ v, vs[k]? = some v := ⟨vs[k]'(by omega), by simp⟩
  obtain ⟨x, hx⟩ : ∃ v, ls[k]? = some v := ⟨ls[k]'(by omega), by simp⟩
  exact ⟨b, off, v.1, v.2.1, v.2.2, x, rfl, hlt, hc k v hv, hx, h3 k v x hv hx⟩
theorem flatten_take {α : Type} {ls : List (List α)} {k : Nat} {x : List α} (h : ls[k]? = some x) : (ls.take (k + 1)).flatten = (ls.take k).flatten ++ x := by
  rw [take_step h]; simp
theorem flatten_le {α : Type} {ls : List (List α)} (k : Nat) : (ls.take k).flatten.length ≤ ls.flatten.length := by
  have h := congrArg List.length (congrArg List.flatten (List.take_append_drop k ls))
  rw [List.flatten_append, List.length_append] at h
  omega

set_option maxRecDepth 100000 in
set_option maxHeartbeats 2000000 in
theorem join_h (a : Option Addr) (la ca : Nat) (ls : List (List HitP)) (w : World) (hA : Hss w a la ls) (hla : la ≤ 1000000) (hT : ls.flatten.length ≤ 1000000000000) :
    Calls Try.prog 39 #[.slice a la ca] w fun e w' => ∃ v, e = .returned v ∧ OwnH w' w.heap.size v ls.flatten ∧ Below w.heap.size w w' := by
  obtain ⟨i0, hi, hz0, hz1, hz2⟩ := info_parts hit_info
  have HLN := Lib.hid hA.len
  go_enter Try.func39, Try.ntmps39
  go_wp2
  go_loopw [3, 8] (fun v i wr => ∃ k : Nat, k ≤ la ∧ i = .int .i64 k ∧ Below w.heap.size w wr ∧ OwnH wr w.heap.size v (ls.take k).flatten) (fun _ i _ => la - (intOf i).toNat)
  case atStart => exact ⟨0, Nat.zero_le _, rfl, Below.refl _ _, by simpa [OwnH, hcells] using World.ownsRow_nil w w.heap.size 43 2⟩
  case round =>
    obtain ⟨k, hk, rfl, hBe, hown⟩ := hrel
    by_cases hlt : k < la
    · obtain ⟨b, off, a', l', c', x, rfl, hbl, c0, hx, hX⟩ := (hA.below hBe).at_ hlt
      have HS := Lib.hid (flatten_take hx)
      have hle : (ls.take k).flatten.length + l' ≤ 1000000000000 := by
        have h1 := flatten_le (ls := ls) (k + 1)
        rw [flatten_take hx, List.length_append, hX.len] at h1
        omega
      have HXL := Lib.hid hX.len
      clear hx
      obtain ⟨m, hm⟩ : ∃ m, (ls.take k).flatten.length = m := ⟨_, rfl⟩
      unfold OwnH at hown
      rw [hm] at hown hle
      have HM := Lib.hid hm
      clear hm
      go_wp2_with (at_builtin; refine wpList_append_slK rfl _ _ 41 rfl w.heap.size 43 i0 (.agg #[.int .i64 0, .int .i64 0]) 2 16 Try.underlying41 hi hz0 hz1 hz2 rfl (by decide) _ _ _ rfl hown a' l' c' (hcells x) rfl hX.1 (hcells_one x) (by unfold maxLen; omega) (by omega) hBe.size ?_; intro v' w5 hown' hgrow hat)
      have hB5 : Below w.heap.size w w5 := hBe.grown hgrow hBe.size (fun j hj => (hown.lt j hj).1)
      go_roundw
      case rel =>
        refine ⟨k + 1, by omega, by go_num, hB5, ?_⟩
        unfold OwnH
        rw [HS.out, List.length_append, HM.out, HXL.out, hcells_append]
        exact hown'
      case measure => simp [intOf]; omega
    · obtain rfl : k = la := by omega
      have HF : Hid (ls.take k = ls) := List.take_of_length_le (by rw [HLN.out]; exact Nat.le_refl _)
      rw [HF.out] at hown
      go_wp2
      go_ret
      exact ⟨_, rfl, hown, hBe⟩

end Go.Proofs.Ytmpmjkbjnklgfaa
