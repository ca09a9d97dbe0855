/- Texts folded and copied (layers 3 and 5, and the document's functions), walked. -/
import Derived.Test.YtmpmjkbjnklgfaaL4
import Derived.Maps.AppendAt
import Derived.OwnWalk
import Derived.Laws.OwnMore
import Derived.Deep.AppendLies
namespace Go.Proofs.Ytmpmjkbjnklgfaa
open Go.RowKit Go.Sort
set_option linter.unusedVariables false

/-- A row of bytes that the call made. -/
abbrev OwnB (w : World) (base : Nat) (v : Value) (n : Nat) (xs : List Int) : Prop := w.ownsRow base 5 1 v n (xs.map (Value.int .u8))
theorem u8_info : (Try.prog.info? 5).map (fun i => (i.zero, i.size, i.bytes)) = some (some (.int .u8 0), 1, 1) := by kernel_rfl
theorem own_sl1 {α : Type} {enc : α → Value} {w : World} {base n : Nat} {e : TypeId} {v : Value} {xs : List α} (h : w.ownsRow base e 1 v n (xs.map enc)) : ∃ a c, v = .slice a n c ∧ n ≤ c ∧ Sl1 enc w a n xs := by
  have hl : xs.length = n := by have := h.1; simpa using this
  rcases h.2 with ⟨rfl, rfl⟩ | ⟨g, cap, cur, rfl, hg, hh, hn, _, _, hc⟩
  · exact ⟨none, 0, rfl, Nat.le_refl _, hl, .inl rfl⟩
  · refine ⟨_, cap, rfl, hn, hl, .inr ⟨g, 0, rfl, (Array.getElem?_eq_some_iff.1 hh).1, fun i x hx => ?_⟩⟩
    have := h.cells (g := g) rfl i (enc x) (by simp [hx])
    rwa [add_plain] at this
theorem own_bys {w : World} {base n : Nat} {v : Value} {xs : List Int} (h : OwnB w base v n xs) (hb : ∀ x ∈ xs, 0 ≤ x ∧ x ≤ 255) : ∃ a c, v = .slice a n c ∧ n ≤ c ∧ Bys w a n xs := by
  obtain ⟨a, c, e, hc, h1⟩ := own_sl1 h
  exact ⟨a, c, e, hc, h1, hb⟩
theorem below_append {w wr w1 : World} {o : Obj} {base n size : Nat} {e : TypeId} {v : Value} {xs : List Value} (hB : Below w.heap.size w wr) (hown : wr.ownsRow w.heap.size e size v n xs) (hg : (wr.alloc o).grownBy w1 v.ownBlock) : Below w.heap.size w w1 :=
  (hB.alloc hB.size o).grown hg (by simp; have := hB.size; omega) (fun k hk => (hown.lt k hk).1)

theorem Sl1.news {α : Type} {enc : α → Value} {w : World} {ad : Addr} {m : Nat} {ys : List α} (h : Sl1 enc w (some ad) m ys) : ∀ j u, (ys.map enc)[j]? = some u → w.cell? (ad.add j) = some u := by
  intro j u hu
  rw [List.getElem?_map, Option.map_eq_some_iff] at hu
  obtain ⟨y, hy, rfl⟩ := hu
  obtain ⟨h1, h2⟩ := h
  have hj := (List.getElem?_eq_some_iff.1 hy).1
  obtain ⟨b, off, e, hlt, hc⟩ := h2.resolve_left (by omega)
  obtain rfl := Option.some.inj e
  rw [add_plain]
  exact hc j y hy

/-- append of a slice that came in, nil or not, onto a row of the call's own: the run. -/
theorem run_append_sl1 {P : Program} {α : Type} {enc : α → Value} (hone : ∀ x, (enc x).oneCell' = true) (w : World) (base : Nat) (t ty e : TypeId) (i : TypeInfo) (z : Value) (bytes : Nat) (ht : P.underlying t = some (.slice e)) (hi : P.info? e = some i) (hz : i.zero = some z)
    (hsize : i.size = 1) (hby : i.bytes = bytes) (hzs : z.cells.size = 1) (v : Value) (n : Nat) (xs : List Value) (hown : w.ownsRow base e 1 v n xs)
    (A : Option Addr) (m c : Nat) (ys : List α) (hs : Sl1 enc w A m ys) (h63 : n + m ≤ maxLen) (hbytes : (n + m) * bytes ≤ 140737488355328) (hbase : base ≤ w.heap.size) :
    ∃ v' w', (Builtin.append_ #[t, t] ty #[v, .slice A m c]).run P w = .ok v' w' ∧ w'.ownsRow base e 1 v' (n + m) (xs ++ ys.map enc) ∧ w.grownBy w' v.ownBlock ∧
      (v'.ownBlock = v.ownBlock ∨ v'.ownBlock = some w.heap.size) := by
  cases A with
  | some ad =>
    obtain ⟨v', w', hr, h2, h3, _, h5⟩ := run_append_own_at (P := P) w base t ty e i z 1 bytes ht hi hz hsize hby hzs (by decide) v n xs hown ad m c (ys.map enc) (by simp [hs.1]) hs.news (by intro u hu; obtain ⟨y, _, rfl⟩ := List.mem_map.1 hu; exact hone y) h63 hbytes hbase
    exact ⟨v', w', hr, h2, h3, h5⟩
  | none =>
    have hm : m = 0 := hs.2.elim id fun ⟨b, off, e, _⟩ => by cases e
    subst hm
    have hy : ys = [] := List.eq_nil_of_length_eq_zero hs.1
    subst hy
    refine ⟨v, w, ?_, by simpa using hown, World.grownBy.refl w _, .inl rfl⟩
    rcases hown.2 with ⟨rfl, rfl⟩ | ⟨g, cap, cur, rfl, _, _, hnc, _⟩
    · simp [Builtin.append_, run_underlying ht, sizeOf, typeInfo, hi, Builtin.lenOf, Builtin.firstCells]
    · simp [Builtin.append_, run_underlying ht, sizeOf, typeInfo, hi, Builtin.lenOf, Builtin.firstCells, hnc, storeCells]

theorem wpList_append_sl1 {P : Program} {w : World} {ops : Array Oper} {rest : List Oper} {o : Oper} {a : Act} {Q : Exit → Act → World → Prop} (hgd : o.guard = none) (s x : Operand) (t : TypeId)
    (ho : o.op = .call { callee := .builtin .append, args := #[s, x], argTypes := #[t, t] }) {α : Type} {enc : α → Value} (hone : ∀ x, (enc x).oneCell' = true)
    (base : Nat) (e : TypeId) (i : TypeInfo) (z : Value) (bytes : Nat) (ht : P.underlying t = some (.slice e)) (hi : P.info? e = some i) (hz : i.zero = some z) (hsize : i.size = 1) (hby : i.bytes = bytes) (hzs : z.cells.size = 1)
    (v : Value) (n : Nat) (xs : List Value) (hs : a.eval s = v) (hown : w.ownsRow base e 1 v n xs) (A : Option Addr) (m c : Nat) (ys : List α) (hx : a.eval x = .slice A m c) (hsl : Sl1 enc w A m ys)
    (h63 : n + m ≤ maxLen) (hbytes : (n + m) * bytes ≤ 140737488355328) (hbase : base ≤ w.heap.size)
    (h : ∀ v' w', w'.ownsRow base e 1 v' (n + m) (xs ++ ys.map enc) → w.grownBy w' v.ownBlock → (v'.ownBlock = v.ownBlock ∨ v'.ownBlock = some w.heap.size) → wpList P ops Q rest (a.put o.dst v') w') : wpList P ops Q (o :: rest) a w := by
  refine wpList_plain hgd fun K hK => ?_
  obtain ⟨v', w', hr, h2, h3, h4⟩ := run_append_sl1 (P := P) hone w base t o.type e i z bytes ht hi hz hsize hby hzs v n xs hown A m c ys hsl h63 hbytes hbase
  unfold Oper.wp execOp
  simp only [ho, resolve, invoke, builtin, Sem.run_bind, Sem.run_pure, Result.andThen_ok, List.map_toArray, List.map_cons, List.map_nil, hs, hx, hr]
  exact hK _ _ (h v' w' h2 h3 h4)

set_option maxRecDepth 100000 in
set_option maxHeartbeats 1000000 in
theorem rfolded_any (a : Option Addr) (la ca : Nat) (xs : List Int) (w : World) (hA : Bys w a la xs) (hla : la ≤ 1000000) :
    Calls Try.prog 115 #[.slice a la ca] w fun e w' => ∃ v, e = .returned v ∧ OwnB w' w.heap.size v la (xs.map foldI) ∧ Below w.heap.size w w' := by
  obtain ⟨i0, hi, hz0, hz1, hz2⟩ := info_parts u8_info
  have HL := Lib.hid hA.len
  go_enter Try.func115, Try.ntmps115
  go_wp2
  go_loopw [3, 4] (fun o i wr => ∃ k : Nat, k ≤ la ∧ i = .int .i64 k ∧ OwnB wr w.heap.size o k ((xs.take k).map foldI) ∧ Below w.heap.size w wr) (fun _ i _ => la - (intOf i).toNat)
  case atStart => exact ⟨0, Nat.zero_le _, rfl, World.ownsRow_nil _ _ _ _, Below.refl _ _⟩
  case round =>
    obtain ⟨k, hk, rfl, hown, hBe⟩ := hrel
    by_cases hlt : k < la
    · obtain ⟨x, hx⟩ : ∃ x, xs[k]? = some x := ⟨xs[k]'(by rw [HL.out]; exact hlt), by simp⟩
      have hAr := hA.below hBe
      have hbx := hAr.2 x (List.mem_of_getElem? hx)
      obtain ⟨b, off, rfl, hbl, hc⟩ := hAr.1.2.resolve_left (by omega)
      have hcell := hc k x hx
      have htk := Lib.hid (take_step hx)
      clear hc hx
      go_wp2_with (first
        | (go_at_call 150; refine (rfold_any _ _ (by omega) (by omega)).mono ?_; rintro e w' ⟨rfl, rfl⟩)
        | (at_builtin
           refine wpList_append_own_at _ rfl _ _ 40 rfl w.heap.size 5 i0 (.int .u8 0) 1 1 Try.underlying40 hi hz0 hz1 hz2 rfl (by decide) _ _ _ rfl (hown.alloc _) ⟨wr.heap.size, 0, none⟩ 1 1 [.int .u8 (foldI x)] rfl rfl (cell_one_new _ _ _) (by simp [Value.oneCell']) (by unfold maxLen; omega) (by omega) (by have := hBe.size; simp; omega) ?_
           intro v' w5 hown' hgrow hnil hat))
      have hB5 := below_append (base := w.heap.size) hBe hown hgrow
      go_roundw
      case rel => exact ⟨k + 1, by omega, by go_num, by unfold OwnB; rw [htk.out, List.map_append, List.map_append]; exact hown', hB5⟩
      case measure => simp [intOf]; omega
    · obtain rfl : k = la := by omega
      go_wp2
      go_ret
      refine ⟨_, rfl, ?_, hBe⟩
      have h := hown
      rw [List.take_of_length_le (by rw [HL.out]; exact Nat.le_refl _)] at h
      exact h

set_option maxRecDepth 100000 in
set_option maxHeartbeats 1000000 in
theorem folded_l_any (a : Option Addr) (la ca : Nat) (xs : List Int) (w : World) (hA : Bys w a la xs) (hla : la ≤ 1000000) :
    Calls Try.prog 172 #[.slice a la ca] w fun e w' => ∃ v, e = .returned v ∧ OwnB w' w.heap.size v la (xs.map foldI) ∧ Below w.heap.size w w' := by
  obtain ⟨i0, hi, hz0, hz1, hz2⟩ := info_parts u8_info
  have HL := Lib.hid hA.len
  go_enter Try.func172, Try.ntmps172
  go_wp2
  go_loopw [3, 8] (fun o i wr => ∃ k : Nat, k ≤ la ∧ i = .int .i64 k ∧ OwnB wr w.heap.size o k ((xs.take k).map foldI) ∧ Below w.heap.size w wr) (fun _ i _ => la - (intOf i).toNat)
  case atStart => exact ⟨0, Nat.zero_le _, rfl, World.ownsRow_nil _ _ _ _, Below.refl _ _⟩
  case round =>
    obtain ⟨k, hk, rfl, hown, hBe⟩ := hrel
    by_cases hlt : k < la
    · obtain ⟨x, hx⟩ : ∃ x, xs[k]? = some x := ⟨xs[k]'(by rw [HL.out]; exact hlt), by simp⟩
      have hAr := hA.below hBe
      have hbx := hAr.2 x (List.mem_of_getElem? hx)
      obtain ⟨b, off, rfl, hbl, hc⟩ := hAr.1.2.resolve_left (by omega)
      have hcell := hc k x hx
      have htk := Lib.hid (take_step hx)
      clear hc hx
      go_wp2_with (first
        | (go_at_call 194; refine (fold_any _ _ (by omega) (by omega)).mono ?_; rintro e w' ⟨rfl, rfl⟩)
        | (at_builtin
           refine wpList_append_own_at _ rfl _ _ 40 rfl w.heap.size 5 i0 (.int .u8 0) 1 1 Try.underlying40 hi hz0 hz1 hz2 rfl (by decide) _ _ _ rfl (hown.alloc _) ⟨wr.heap.size, 0, none⟩ 1 1 [.int .u8 (foldI x)] rfl rfl (cell_one_new _ _ _) (by simp [Value.oneCell']) (by unfold maxLen; omega) (by omega) (by have := hBe.size; simp; omega) ?_
           intro v' w5 hown' hgrow hnil hat))
      have hB5 := below_append (base := w.heap.size) hBe hown hgrow
      go_roundw
      case rel => exact ⟨k + 1, by omega, by go_num, by unfold OwnB; rw [htk.out, List.map_append, List.map_append]; exact hown', hB5⟩
      case measure => simp [intOf]; omega
    · obtain rfl : k = la := by omega
      go_wp2
      go_ret
      refine ⟨_, rfl, ?_, hBe⟩
      have h := hown
      rw [List.take_of_length_le (by rw [HL.out]; exact Nat.le_refl _)] at h
      exact h

theorem u8_one (x : Int) : (Value.int .u8 x).oneCell' = true := rfl

set_option maxHeartbeats 1000000 in
theorem copied_any (fold : Bool) (a : Option Addr) (la ca : Nat) (xs : List Int) (w : World) (hA : Bys w a la xs) (hla : la ≤ 1000000) :
    Calls Try.prog 153 #[.bool fold, .slice a la ca] w fun e w' => ∃ v, e = .returned v ∧ OwnB w' w.heap.size v la (foldL fold xs) ∧ Below w.heap.size w w' := by
  obtain ⟨i0, hi, hz0, hz1, hz2⟩ := info_parts u8_info
  cases fold
  · go_enter Try.func153, Try.ntmps153
    go_wp2_with (at_builtin; refine wpList_append_sl1 rfl _ _ 40 rfl u8_one w.heap.size 5 i0 (.int .u8 0) 1 Try.underlying40 hi hz0 hz1 hz2 rfl _ 0 [] rfl (World.ownsRow_nil _ _ _ _) a la ca xs rfl hA.1 (by unfold maxLen; omega) (by omega) (Nat.le_refl _) ?_; intro v' w5 hown' hgrow hat)
    go_ret
    refine ⟨_, rfl, ?_, (Below.refl _ _).grown hgrow (Nat.le_refl _) (fun k e => by cases e)⟩
    simpa [foldL, OwnB] using hown'
  · go_enter Try.func153, Try.ntmps153
    go_wp2_with fail
    refine (folded_l_any a la ca xs w hA hla).mono ?_
    rintro e w1 ⟨v, rfl, hown, hb⟩
    go_wp2
    go_ret
    exact ⟨_, rfl, hown, hb⟩

set_option maxHeartbeats 1000000 in
theorem text_any (fold : Bool) (a : Option Addr) (la ca : Nat) (xs : List Int) (w : World) (hA : Bys w a la xs) (hla : la ≤ 1000000) :
    Calls Try.prog 89 #[.bool fold, .slice a la ca] w fun e w' => ∃ v, e = .returned v ∧ OwnB w' w.heap.size v la (foldL fold xs) ∧ Below w.heap.size w w' := by
  obtain ⟨i0, hi, hz0, hz1, hz2⟩ := info_parts u8_info
  cases fold
  · have hA1 := hA.below ((Below.refl _ _).alloc (Nat.le_refl _) (.cells #[] 5))
    have hown0 : OwnB (w.alloc (.cells #[] 5)) w.heap.size (.slice (some ⟨w.heap.size, 0, none⟩) 0 0) 0 [] := World.ownsRow_lit w #[] 0 (Nat.le_refl _) (Nat.zero_le _) rfl
    go_enter Try.func89, Try.ntmps89
    go_wp2_with (at_builtin; refine wpList_append_sl1 rfl _ _ 40 rfl u8_one w.heap.size 5 i0 (.int .u8 0) 1 Try.underlying40 hi hz0 hz1 hz2 rfl _ 0 [] rfl hown0 a la ca xs rfl hA1.1 (by unfold maxLen; omega) (by omega) (by simp) ?_; intro v' w5 hown' hgrow hat)
    go_ret
    refine ⟨_, rfl, ?_, ((Below.refl _ _).alloc (Nat.le_refl _) _).grown hgrow (by simp) (fun k e => by cases e; exact Nat.le_refl _)⟩
    simpa [foldL, OwnB] using hown'
  · go_enter Try.func89, Try.ntmps89
    go_wp2_with fail
    refine (rfolded_any a la ca xs w hA hla).mono ?_
    rintro e w1 ⟨v, rfl, hown, hb⟩
    go_wp2
    go_ret
    exact ⟨_, rfl, hown, hb⟩

end Go.Proofs.Ytmpmjkbjnklgfaa
