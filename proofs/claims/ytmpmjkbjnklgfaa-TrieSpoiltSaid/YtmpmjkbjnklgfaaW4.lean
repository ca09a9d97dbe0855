/- Parts of the proof, one behind the other: O2, S2, S3, S4, S5, S6. No condition but what each theorem states. -/
import Derived.Maps.Own
import Derived.Maps.OwnOps
import Derived.Maps.OwnIn
import Derived.Maps.Views
import Derived.DeepKeys5
import Derived.Lib.MinMax
import Derived.Lib.OwnKind
import Derived.Test.YtmpmjkbjnklgfaaW2
import Derived.Test.YtmpmjkbjnklgfaaW3

/- Where words stand in a text (layer 6): the test and the iterator, walked. -/


namespace Go.Proofs.Ytmpmjkbjnklgfaa
open Go.RowKit Go.Sort
set_option linter.unusedVariables false
attribute [local go_sem] Oper.semAt_some
attribute [local simp] wide_fn wide_depth
attribute [local go_sem] wide_fn wide_depth

theorem stands_is {fold : Bool} {wss : List (List Int)} {text : List Int} {p k : Nat} {x : List Int} (hx : wss[k]? = some x) : stands fold wss text p k = atL fold text (p : Int) x := by
  unfold stands
  rw [hx, Option.getD_some]

set_option maxHeartbeats 2000000 in
theorem gat_any (b : Nat) (fold : Bool) (a ta : Option Addr) (la ca lt ct : Nat) (place : Int) (k : Nat) (wss : List (List Int)) (x text : List Int) (w : World) (hb : b < w.heap.size) (hf : w.cell? ⟨b, 0, none⟩ = some (.bool fold)) (hg : w.cell? ⟨b, 1, none⟩ = some (.slice a la ca))
    (hA : Wds w a la wss) (hT : Bys w ta lt text) (hla : la ≤ 1000000) (hlt : lt ≤ 1000000) (hct : lt ≤ ct) (hk : k < la) (hx : wss[k]? = some x) (hp : -9223372036854775808 ≤ place ∧ place ≤ 9223372036854775807) :
    Calls Try.prog 75 #[.pointer (some ⟨b, 0, none⟩), .slice ta lt ct, .int .i64 place, .int .i64 k] w fun e w' => e = .returned (.bool (atL fold text place x)) ∧ Below w.heap.size w w' := by
  obtain ⟨bb, off, a', l, c, x', rfl, hbl, hcell, hx', hX, hlc⟩ := hA.at_ hk
  obtain rfl : x = x' := by rw [hx] at hx'; exact Option.some.inj hx'
  have hc0 : ∀ d os, (grow (redrawn w d) os).cell? ⟨b, 0, none⟩ = some (.bool fold) := fun d os => ((below_regrown w d os).cell (p := ⟨b, 0, none⟩) hb).trans hf
  have hc1 : ∀ d os, (grow (redrawn w d) os).cell? ⟨b, 1, none⟩ = some (.slice (some ⟨bb, off, none⟩) la ca) := fun d os => ((below_regrown w d os).cell (p := ⟨b, 1, none⟩) hb).trans hg
  have hc2 : ∀ d os, (grow (redrawn w d) os).cell? ⟨bb, off + k, none⟩ = some (.slice a' l c) := fun d os => ((below_regrown w d os).cell (p := ⟨bb, off + k, none⟩) hbl).trans hcell
  have hT2 : ∀ d os, Bys (grow (redrawn w d) os) ta lt text := fun d os => hT.below (below_regrown w d os)
  have hX2 : ∀ d os, Bys (grow (redrawn w d) os) a' l x := fun d os => hX.below (below_regrown w d os)
  clear hx hx' hA hf hg hcell hT hX
  go_enter Try.func75, Try.ntmps75
  go_wp2
  refine wp_region_quiet_below mixed (by kernel_rfl) ?_
  repeat (go_big_quiet_step (exact grown_below (at_any fold ta a' lt ct l c place text x _ (hT2 _ _) (hX2 _ _) hct hlt hp)))
  refine wpQuiet_nil ?_
  rintro _ ⟨⟨dq, osq⟩, rfl⟩
  go_wp2
  go_ret
  exact ⟨rfl, below_regrown w dq osq⟩

theorem standing_any (b : Nat) (ta : Option Addr) (lt ct : Nat) (w : World) :
    Calls Try.prog 71 #[.pointer (some ⟨b, 0, none⟩), .slice ta lt ct] w fun e w' => e = .returned (.func (.func 106) #[] #[.pointer (some ⟨w.heap.size + 1, 0, none⟩), .pointer (some ⟨w.heap.size, 0, none⟩)]) ∧
      w' = (w.alloc (.cells #[.pointer (some ⟨b, 0, none⟩)] 141)).alloc (.cells #[.slice ta lt ct] 40) := by
  go_enter Try.func71, Try.ntmps71
  go_wp2
  go_ret
  exact ⟨rfl, rfl⟩

abbrev StP := { p : Nat × Nat // p.1 ≤ 1000000 ∧ p.2 ≤ 1000000 }
def stEnc (p : StP) : Array Value := #[.int .i64 p.1.1, .int .i64 p.1.2]
/-- What the caller's rounds keep: blocks, and the two cells of the set. -/
def keepG (S : Nat → Prop) (g : Nat) (W W' : World) : Prop := keepOn S W W' ∧ W'.cell? ⟨g, 0, none⟩ = W.cell? ⟨g, 0, none⟩ ∧ W'.cell? ⟨g, 1, none⟩ = W.cell? ⟨g, 1, none⟩ ∧ W.heap.size ≤ W'.heap.size
theorem keepG_t {S : Nat → Prop} {g : Nat} {A B C : World} (h : keepG S g A B) (k : keepG S g B C) : keepG S g A C := ⟨keepOn_t h.1 k.1, k.2.1.trans h.2.1, k.2.2.1.trans h.2.2.1, Nat.le_trans h.2.2.2 k.2.2.2⟩
theorem keepG_b {S : Nat → Prop} {g : Nat} {w : World} (hb : ∀ k, S k → k < w.heap.size) (hg : g < w.heap.size) (W : World) (l : Nat) (o o' : Obj) (hl : w.heap.size ≤ l) (h1 : W.heap[l]? = some o) (h2 : o.isCells = false) (h3 : o.isWalk = false) : keepG S g W (W.putObj l o') :=
  ⟨keepOn_b hb W l o o' hl h1 h2 h3, World.cell?_of_block (World.putObj_heap_other (by show g ≠ l; omega)), World.cell?_of_block (World.putObj_heap_other (by show g ≠ l; omega)), by simp [World.putObj]⟩
theorem keepG_below {S : Nat → Prop} {g : Nat} {w w' : World} (h : Below w.heap.size w w') (hS : ∀ k, S k → k < w.heap.size) (hg : g < w.heap.size) : keepG S g w w' := ⟨keepOn_of_below h hS, h.cell (p := ⟨g, 0, none⟩) hg, h.cell (p := ⟨g, 1, none⟩) hg, h.size⟩

/-- Some places' words. -/
def rowTo (fold : Bool) (wss : List (List Int)) (text : List Int) (p j : Nat) : List (Nat × Nat) := ((List.range j).filter fun k => stands fold wss text p k).map fun k => (p, k)
theorem rowTo_succ (fold : Bool) (wss : List (List Int)) (text : List Int) (p j : Nat) : rowTo fold wss text p (j + 1) = if stands fold wss text p j then rowTo fold wss text p j ++ [(p, j)] else rowTo fold wss text p j := by
  unfold rowTo
  rw [List.range_succ, List.filter_append]
  cases e : stands fold wss text p j <;> simp [e]
theorem rawTo_succ (fold : Bool) (wss : List (List Int)) (text : List Int) (n : Nat) : rawTo fold wss text (n + 1) = rawTo fold wss text n ++ rowTo fold wss text n wss.length := by
  simp [rawTo, rowTo, List.range_succ]
theorem rowTo_length (fold : Bool) (wss : List (List Int)) (text : List Int) (p j : Nat) : (rowTo fold wss text p j).length ≤ j := by
  unfold rowTo
  rw [List.length_map]
  have := List.length_filter_le (fun k => stands fold wss text p k) (List.range j)
  simpa using this
theorem rawTo_length (fold : Bool) (wss : List (List Int)) (text : List Int) : ∀ n, (rawTo fold wss text n).length ≤ n * wss.length
  | 0 => by simp [rawTo]
  | n + 1 => by
    have h1 := rawTo_length fold wss text n
    have h2 := rowTo_length fold wss text n wss.length
    rw [rawTo_succ, List.length_append, Nat.add_mul]
    omega

theorem rowTo_pre (fold : Bool) (wss : List (List Int)) (text : List Int) (p j : Nat) : ∀ m, j ≤ m → rowTo fold wss text p j <+: rowTo fold wss text p m := by
  intro m
  induction m with
  | zero => intro h; rw [show j = 0 by omega]; exact List.prefix_refl _
  | succ m ih =>
    intro h
    by_cases e : j = m + 1
    · rw [e]; exact List.prefix_refl _
    · refine (ih (by omega)).trans ?_
      rw [rowTo_succ]
      split
      · exact List.prefix_append _ _
      · exact List.prefix_refl _
theorem rawTo_pre (fold : Bool) (wss : List (List Int)) (text : List Int) (n : Nat) : ∀ m, n ≤ m → rawTo fold wss text n <+: rawTo fold wss text m := by
  intro m
  induction m with
  | zero => intro h; rw [show n = 0 by omega]; exact List.prefix_refl _
  | succ m ih =>
    intro h
    by_cases e : n = m + 1
    · rw [e]; exact List.prefix_refl _
    · refine (ih (by omega)).trans ?_
      rw [rawTo_succ]
      exact List.prefix_append _ _
theorem rawTo_part {fold : Bool} {wss : List (List Int)} {text : List Int} {p j n : Nat} (hp : p < n) (hj : j ≤ wss.length) : rawTo fold wss text p ++ rowTo fold wss text p j <+: rawTo fold wss text n := by
  refine List.IsPrefix.trans ?_ (rawTo_pre fold wss text (p + 1) n hp)
  rw [rawTo_succ]
  exact (List.prefix_append_right_inj _).2 (rowTo_pre fold wss text p j _ hj)

set_option maxRecDepth 100000 in
set_option maxHeartbeats 4000000 in
theorem standing_stops (fold : Bool) (a ta : Option Addr) (la ca lt ct g p1 p2 : Nat) (wss : List (List Int)) (text : List Int) (n : Nat) (w0 w : World) (S : Nat → Prop) (hA : Wds w0 a la wss) (hT : Bys w0 ta lt text) (hB0 : Below w0.heap.size w0 w) (hS : ∀ k, k < w0.heap.size → S k) (hS1 : S p1) (hS2 : S p2) (hSw : ∀ k, S k → k < w.heap.size) (hgw : g < w.heap.size)
    (hla : la ≤ 1000000) (hlt : lt ≤ 1000000) (hct : lt ≤ ct)
    (h1 : w.heap[p1]? = some (.cells #[.slice ta lt ct] 40 (0, 0))) (h2 : w.heap[p2]? = some (.cells #[.pointer (some ⟨g, 0, none⟩)] 141 (0, 0))) (g0 : w.cell? ⟨g, 0, none⟩ = some (.bool fold)) (g1 : w.cell? ⟨g, 1, none⟩ = some (.slice a la ca)) :
    SeqStopsK Fence.wide n Try.prog 106 #[.pointer (some ⟨p1, 0, none⟩), .pointer (some ⟨p2, 0, none⟩)] stEnc (keepG S g) (fun zs => zs.map Subtype.val = rawTo fold wss text (lt + 1)) (fun _ => True) ((rawTo fold wss text (lt + 1)).length + 1) w := by
  intro l J Jx W hW hJ hJx hY h0
  have hkW : keepG S g w W := keepG_below hW hSw hgw
  have cells : ∀ v : World, keepG S g w v → v.cell? ⟨p1, 0, none⟩ = some (.slice ta lt ct) ∧ v.cell? ⟨p2, 0, none⟩ = some (.pointer (some ⟨g, 0, none⟩)) ∧ v.cell? ⟨g, 0, none⟩ = some (.bool fold) ∧ v.cell? ⟨g, 1, none⟩ = some (.slice a la ca) := by
    intro v hv
    have e1 : v.heap[p1]? = _ := (hv.1 p1 hS1).trans h1
    have e2 : v.heap[p2]? = _ := (hv.1 p2 hS2).trans h2
    refine ⟨by simp [World.cell?, e1], by simp [World.cell?, e2], hv.2.1.trans g0, hv.2.2.1.trans g1⟩
  have hk0 : ∀ v : World, keepG S g w v → kept w0 v := fun v hv k hk => (hv.1 k (hS k hk)).trans (hB0.block k hk)
  have HL := Lib.hid hA.len
  have HA := Lib.hid hA
  have HT := Lib.hid hT
  clear hA hT g0 g1
  obtain ⟨c1, c2, c3, c4⟩ := cells W hkW
  refine callsIn_of_wp Try.func106 rfl trivial ?_ rfl
  simp only [Try.ntmps106, List.size_toArray, List.length_cons, List.length_nil, Nat.reduceAdd, Nat.reduceSub, Array.replicate_succ, Array.replicate_zero, List.push_toArray, List.append_toArray, List.nil_append, List.cons_append]
  gi_wp2
  clear c1 c2 c3 c4
  gi_loopw [9] (fun i wr => ∃ (p : Nat) (pre : List StP), p ≤ lt + 1 ∧ i = .int .i64 p ∧ Hid (pre.map Subtype.val = rawTo fold wss text p) ∧ J pre wr ∧ keepG S g w wr) (fun i _ => lt + 1 - (intOf i).toNat)
  case atStart => exact ⟨0, [], Nat.zero_le _, rfl, by simp [Hid, rawTo], h0, hkW⟩
  case round =>
    obtain ⟨p, pre, hp, rfl, HP, hj, hkr⟩ := hrel
    obtain ⟨c1, c2, c3, c4⟩ := cells wr hkr
    by_cases hplt : p < lt + 1
    · have hpd : decide ((p : Int) < (lt : Int) + 1) = true := by simp; omega
      gi_wp2
      clear c1 c2 c3 c4
      gi_loopw [18] (fun i wi => ∃ (j : Nat) (pre : List StP), j ≤ la ∧ i = .int .i64 j ∧ Hid (pre.map Subtype.val = rawTo fold wss text p ++ rowTo fold wss text p j) ∧ J pre wi ∧ keepG S g w wi) (fun i _ => la - (intOf i).toNat)
      case atStart => exact ⟨0, pre, Nat.zero_le _, rfl, by simpa [Hid, rowTo] using HP, hj, hkr⟩
      case round =>
        clear HP hj hkr
        obtain ⟨j, pre, hjl, rfl, HP, hj, hki⟩ := hrel
        obtain ⟨c1, c2, c3, c4⟩ := cells wr hki
        by_cases hjlt : j < la
        · have hAr : Wds wr a la wss := by
            have hk := hk0 wr hki
            obtain ⟨vs, e1, e2, e3⟩ := HA.out
            have hsz : w0.heap.size ≤ wr.heap.size := Nat.le_trans hB0.size hki.2.2.2
            exact ⟨vs, e1.kept hk hsz, e2, fun i v xs hv hx => ⟨⟨(e3 i v xs hv hx).1.1.kept hk hsz, (e3 i v xs hv hx).1.2⟩, (e3 i v xs hv hx).2⟩⟩
          have hTr : Bys wr ta lt text := ⟨HT.out.1.kept (hk0 wr hki) (Nat.le_trans hB0.size hki.2.2.2), HT.out.2⟩
          obtain ⟨x, hx⟩ : ∃ x, wss[j]? = some x := ⟨wss[j]'(by rw [HL.out]; exact hjlt), by simp⟩
          have hplen : pre.length < (rawTo fold wss text (lt + 1)).length + 1 := by
            have h1 := congrArg List.length HP.out
            rw [List.length_map, List.length_append] at h1
            have h2 : (rawTo fold wss text p).length + (rowTo fold wss text p j).length ≤ (rawTo fold wss text (lt + 1)).length := by
              have h3 : rawTo fold wss text p ++ rowTo fold wss text p j <+: rawTo fold wss text (lt + 1) := rawTo_part (by omega) (by rw [HL.out]; omega)
              have := h3.length_le
              rwa [List.length_append] at this
            omega
          have HST := Lib.hid (stands_is (fold := fold) (text := text) (p := p) hx)
          have hgr : g < wr.heap.size := Nat.lt_of_lt_of_le hgw hki.2.2.2
          have hcall := gat_any g fold a ta la ca lt ct (p : Int) j wss x text wr hgr c3 c4 hAr hTr hla hlt hct hjlt hx (by omega)
          have HC := Lib.hid hcall
          clear hcall hx hAr hTr
          gi_wp2_with fail
          refine (callsIn_wide.2 HC.out).mono ?_
          rintro e W3 ⟨rfl, hb3⟩
          have hj3 : J pre W3 := abides_below hJ hj hb3
          have hk3 : keepG S g w W3 := keepG_t hki (keepG_below hb3 (fun k hk => Nat.lt_of_lt_of_le (hSw k hk) hki.2.2.2) hgr)
          clear HC c1 c2 c3 c4
          obtain ⟨c1, c2, c3, c4⟩ := cells W3 hk3
          obtain ⟨q, hq⟩ : ∃ q, atL fold text (p : Int) x = q := ⟨_, rfl⟩
          have HQ : Hid (stands fold wss text p j = q) := by rw [Hid, HST.out]; exact hq
          rw [hq]
          clear hq HST
          cases q with
          | true =>
            have hpj : p ≤ 1000000 ∧ j ≤ 1000000 := by omega
            obtain ⟨fn, tmps, assign, body, hyl, hRo⟩ := hY pre ⟨(p, j), hpj⟩ W3 hj3 hplen
            have HS : Hid ((pre ++ [(⟨(p, j), hpj⟩ : StP)]).map Subtype.val = rawTo fold wss text p ++ rowTo fold wss text p (j + 1)) := by
              rw [rowTo_succ, HQ.out, if_pos rfl, ← List.append_assoc, ← HP.out]
              simp [Hid]
            dsimp only [stEnc] at hyl
            gi_wp2
            refine hRo.mono ?_
            rintro e W4 (⟨rfl, hJ4, hk4⟩ | ⟨rfl, hJx4⟩)
            · gi_wp2
              go_roundw
              case rel => exact ⟨j + 1, _, by omega, by go_num, HS, hJ4, keepG_t hk3 hk4⟩
              case measure => simp [intOf]; omega
            · gi_wp2
              refine bodyPost_ret (results_none rfl _ _ _) rfl ?_
              exact ⟨⟨_, rfl⟩, .inr ⟨_, trivial, hJx4⟩⟩
          | false =>
            have HS : Hid (pre.map Subtype.val = rawTo fold wss text p ++ rowTo fold wss text p (j + 1)) := by
              rw [rowTo_succ, HQ.out, if_neg (by simp)]
              exact HP
            gi_wp2
            go_roundw
            case rel => exact ⟨j + 1, _, by omega, by go_num, HS, hj3, hk3⟩
            case measure => simp [intOf]; omega
        · obtain rfl : j = la := by omega
          gi_wp2
          go_roundw
          case rel =>
            refine ⟨p + 1, pre, by omega, by go_num, ?_, hj, hki⟩
            rw [Hid, HP.out, rawTo_succ, HL.out]
          case measure => simp [intOf]; omega
    · obtain rfl : p = lt + 1 := by omega
      gi_wp2
      go_end0
      exact ⟨⟨_, rfl⟩, .inl ⟨pre, HP.out, hj⟩⟩

end Go.Proofs.Ytmpmjkbjnklgfaa

/- How many nodes words have (layer 5): walked to the code's own way to count. -/







namespace Go.Proofs.Ytmpmjkbjnklgfaa
open Go.RowKit Go.Sort Go.Maps
set_option linter.unusedVariables false
attribute [local go_sem] Oper.semAt_some
attribute [local simp] wide_fn wide_depth
attribute [local go_sem] wide_fn wide_depth

theorem laidOut5 : laidOutB Try.prog = true := by kernel_rfl
theorem edge_law : Keyed Try.prog 230 := Keyed.of_law (deep_law_laid laidOut5 (m := Try.prog.types.size + 1) (of_decide_eq_true (by kernel_rfl)) (of_decide_eq_true (by kernel_rfl)) (by kernel_rfl) (by kernel_rfl))
theorem zero_int (w : World) : (zeroValue 3).run Try.prog w = .ok (.int .i64 0) w := by kernel_rfl
theorem ekey (n c : Int) (hn : -9223372036854775808 ≤ n ∧ n ≤ 9223372036854775807) (hc : 0 ≤ c ∧ c ≤ 255) : ∃ kl, keyOf Try.prog 230 (.agg #[.int .i64 n, .int .u8 c]) = some kl := by
  have hk : Try.prog.keyType 230 = true := by kernel_rfl
  have h0 : 0 < Try.prog.types.size := of_decide_eq_true (by kernel_rfl)
  obtain ⟨m, hm⟩ : ∃ m, Try.prog.types.size + 1 = m + 1 + 1 := ⟨Try.prog.types.size - 1, by omega⟩
  have e1 : Try.prog.cellsOf 230 = 2 := by kernel_rfl
  have e2 : Try.prog.cellsOf 3 = 1 := by kernel_rfl
  have e3 : Try.prog.cellsOf 5 = 1 := by kernel_rfl
  have w1 : (Lit.int .i64 n).wf = true := by simp [Lit.wf, IntKind.min, IntKind.max, IntKind.signed, IntKind.bits]; omega
  have w2 : (Lit.int .u8 c).wf = true := by simp [Lit.wf, IntKind.min, IntKind.max, IntKind.signed, IntKind.bits]; omega
  unfold keyOf
  rw [Try.underlying230, hm]
  refine ⟨.string (keyBytes [.int .i64 n, .int .u8 c]), ?_⟩
  simp [hk, Value.formed, Value.cells, Program.keyLits, Try.underlying230, Try.underlying3, Try.underlying5, e1, e2, e3, w1, w2]

/-- The map's reading against the code's own way to count. -/
def KM (D : DataW Unit) (f : Int × Int → Option Int) : Prop := IsMap D ∧ ∀ n c kl, 0 ≤ n → n ≤ 2000000 → 0 ≤ c → c ≤ 255 → keyOf Try.prog 230 (.agg #[.int .i64 n, .int .u8 c]) = some kl →
  Maps.has D kl = (f (n, c)).isSome ∧ ∀ m, f (n, c) = some m → D.atKey kl (.lit (.int .i64 0)) = .lit (.int .i64 m)
theorem KM.start : KM (.map []) (fun _ => none) := ⟨isMap_empty, fun n c kl _ _ _ _ _ => ⟨rfl, fun m h => by cases h⟩⟩
theorem KM.put {D : DataW Unit} {f : Int × Int → Option Int} (h : KM D f) {n c m : Int} {kl : Lit} (hk : keyOf Try.prog 230 (.agg #[.int .i64 n, .int .u8 c]) = some kl) :
    KM (D.put kl (.lit (.int .i64 m))) (fun q => if q = (n, c) then some m else f q) := by
  have hkk := edge_law.key hk
  refine ⟨h.1.put _ _, fun n' c' kl' a1 a2 a3 a4 hk' => ?_⟩
  by_cases e : kl' = kl
  · subst e
    have := edge_law.inj hk' hk
    simp only [Value.agg.injEq, Array.mk.injEq, List.cons.injEq, Value.int.injEq, true_and, and_true] at this
    obtain ⟨rfl, rfl⟩ := this
    refine ⟨by rw [has_put_same h.1 hkk]; simp, fun k hm => ?_⟩
    simp only [if_true] at hm
    obtain rfl := Option.some.inj hm
    rw [atKey_put_same h.1 hkk]
  · have hne : ¬ ((n', c') = (n, c)) := by
      intro e2
      simp only [Prod.mk.injEq] at e2
      obtain ⟨rfl, rfl⟩ := e2
      rw [hk] at hk'
      exact e (Option.some.inj hk').symm
    simp only [if_neg hne]
    obtain ⟨h1, h2⟩ := h.2 n' c' kl' a1 a2 a3 a4 hk'
    refine ⟨by rw [has_put_other e, h1], fun k hm => ?_⟩
    rw [atKey_put_other e, h2 k hm]

theorem km_own {W : World} {b n g : Nat} {D : DataW Unit} {P : Program} {k : TypeId} {R : Value → Option (DataW Unit × List MemPlace)} (h : W.ownsMap P k R b n D) (hne : b ≠ g) (u : Value) : (W.setCell ⟨g, 0, none⟩ u).ownsMap P k R b n D :=
  h.kept (grownBy_setCell' W g u) (fun e => hne (by injection e))
theorem km_from {B b : Nat} {P : Program} {k : TypeId} {R : Value → Option (DataW Unit × List MemPlace)} (hb : b < B) {β : Type} (f : β → Nat) (p : β → DataW Unit → Prop) : OwnFrom B (fun s W => ∃ D, W.ownsMap P k R b (f s) D ∧ p s D) :=
  fun s A C row ⟨D, h, hp⟩ hg hr => ⟨D, h.kept hg (fun e => by have := (hr _ e.symm).1; omega), hp⟩
theorem new_at {W : World} {k : Nat} (h : W.heap.size = k) (t : TypeId) (v : Value) : Boxed (W.alloc (.cells #[v] t)) k t v := h ▸ Boxed.new W t v
theorem grown_set (W : World) (g : Nat) (u : Value) : W.grownBy (W.setCell ⟨g, 0, none⟩ u) (some g) := grownBy_setCell' W g u
/-- Blocks n, n + 2 and n + 3 may have turned, and new ones been laid. -/
structure Tn (n : Nat) (W W' : World) : Prop where
  os : W'.os = W.os
  tape : W'.tape = W.tape
  output : W'.output = W.output
  size : W.heap.size ≤ W'.heap.size
  block : ∀ k, k < W.heap.size → k < n ∨ n + 1 + 1 + 1 < k ∨ k = n + 1 → W'.heap[k]? = W.heap[k]?
theorem Tn.refl (n : Nat) (W : World) : Tn n W W := ⟨rfl, rfl, rfl, Nat.le_refl _, fun _ _ _ => rfl⟩
theorem Tn.grown {n : Nat} {A B C : World} {row : Option Nat} (h : Tn n A B) (hg : B.grownBy C row) (hr : ∀ k, row = some k → k = n ∨ k = n + 1 + 1 ∨ k = n + 1 + 1 + 1) : Tn n A C :=
  ⟨hg.os.trans h.os, hg.tape.trans h.tape, hg.output.trans h.output, Nat.le_trans h.size hg.size, fun k hk ho => (hg.block k (Nat.lt_of_lt_of_le hk h.size) (fun e => by have := hr k e.symm; omega)).trans (h.block k hk ho)⟩
theorem Tn.below {n : Nat} {w A B : World} (h : Tn n A B) (hb : Below n w A) (hn : n ≤ A.heap.size) : Below n w B :=
  ⟨h.os.trans hb.os, h.tape.trans hb.tape, h.output.trans hb.output, Nat.le_trans hb.size h.size, fun k hk => (h.block k (Nat.lt_of_lt_of_le hk hn) (.inl hk)).trans (hb.block k hk)⟩
theorem Tn.keeps {n B : Nat} {A C : World} (h : Tn n A C) (hB : n + 1 + 1 + 1 < B) : KeepsFrom B A C :=
  ⟨h.size, fun k o hk ho _ => (h.block k (Array.getElem?_eq_some_iff.1 ho).1 (.inr (.inl (by omega)))).trans ho⟩

set_option maxRecDepth 100000 in
set_option maxHeartbeats 4000000 in
theorem nodes_any (fold : Bool) (a : Option Addr) (la ca : Nat) (wss : List (List Int)) (w : World) (hA : Wds w a la wss) (hla : la ≤ 1000000) (hM : ∀ x ∈ wss, x.length ≤ 1000000) (hT : (begL fold wss).length ≤ 1000000) :
    Calls Try.prog 193 #[.bool fold, .slice a la ca] w fun e w' => e = .returned (.int .i64 (nrun (begL fold wss)).many) ∧ Below w.heap.size w w' := by
  have hmm := @run_makeMap Try.prog
  refine calls_of_wp_M Try.func193 rfl ?_
  simp only [Try.ntmps193, List.size_toArray, List.length_cons, List.length_nil, Nat.reduceAdd, Nat.reduceSub, Array.replicate_succ, Array.replicate_zero, List.push_toArray, List.append_toArray, List.nil_append, List.cons_append]
  go_wp2_with (go_at_call 198; refine (beginnings_any _ _ _ _ _).mono ?_; rintro e w' ⟨rfl, rfl⟩)
  obtain ⟨W3, hW3⟩ : ∃ W3, W3 = ((((((w.alloc (.map #[] 0)).alloc (.cells #[.map (some w.heap.size)] 225)).alloc (.cells #[.int .i64 1] 3)).alloc (.cells #[.int .i64 0] 3)).alloc (.cells #[.bool fold] 4)).alloc (.cells #[.slice a la ca] 37)) := ⟨_, rfl⟩
  rw [← hW3]
  have m0 : W3.ownsMap Try.prog 230 (plainElem Try.prog 3) w.heap.size 0 (.map [] : DataW Unit) := by
    rw [hW3]
    exact (((((World.ownsMap_made w Try.prog 230 (plainElem Try.prog 3)).alloc _).alloc _).alloc _).alloc _).alloc _
  have b1 : Boxed W3 (w.heap.size + 1) 225 (.map (some w.heap.size)) := by
    rw [hW3]
    exact ((((new_at (by simp) _ _).alloc _).alloc _).alloc _).alloc _
  have b2 : Boxed W3 (w.heap.size + 1 + 1) 3 (.int .i64 1) := by
    rw [hW3]
    exact (((new_at (by simp) _ _).alloc _).alloc _).alloc _
  have b3 : Boxed W3 (w.heap.size + 1 + 1 + 1) 3 (.int .i64 0) := by
    rw [hW3]
    exact ((new_at (by simp) _ _).alloc _).alloc _
  have b4 : Boxed W3 (w.heap.size + 1 + 1 + 1 + 1) 4 (.bool fold) := by
    rw [hW3]
    exact (new_at (by simp) _ _).alloc _
  have b5 : Boxed W3 (w.heap.size + 1 + 1 + 1 + 1 + 1) 37 (.slice a la ca) := by
    rw [hW3]
    exact new_at (by simp) _ _
  have hB3 : Below w.heap.size w W3 := by
    rw [hW3]
    exact ((((((Below.refl _ _).alloc (Nat.le_refl _) _).alloc (by simp) _).alloc (by simp; omega) _).alloc (by simp; omega) _).alloc (by simp; omega) _).alloc (by simp; omega) _
  have hs3 : W3.heap.size = w.heap.size + 1 + 1 + 1 + 1 + 1 + 1 := by rw [hW3]; simp
  clear hW3
  apply rangeF rfl (enters_of Try.func200 (by kernel_rfl) rfl) (beg_stops fold a la ca (w.heap.size + 1 + 1 + 1 + 1 + 1) (w.heap.size + 1 + 1 + 1 + 1) wss 8 w W3 (fun k => k < w.heap.size ∨ k = w.heap.size + 1 + 1 + 1 + 1 + 1 ∨ k = w.heap.size + 1 + 1 + 1 + 1) hA hB3 (fun k hk => .inl hk) (.inr (.inl rfl)) (.inr (.inr rfl)) (by intro k hk; omega) hla hM b5 b4)
    keepOn_t (keepOn_b (by intro k hk; omega)) (fun _ => rfl)
    (fun pre W => Boxed W (w.heap.size + 1) 225 (.map (some w.heap.size)) ∧ Boxed W (w.heap.size + 1 + 1) 3 (.int .i64 (nrun (pre.map Subtype.val)).many) ∧ Boxed W (w.heap.size + 1 + 1 + 1) 3 (.int .i64 (nrun (pre.map Subtype.val)).node) ∧
      (∃ D : DataW Unit, W.ownsMap Try.prog 230 (plainElem Try.prog 3) w.heap.size pre.length D ∧ KM D (nrun (pre.map Subtype.val)).f) ∧ Below w.heap.size w W ∧ W3.heap.size ≤ W.heap.size)
    (fun _ _ _ => False)
  case hI => exact OwnFrom.and (Own.from (boxed_own _ _ _) _) (OwnFrom.and (Own.from (boxed_own _ _ _) _) (OwnFrom.and (Own.from (boxed_own _ _ _) _) (OwnFrom.and (km_from (by omega) _ (fun (pre : List BgP) D => KM D (nrun (pre.map Subtype.val)).f)) (OwnFrom.and (ownFrom_below (Nat.le_refl _) (by omega)) (own_size _ _)))))
  case hIx => exact fun _ _ _ _ _ hs _ _ => hs
  case h0 => exact ⟨b1, b2, b3, ⟨_, m0, KM.start⟩, hB3, Nat.le_refl _⟩
  case hassign =>
    intro l x W K hK
    unfold bgEnc
    gi_wp2
    exact hK
  case hbody =>
    rintro l pre ⟨⟨first, c⟩, hc0, hc1⟩ W ⟨hb1, hb2, hb3, ⟨D, hown, hkm⟩, hB, hs⟩ hlen
    dsimp only at hc0 hc1 ⊢
    obtain ⟨g1, g2, g3, g4, _⟩ := nrun_bd (pre.map Subtype.val)
    rw [List.length_map] at g2 g4
    have wfm : (Lit.int .i64 (nrun (pre.map Subtype.val)).many).wf = true := by simp [Lit.wf, IntKind.min, IntKind.max, IntKind.signed, IntKind.bits]; omega
    cases first with
      | true =>
        have hownV : (W.setCell ⟨w.heap.size + 1 + 1 + 1, 0, none⟩ (.int .i64 0)).ownsMap Try.prog 230 (plainElem Try.prog 3) w.heap.size pre.length D := km_own hown (by omega) _
        have hb1V : Boxed (W.setCell ⟨w.heap.size + 1 + 1 + 1, 0, none⟩ (.int .i64 0)) (w.heap.size + 1) 225 (.map (some w.heap.size)) := hb1.other (by omega) _
        have hb2V : Boxed (W.setCell ⟨w.heap.size + 1 + 1 + 1, 0, none⟩ (.int .i64 0)) (w.heap.size + 1 + 1) 3 (.int .i64 (nrun (pre.map Subtype.val)).many) := hb2.other (by omega) _
        have hb3V : Boxed (W.setCell ⟨w.heap.size + 1 + 1 + 1, 0, none⟩ (.int .i64 0)) (w.heap.size + 1 + 1 + 1) 3 (.int .i64 0) := hb3.set _
        have hgV : W.grownBy (W.setCell ⟨w.heap.size + 1 + 1 + 1, 0, none⟩ (.int .i64 0)) (some (w.heap.size + 1 + 1 + 1)) := grown_set _ _ _
        have hsV : W.heap.size ≤ (W.setCell ⟨w.heap.size + 1 + 1 + 1, 0, none⟩ (.int .i64 0)).heap.size := hgV.size
        have hcc := hc1
        obtain ⟨kl, hkl⟩ := ekey 0 c (by omega) ⟨hc0, hc1⟩
        obtain ⟨hhas, hat0⟩ := hkm.2 0 c kl (by omega) (by omega) hc0 hc1 hkl
        have q1 := hb1V.alloc (.cells #[.int .i64 0, .int .u8 c] 230)
        have q2 := hb2V.alloc (.cells #[.int .i64 0, .int .u8 c] 230)
        have q3 := hb3V.alloc (.cells #[.int .i64 0, .int .u8 c] 230)
        have hcb1 := hb1.cell
        have hc2 := hb2.cell
        have hc3 := hb3.cell
        have hf2 := hb2.frozen
        have hf3 := hb3.frozen
        have r1 := q1.cell
        have r2 := q2.cell
        have r3 := q3.cell
        have s2 := q2.frozen
        have s3 := q3.frozen
        have HST := Lib.hid (nrun_snoc (pre.map Subtype.val) (true, c))
        cases hf : (nrun (pre.map Subtype.val)).f (0, c) with
        | some m =>
          have HF := Lib.hid hf
          rw [hf] at hhas
          have hat1 := hat0 m hf
          clear hf hat0
          gi_wp2_with (gi_at_lookup; refine wpListIn_lookup_own_ok_int _ rfl _ _ 225 rfl 230 3 .i64 edge_law Try.underlying225 Try.underlying3 (zero_int _) w.heap.size pre.length D rfl (hownV.alloc _) _ kl rfl hkl ?_; intro c' hat hwc; rw [hhas])
          obtain rfl : c' = m := by
            have hh := hat.symm.trans hat1
            simpa using hh
          have HN : Hid (nrun ((pre ++ [(⟨(true, c), hc0, hcc⟩ : BgP)]).map Subtype.val) = { nrun (pre.map Subtype.val) with node := c' }) := by
            rw [List.map_append, List.map_cons, List.map_nil, HST.out, nstep_found (by simpa using HF.out)]
            rfl
          have T := (((Tn.refl w.heap.size W).grown hgV (fun k e => by first | (cases e; omega) | cases e)).grown (World.grownBy_alloc _ (.cells #[.int .i64 0, .int .u8 c] 230) none) (fun k e => by cases e)).grown (grown_set _ (w.heap.size + 1 + 1 + 1) (.int .i64 c')) (fun k e => by cases e; omega)
          refine ⟨T.keeps (by omega), fun k hk => T.block k (by omega) (by omega), ?_⟩
          dsimp only
          rw [HN.out]
          exact ⟨q1.other (by omega) _, q2.other (by omega) _, q3.set _, ⟨D, by rw [List.length_append]; exact (km_own (hownV.alloc _) (by omega) _).mono (Nat.le_succ _), hkm⟩, T.below hB (by omega), by have := T.size; omega⟩
        | none =>
          have HF := Lib.hid hf
          rw [hf] at hhas
          clear hf hat0
          gi_wp2_with (first
            | (gi_at_lookup; refine wpListIn_lookup_own_ok_int _ rfl _ _ 225 rfl 230 3 .i64 edge_law Try.underlying225 Try.underlying3 (zero_int _) w.heap.size pre.length D rfl (hownV.alloc _) _ kl rfl hkl ?_; intro c' hat hwc; rw [hhas])
            | (gi_at_mapUpdate; refine wpListIn_mapUpdate_own _ rfl _ _ _ 225 rfl 230 3 edge_law Try.underlying225 _ w.heap.size pre.length D rfl (hownV.alloc _) (by unfold maxLen; omega) _ _ kl rfl rfl hkl _ [] (plainElem_int Try.underlying3 wfm) ?_; intro w5 hown5 hgrow5
               have q1' := q1.kept hgrow5 (by intro e; injection e; omega)
               have q2' := q2.kept hgrow5 (by intro e; injection e; omega)
               have q3' := q3.kept hgrow5 (by intro e; injection e; omega)
               have t2 := q2'.cell
               have t3 := q3'.cell
               have u2 := q2'.frozen
               have u3 := q3'.frozen)
            | gi_in)
          have HN : Hid (nrun ((pre ++ [(⟨(true, c), hc0, hcc⟩ : BgP)]).map Subtype.val) = { f := fun q => if q = (0, c) then some (nrun (pre.map Subtype.val)).many else (nrun (pre.map Subtype.val)).f q, many := (nrun (pre.map Subtype.val)).many + 1, node := (nrun (pre.map Subtype.val)).many }) := by
            rw [List.map_append, List.map_cons, List.map_nil, HST.out, nstep_new (by simpa using HF.out)]
            rfl
          have T := (((((Tn.refl w.heap.size W).grown hgV (fun k e => by first | (cases e; omega) | cases e)).grown (World.grownBy_alloc _ (.cells #[.int .i64 0, .int .u8 c] 230) none) (fun k e => by cases e)).grown hgrow5 (fun k e => by cases e; omega)).grown (grown_set _ (w.heap.size + 1 + 1) (.int .i64 ((nrun (pre.map Subtype.val)).many + 1))) (fun k e => by cases e; omega)).grown (grown_set _ (w.heap.size + 1 + 1 + 1) (.int .i64 (nrun (pre.map Subtype.val)).many)) (fun k e => by cases e; omega)
          refine ⟨T.keeps (by omega), fun k hk => T.block k (by omega) (by omega), ?_⟩
          dsimp only
          rw [HN.out]
          exact ⟨(q1'.other (by omega) _).other (by omega) _, (q2'.set _).other (by omega) _, (q3'.other (by omega) _).set _, ⟨_, by rw [List.length_append]; exact km_own (km_own hown5 (by omega) _) (by omega) _, hkm.put hkl⟩, T.below hB (by omega), by have := T.size; omega⟩
      | false =>
        have hownV : W.ownsMap Try.prog 230 (plainElem Try.prog 3) w.heap.size pre.length D := hown
        have hb1V : Boxed W (w.heap.size + 1) 225 (.map (some w.heap.size)) := hb1
        have hb2V : Boxed W (w.heap.size + 1 + 1) 3 (.int .i64 (nrun (pre.map Subtype.val)).many) := hb2
        have hb3V : Boxed W (w.heap.size + 1 + 1 + 1) 3 (.int .i64 (nrun (pre.map Subtype.val)).node) := hb3
        have hgV : W.grownBy W (some (w.heap.size + 1 + 1 + 1)) := World.grownBy.refl W _
        have hsV : W.heap.size ≤ W.heap.size := hgV.size
        have hcc := hc1
        obtain ⟨kl, hkl⟩ := ekey (nrun (pre.map Subtype.val)).node c (by omega) ⟨hc0, hc1⟩
        obtain ⟨hhas, hat0⟩ := hkm.2 (nrun (pre.map Subtype.val)).node c kl (by omega) (by omega) hc0 hc1 hkl
        have q1 := hb1V.alloc (.cells #[.int .i64 (nrun (pre.map Subtype.val)).node, .int .u8 c] 230)
        have q2 := hb2V.alloc (.cells #[.int .i64 (nrun (pre.map Subtype.val)).node, .int .u8 c] 230)
        have q3 := hb3V.alloc (.cells #[.int .i64 (nrun (pre.map Subtype.val)).node, .int .u8 c] 230)
        have hcb1 := hb1.cell
        have hc2 := hb2.cell
        have hc3 := hb3.cell
        have hf2 := hb2.frozen
        have hf3 := hb3.frozen
        have r1 := q1.cell
        have r2 := q2.cell
        have r3 := q3.cell
        have s2 := q2.frozen
        have s3 := q3.frozen
        have HST := Lib.hid (nrun_snoc (pre.map Subtype.val) (false, c))
        cases hf : (nrun (pre.map Subtype.val)).f ((nrun (pre.map Subtype.val)).node, c) with
        | some m =>
          have HF := Lib.hid hf
          rw [hf] at hhas
          have hat1 := hat0 m hf
          clear hf hat0
          gi_wp2_with (gi_at_lookup; refine wpListIn_lookup_own_ok_int _ rfl _ _ 225 rfl 230 3 .i64 edge_law Try.underlying225 Try.underlying3 (zero_int _) w.heap.size pre.length D rfl (hownV.alloc _) _ kl rfl hkl ?_; intro c' hat hwc; rw [hhas])
          obtain rfl : c' = m := by
            have hh := hat.symm.trans hat1
            simpa using hh
          have HN : Hid (nrun ((pre ++ [(⟨(false, c), hc0, hcc⟩ : BgP)]).map Subtype.val) = { nrun (pre.map Subtype.val) with node := c' }) := by
            rw [List.map_append, List.map_cons, List.map_nil, HST.out, nstep_found (by simpa using HF.out)]
            rfl
          have T := (((Tn.refl w.heap.size W).grown hgV (fun k e => by first | (cases e; omega) | cases e)).grown (World.grownBy_alloc _ (.cells #[.int .i64 (nrun (pre.map Subtype.val)).node, .int .u8 c] 230) none) (fun k e => by cases e)).grown (grown_set _ (w.heap.size + 1 + 1 + 1) (.int .i64 c')) (fun k e => by cases e; omega)
          refine ⟨T.keeps (by omega), fun k hk => T.block k (by omega) (by omega), ?_⟩
          dsimp only
          rw [HN.out]
          exact ⟨q1.other (by omega) _, q2.other (by omega) _, q3.set _, ⟨D, by rw [List.length_append]; exact (km_own (hownV.alloc _) (by omega) _).mono (Nat.le_succ _), hkm⟩, T.below hB (by omega), by have := T.size; omega⟩
        | none =>
          have HF := Lib.hid hf
          rw [hf] at hhas
          clear hf hat0
          gi_wp2_with (first
            | (gi_at_lookup; refine wpListIn_lookup_own_ok_int _ rfl _ _ 225 rfl 230 3 .i64 edge_law Try.underlying225 Try.underlying3 (zero_int _) w.heap.size pre.length D rfl (hownV.alloc _) _ kl rfl hkl ?_; intro c' hat hwc; rw [hhas])
            | (gi_at_mapUpdate; refine wpListIn_mapUpdate_own _ rfl _ _ _ 225 rfl 230 3 edge_law Try.underlying225 _ w.heap.size pre.length D rfl (hownV.alloc _) (by unfold maxLen; omega) _ _ kl rfl rfl hkl _ [] (plainElem_int Try.underlying3 wfm) ?_; intro w5 hown5 hgrow5
               have q1' := q1.kept hgrow5 (by intro e; injection e; omega)
               have q2' := q2.kept hgrow5 (by intro e; injection e; omega)
               have q3' := q3.kept hgrow5 (by intro e; injection e; omega)
               have t2 := q2'.cell
               have t3 := q3'.cell
               have u2 := q2'.frozen
               have u3 := q3'.frozen)
            | gi_in)
          have HN : Hid (nrun ((pre ++ [(⟨(false, c), hc0, hcc⟩ : BgP)]).map Subtype.val) = { f := fun q => if q = ((nrun (pre.map Subtype.val)).node, c) then some (nrun (pre.map Subtype.val)).many else (nrun (pre.map Subtype.val)).f q, many := (nrun (pre.map Subtype.val)).many + 1, node := (nrun (pre.map Subtype.val)).many }) := by
            rw [List.map_append, List.map_cons, List.map_nil, HST.out, nstep_new (by simpa using HF.out)]
            rfl
          have T := (((((Tn.refl w.heap.size W).grown hgV (fun k e => by first | (cases e; omega) | cases e)).grown (World.grownBy_alloc _ (.cells #[.int .i64 (nrun (pre.map Subtype.val)).node, .int .u8 c] 230) none) (fun k e => by cases e)).grown hgrow5 (fun k e => by cases e; omega)).grown (grown_set _ (w.heap.size + 1 + 1) (.int .i64 ((nrun (pre.map Subtype.val)).many + 1))) (fun k e => by cases e; omega)).grown (grown_set _ (w.heap.size + 1 + 1 + 1) (.int .i64 (nrun (pre.map Subtype.val)).many)) (fun k e => by cases e; omega)
          refine ⟨T.keeps (by omega), fun k hk => T.block k (by omega) (by omega), ?_⟩
          dsimp only
          rw [HN.out]
          exact ⟨(q1'.other (by omega) _).other (by omega) _, (q2'.set _).other (by omega) _, (q3'.other (by omega) _).set _, ⟨_, by rw [List.length_append]; exact km_own (km_own hown5 (by omega) _) (by omega) _, hkm.put hkl⟩, T.below hB (by omega), by have := T.size; omega⟩
  case hdone =>
    rintro D xs W hD hS ⟨hb1, hb2, hb3, hm, hB, hs⟩ hK
    have hc2 := hb2.cell
    go_wp2
    refine endM rfl hK (results_tmp rfl _ _ _) ⟨?_, put_below hB (by omega) (Nat.le_refl _) _⟩
    rw [← hS]
    rfl
  case hstop => exact fun _ _ _ _ _ _ h _ => h.elim

end Go.Proofs.Ytmpmjkbjnklgfaa

/- What there is of a list's words, and the errors that are asked (layer 5), walked. -/


namespace Go.Proofs.Ytmpmjkbjnklgfaa
open Go.RowKit Go.Sort
set_option linter.unusedVariables false

/-- The list that is looked at, as it lies. -/
abbrev lookV (W Bs Lg Sh : Int) (f sl : Value) : Array Value := #[.int .i64 W, .int .i64 Bs, .int .i64 Lg, .int .i64 Sh, f, sl]
theorem look_cells {w : World} {b : Nat} {t : TypeId} {W Bs Lg Sh : Int} {f sl : Value} (h : w.heap[b]? = some (.cells (lookV W Bs Lg Sh f sl) t (0, 0))) :
    w.cell? ⟨b, 0, none⟩ = some (.int .i64 W) ∧ w.cell? ⟨b, 1, none⟩ = some (.int .i64 Bs) ∧ w.cell? ⟨b, 2, none⟩ = some (.int .i64 Lg) ∧ w.cell? ⟨b, 3, none⟩ = some (.int .i64 Sh) ∧ w.cell? ⟨b, 4, none⟩ = some f ∧ w.cell? ⟨b, 5, none⟩ = some sl ∧
    w.frozen? ⟨b, 0, none⟩ = false ∧ w.frozen? ⟨b, 1, none⟩ = false ∧ w.frozen? ⟨b, 2, none⟩ = false ∧ w.frozen? ⟨b, 3, none⟩ = false := by
  simp [World.cell?, World.frozen?, h]
theorem set_at {w : World} {b i : Nat} {cs : Array Value} {t : TypeId} (h : w.heap[b]? = some (.cells cs t (0, 0))) (u : Value) : (w.setCell ⟨b, i, none⟩ u).heap[b]? = some (.cells (cs.setIfInBounds i u) t (0, 0)) := by
  simp [World.setCell, Array.getElem?_modify, h]
theorem grown_set2 (W : World) (g i : Nat) (u : Value) : W.grownBy (W.setCell ⟨g, i, none⟩ u) (some g) :=
  ⟨rfl, rfl, rfl, by simp [World.setCell], fun k _ hne => Below.heap_setCell W ⟨g, i, none⟩ u k (by intro e; exact hne (by rw [e]))⟩

set_option maxHeartbeats 1000000 in
theorem count_any (b : Nat) (W Bs Lg Sh : Int) (f sl : Value) (a : Option Addr) (l c : Nat) (w : World) (hb : w.heap[b]? = some (.cells (lookV W Bs Lg Sh f sl) 200 (0, 0)))
    (h1 : 0 ≤ W) (h2 : W ≤ 1000000) (h3 : 0 ≤ Bs) (h4 : Bs ≤ 1000000000000) (h5 : l ≤ 1000000) :
    Calls Try.prog 169 #[.pointer (some ⟨b, 0, none⟩), .slice a l c] w fun e w' => (∃ v, e = .returned v) ∧
      w'.heap[b]? = some (.cells (lookV (W + 1) (Bs + l) (max Lg l) (if W = 0 ∨ (l : Int) < Sh then l else Sh) f sl) 200 (0, 0)) ∧ w.grownBy w' (some b) := by
  obtain ⟨c0, c1, c2, c3, c4, c5, f0, f1, f2, f3⟩ := look_cells hb
  obtain ⟨M, hM⟩ : ∃ M, (if W = 0 ∨ (l : Int) < Sh then (l : Int) else Sh) = M := ⟨_, rfl⟩
  have HM : Hid ((if W = 0 ∨ (l : Int) < Sh then (l : Int) else Sh) = M) := hM
  rw [hM]
  clear hM
  by_cases hW : W = 0
  · subst hW
    obtain rfl : (l : Int) = M := by rw [← HM.out, if_pos (.inl rfl)]
    go_enter Try.func169, Try.ntmps169
    go_wp2
    go_end0
    refine ⟨⟨_, rfl⟩, ?_, (((grown_set2 _ _ _ _).trans (grown_set2 _ _ _ _)).trans (grown_set2 _ _ _ _)).trans (grown_set2 _ _ _ _)⟩
    simpa using set_at (i := 1) (set_at (i := 0) (set_at (i := 2) (set_at (i := 3) hb (.int .i64 l)) (.int .i64 (max Lg l))) (.int .i64 1)) (.int .i64 (Bs + l))
  · by_cases hS : (l : Int) < Sh
    · obtain rfl : (l : Int) = M := by rw [← HM.out, if_pos (.inr hS)]
      go_enter Try.func169, Try.ntmps169
      go_wp2
      go_end0
      refine ⟨⟨_, rfl⟩, ?_, (((grown_set2 _ _ _ _).trans (grown_set2 _ _ _ _)).trans (grown_set2 _ _ _ _)).trans (grown_set2 _ _ _ _)⟩
      simpa using set_at (i := 1) (set_at (i := 0) (set_at (i := 2) (set_at (i := 3) hb (.int .i64 l)) (.int .i64 (max Lg l))) (.int .i64 (W + 1))) (.int .i64 (Bs + l))
    · obtain rfl : Sh = M := by rw [← HM.out, if_neg (by omega)]
      go_enter Try.func169, Try.ntmps169
      go_wp2
      go_end0
      refine ⟨⟨_, rfl⟩, ?_, ((grown_set2 _ _ _ _).trans (grown_set2 _ _ _ _)).trans (grown_set2 _ _ _ _)⟩
      simpa using set_at (i := 1) (set_at (i := 0) (set_at (i := 2) hb (.int .i64 (max Lg l))) (.int .i64 (W + 1))) (.int .i64 (Bs + l))

/-- The six questions. -/
def askFn : Nat → FuncId
  | 0 => 187
  | 1 => 188
  | 2 => 189
  | 3 => 190
  | 4 => 191
  | _ => 192
theorem askFn_enters (k : Nat) (args : Array Value) (w : World) : Sem.run Try.prog (callFunc (askFn k) args) w = .ok (.enter (askFn k) args) w := by
  unfold askFn
  split
  · exact enters_of Try.func187 (by kernel_rfl) rfl args w
  · exact enters_of Try.func188 (by kernel_rfl) rfl args w
  · exact enters_of Try.func189 (by kernel_rfl) rfl args w
  · exact enters_of Try.func190 (by kernel_rfl) rfl args w
  · exact enters_of Try.func191 (by kernel_rfl) rfl args w
  · exact enters_of Try.func192 (by kernel_rfl) rfl args w

section
variable (p b : Nat) (W Bs Lg Sh : Int) (fold : Bool) (a : Option Addr) (la ca : Nat) (w : World) (hp : Boxed w p 221 (.pointer (some ⟨b, 0, none⟩))) (hb : w.heap[b]? = some (.cells (lookV W Bs Lg Sh (.bool fold) (.slice a la ca)) 200 (0, 0)))
include hp hb
theorem ask1_any : Calls Try.prog 187 #[.pointer (some ⟨p, 0, none⟩)] w fun e w' => e = .returned (.bool (decide (W = 0))) ∧ w = w' := by
  have cp := hp.cell
  obtain ⟨c0, c1, c2, c3, c4, c5, f0, f1, f2, f3⟩ := look_cells hb
  go_enter Try.func187, Try.ntmps187
  go_wp2
  go_ret
  exact ⟨rfl, rfl⟩
theorem ask2_any : Calls Try.prog 188 #[.pointer (some ⟨p, 0, none⟩)] w fun e w' => e = .returned (.bool (decide (W > 64))) ∧ w = w' := by
  have cp := hp.cell
  obtain ⟨c0, c1, c2, c3, c4, c5, f0, f1, f2, f3⟩ := look_cells hb
  go_enter Try.func188, Try.ntmps188
  go_wp2
  go_ret
  exact ⟨rfl, rfl⟩
theorem ask3_any : Calls Try.prog 189 #[.pointer (some ⟨p, 0, none⟩)] w fun e w' => e = .returned (.bool (decide (Sh = 0))) ∧ w = w' := by
  have cp := hp.cell
  obtain ⟨c0, c1, c2, c3, c4, c5, f0, f1, f2, f3⟩ := look_cells hb
  go_enter Try.func189, Try.ntmps189
  go_wp2
  go_ret
  exact ⟨rfl, rfl⟩
theorem ask4_any : Calls Try.prog 190 #[.pointer (some ⟨p, 0, none⟩)] w fun e w' => e = .returned (.bool (decide (Lg > 32))) ∧ w = w' := by
  have cp := hp.cell
  obtain ⟨c0, c1, c2, c3, c4, c5, f0, f1, f2, f3⟩ := look_cells hb
  go_enter Try.func190, Try.ntmps190
  go_wp2
  go_ret
  exact ⟨rfl, rfl⟩
theorem ask5_any : Calls Try.prog 191 #[.pointer (some ⟨p, 0, none⟩)] w fun e w' => e = .returned (.bool (decide (Bs > 600))) ∧ w = w' := by
  have cp := hp.cell
  obtain ⟨c0, c1, c2, c3, c4, c5, f0, f1, f2, f3⟩ := look_cells hb
  go_enter Try.func191, Try.ntmps191
  go_wp2
  go_ret
  exact ⟨rfl, rfl⟩
theorem ask6_any (wss : List (List Int)) (hA : Wds w a la wss) (hla : la ≤ 1000000) (hM : ∀ x ∈ wss, x.length ≤ 1000000) (hT : (begL fold wss).length ≤ 1000000) :
    Calls Try.prog 192 #[.pointer (some ⟨p, 0, none⟩)] w fun e w' => e = .returned (.bool (decide ((nrun (begL fold wss)).many > 400))) ∧ Below w.heap.size w w' := by
  have cp := hp.cell
  obtain ⟨c0, c1, c2, c3, c4, c5, f0, f1, f2, f3⟩ := look_cells hb
  have kp := cell_regrown cp
  have k4 := cell_regrown c4
  have k5 := cell_regrown c5
  have cN : ∀ d os, Calls Try.prog 193 #[.bool fold, .slice a la ca] (grow (redrawn w d) os) fun e w'' => e = .returned (.int .i64 (nrun (begL fold wss)).many) ∧ ∃ p : Regrown, w'' = grow (redrawn w p.d) p.os :=
    fun d os => Calls.regrown_of (nodes_any fold a la ca wss _ (hA.below (below_regrown w d os)) hla hM hT)
  go_enter Try.func192, Try.ntmps192
  go_wp2
  refine wp_region_quiet_below mixed (by kernel_rfl) ?_
  repeat (go_big_quiet_step (exact cN _ _))
  refine wpQuiet_nil ?_
  rintro _ ⟨⟨dq, osq⟩, rfl⟩
  go_wp2
  go_ret
  exact ⟨rfl, below_regrown _ dq osq⟩
end

end Go.Proofs.Ytmpmjkbjnklgfaa

/- Which error a list of words has (layer 5), walked. -/

namespace Go.Proofs.Ytmpmjkbjnklgfaa
open Go.RowKit Go.Sort
set_option linter.unusedVariables false
attribute [local go_sem] run_store_fn

theorem ask_any (k p b : Nat) (W Bs Lg Sh : Int) (fold : Bool) (a : Option Addr) (la ca : Nat) (w : World) (hp : Boxed w p 221 (.pointer (some ⟨b, 0, none⟩))) (hb : w.heap[b]? = some (.cells (lookV W Bs Lg Sh (.bool fold) (.slice a la ca)) 200 (0, 0)))
    (wss : List (List Int)) (hA : Wds w a la wss) (hla : la ≤ 1000000) (hM : ∀ x ∈ wss, x.length ≤ 1000000) (hT : (begL fold wss).length ≤ 1000000) :
    Calls Try.prog (askFn k) #[.pointer (some ⟨p, 0, none⟩)] w fun e w' => e = .returned (.bool (askB W Bs Lg Sh (nrun (begL fold wss)).many k)) ∧ Below w.heap.size w w' := by
  have same : ∀ {f : FuncId} {v : Value}, Calls Try.prog f #[.pointer (some ⟨p, 0, none⟩)] w (fun e w' => e = .returned v ∧ w = w') → Calls Try.prog f #[.pointer (some ⟨p, 0, none⟩)] w (fun e w' => e = .returned v ∧ Below w.heap.size w w') :=
    fun h => h.mono fun e w' ⟨h1, h2⟩ => ⟨h1, by rw [← h2]; exact Below.refl _ _⟩
  match k with
  | 0 => exact same (ask1_any p b W Bs Lg Sh fold a la ca w hp hb)
  | 1 => exact same (ask2_any p b W Bs Lg Sh fold a la ca w hp hb)
  | 2 => exact same (ask3_any p b W Bs Lg Sh fold a la ca w hp hb)
  | 3 => exact same (ask4_any p b W Bs Lg Sh fold a la ca w hp hb)
  | 4 => exact same (ask5_any p b W Bs Lg Sh fold a la ca w hp hb)
  | _ + 5 => exact ask6_any p b W Bs Lg Sh fold a la ca w hp hb wss hA hla hM hT

def askCells (p : Nat) : Array Value := #[.int .i64 50, .func (.func (askFn 0)) #[] #[.pointer (some ⟨p, 0, none⟩)], .int .i64 51, .func (.func (askFn 1)) #[] #[.pointer (some ⟨p, 0, none⟩)], .int .i64 52, .func (.func (askFn 2)) #[] #[.pointer (some ⟨p, 0, none⟩)],
  .int .i64 53, .func (.func (askFn 3)) #[] #[.pointer (some ⟨p, 0, none⟩)], .int .i64 54, .func (.func (askFn 4)) #[] #[.pointer (some ⟨p, 0, none⟩)], .int .i64 55, .func (.func (askFn 5)) #[] #[.pointer (some ⟨p, 0, none⟩)]]

set_option maxHeartbeats 1000000 in
theorem asks_any (b : Nat) (w : World) :
    Calls Try.prog 170 #[.pointer (some ⟨b, 0, none⟩)] w fun e w' => e = .returned (.slice (some ⟨w.heap.size + 1, 0, none⟩) 6 6) ∧
      w' = (w.alloc (.cells #[.pointer (some ⟨b, 0, none⟩)] 221)).alloc (.cells (askCells w.heap.size) 205) := by
  go_enter Try.func170, Try.ntmps170
  go_wp2
  go_ret
  exact ⟨rfl, rfl⟩

theorem ask_cells {w : World} {sb p : Nat} (h : w.heap[sb]? = some (.cells (askCells p) 205 (0, 0))) {k : Nat} (hk : k < 6) :
    w.cell? ⟨sb, k * 2, none⟩ = some (.int .i64 (50 + k)) ∧ w.cell? ⟨sb, k * 2 + 1, none⟩ = some (.func (.func (askFn k)) #[] #[.pointer (some ⟨p, 0, none⟩)]) := by
  have : k = 0 ∨ k = 1 ∨ k = 2 ∨ k = 3 ∨ k = 4 ∨ k = 5 := by omega
  rcases this with rfl | rfl | rfl | rfl | rfl | rfl <;> simp [World.cell?, h, askCells]

set_option maxHeartbeats 4000000 in
theorem check_any (fold : Bool) (a : Option Addr) (la ca : Nat) (wss : List (List Int)) (w : World) (hA : Wds w a la wss) (hla : la ≤ 1000000) (hM : ∀ x ∈ wss, x.length ≤ 1000000) (hT : (begL fold wss).length ≤ 1000000) :
    Calls Try.prog 151 #[.bool fold, .slice a la ca] w fun e w' => e = .returned (.int .i64 (checkP fold wss)) ∧ Below w.heap.size w w' := by
  have HL := Lib.hid hA.len
  go_enter Try.func151, Try.ntmps151
  go_wp2
  go_loopw [15] (fun i wr => ∃ k : Nat, k ≤ la ∧ i = .int .i64 k ∧ Below w.heap.size w wr ∧ wr.heap[w.heap.size]? = some (.cells (lookV (cnt (wss.take k)).1 (cnt (wss.take k)).2.1 (cnt (wss.take k)).2.2.1 (cnt (wss.take k)).2.2.2 (.bool fold) (.slice a la ca)) 200 (0, 0))) (fun i _ => la - (intOf i).toNat)
  case atStart => exact ⟨0, Nat.zero_le _, rfl, (Below.refl _ _).alloc (Nat.le_refl _) _, World.alloc_heap_new _ _⟩
  case round =>
    obtain ⟨k, hk, rfl, hBe, hlk⟩ := hrel
    by_cases hlt : k < la
    · obtain ⟨bb, off, a', l, c, x, rfl, hbl, hcell, hx, hX, hlc⟩ := (hA.below hBe).at_ hlt
      have hxl : l ≤ 1000000 := by have := mem_bd hM hx; rw [hX.len] at this; exact this
      obtain ⟨g1, g2, g3⟩ := cnt_bd (M := 1000000) (wss.take k) (fun y hy => hM y (List.mem_of_mem_take hy))
      have hkl : ((wss.take k).length : Int) = k := by rw [List.length_take, HL.out]; omega
      rw [hkl] at g1 g3
      have HX := Lib.hid hx
      have HC := Lib.hid hX.len
      clear hx hkl
      go_wp2_with fail
      refine (count_any w.heap.size _ _ _ _ (.bool fold) (.slice (some ⟨bb, off, none⟩) la ca) a' l c wr hlk (by omega) (by omega) g2 (by omega) hxl).mono ?_
      rintro e w1 ⟨⟨v, rfl⟩, hlk1, hg1⟩
      have hB1 : Below w.heap.size w w1 := hBe.grown hg1 (by have := hBe.size; omega) (fun k e => by cases e; exact Nat.le_refl _)
      have HN : Hid (cnt (wss.take (k + 1)) = cstep (cnt (wss.take k)) x) := by rw [take_step HX.out, cnt_snoc]; rfl
      go_wp2
      go_roundw
      case rel =>
        refine ⟨k + 1, by omega, by go_num, hB1, ?_⟩
        rw [HN.out]
        simp only [cstep, HC.out]
        exact hlk1
      case measure => simp [intOf]; omega
    · obtain rfl : k = la := by omega
      have hfull : wss.take k = wss := List.take_of_length_le (by have := HL.out; omega)
      rw [hfull] at hlk
      clear hfull
      have hsz1 : w.heap.size < wr.heap.size := (Array.getElem?_eq_some_iff.1 hlk).1
      have hAr := hA.below hBe
      go_wp2_with (go_at_call 170; refine (asks_any _ _).mono ?_; rintro e w' ⟨rfl, rfl⟩)
      obtain ⟨W2, hW2⟩ : ∃ W2, W2 = (wr.alloc (.cells #[.pointer (some ⟨w.heap.size, 0, none⟩)] 221)).alloc (.cells (askCells wr.heap.size) 205) := ⟨_, rfl⟩
      have hB2 : Below w.heap.size w W2 := by rw [hW2]; exact (hBe.alloc (by omega) _).alloc (by simp; omega) _
      have hBx : Below wr.heap.size wr W2 := by rw [hW2]; exact ((Below.refl _ _).alloc (Nat.le_refl _) _).alloc (by simp) _
      have hp2 : Boxed W2 wr.heap.size 221 (.pointer (some ⟨w.heap.size, 0, none⟩)) := by rw [hW2]; exact (Boxed.new _ _ _).alloc _
      have hs2 : W2.heap[wr.heap.size + 1]? = some (.cells (askCells wr.heap.size) 205 (0, 0)) := by
        rw [hW2]
        have := World.alloc_heap_new (wr.alloc (.cells #[.pointer (some ⟨w.heap.size, 0, none⟩)] 221)) (.cells (askCells wr.heap.size) 205)
        rwa [World.size_alloc] at this
      have hlk2 : W2.heap[w.heap.size]? = _ := (hBx.block _ hsz1).trans hlk
      have hA2 := hAr.below hBx
      have hz2 : W2.heap.size = wr.heap.size + 2 := by rw [hW2]; simp
      rw [← hW2]
      clear hW2 hBx hAr
      obtain ⟨pb, hpb⟩ : ∃ pb, wr.heap.size = pb := ⟨_, rfl⟩
      rw [hpb] at hp2 hs2 hz2 ⊢
      clear hpb
      go_loopw [25] (fun i wq => ∃ j : Nat, j ≤ 6 ∧ i = .int .i64 j ∧ Below W2.heap.size W2 wq ∧ Hid (∀ n, n < j → askB (cnt wss).1 (cnt wss).2.1 (cnt wss).2.2.1 (cnt wss).2.2.2 (nrun (begL fold wss)).many n = false)) (fun i _ => 6 - (intOf i).toNat)
      case atStart => exact ⟨0, by omega, rfl, Below.refl _ _, fun n hn => by omega⟩
      case round =>
        obtain ⟨j, hj, rfl, hBq, HJ⟩ := hrel
        have hBw : Below w.heap.size w wr := hB2.trans (hBq.mono hB2.size)
        by_cases hj6 : j < 6
        · obtain ⟨d0, d1⟩ := ask_cells ((hBq.block _ (Array.getElem?_eq_some_iff.1 hs2).1).trans hs2) hj6
          have he := askFn_enters j
          go_wp2_with fail
          have hpq : Boxed wr pb 221 (.pointer (some ⟨w.heap.size, 0, none⟩)) := (hBq.block _ hp2.lt).trans hp2
          have hlq : wr.heap[w.heap.size]? = _ := (hBq.block _ (Array.getElem?_eq_some_iff.1 hlk2).1).trans hlk2
          have hnew := World.alloc_heap_new wr (.cells #[.int .i64 (50 + (j : Int)), .func (.func (askFn j)) #[] #[.pointer (some ⟨pb, 0, none⟩)]] 205)
          refine (ask_any j pb w.heap.size _ _ _ _ fold a k ca _ (hpq.alloc _) ((Below.heap_alloc _ _ _ (Array.getElem?_eq_some_iff.1 hlq).1).trans hlq) wss ((hA2.below hBq).below ((Below.refl _ _).alloc (Nat.le_refl _) _)) hla hM hT).mono ?_
          rintro e w5 ⟨rfl, hb5⟩
          have hB5 : Below W2.heap.size W2 w5 := (hBq.alloc hBq.size _).trans (hb5.mono (by have := hBq.size; simp; omega))
          have hB5w : Below w.heap.size w w5 := hB2.trans (hB5.mono hB2.size)
          have hn5 : w5.heap[wr.heap.size]? = _ := (hb5.block _ (Array.getElem?_eq_some_iff.1 hnew).1).trans hnew
          have q0 : w5.cell? ⟨wr.heap.size, 0, none⟩ = some (.int .i64 (50 + (j : Int))) := by simp [World.cell?, hn5]
          cases e : askB (cnt wss).1 (cnt wss).2.1 (cnt wss).2.2.1 (cnt wss).2.2.2 (nrun (begL fold wss)).many j with
          | true =>
            have HC : Hid (checkP fold wss = 50 + (j : Int)) := firstAsk_hit hj6 HJ e
            go_wp2
            go_ret
            exact ⟨by rw [HC.out]; rfl, hB5w⟩
          | false =>
            have HJ2 : Hid (∀ n, n < j + 1 → askB (cnt wss).1 (cnt wss).2.1 (cnt wss).2.2.1 (cnt wss).2.2.2 (nrun (begL fold wss)).many n = false) := by
              intro n hn
              by_cases h : n = j
              · rw [h]; exact e
              · exact HJ n (by omega)
            go_wp2
            go_roundw
            case rel => exact ⟨j + 1, by omega, by go_num, hB5, HJ2⟩
            case measure => simp [intOf]; omega
        · obtain rfl : j = 6 := by omega
          have HC : Hid (checkP fold wss = 0) := firstAsk_none HJ
          go_wp2
          go_ret
          exact ⟨by rw [HC.out]; rfl, hBw⟩

end Go.Proofs.Ytmpmjkbjnklgfaa

/- A word's number, two sets that are the same (layer 5), walked. -/

namespace Go.Proofs.Ytmpmjkbjnklgfaa
open Go.RowKit Go.Sort
set_option linter.unusedVariables false

abbrev setV (fold : Bool) (a : Option Addr) (la ca : Nat) : Array Value := #[.bool fold, .slice a la ca]

set_option maxHeartbeats 1000000 in
theorem number_any (fold : Bool) (a b : Option Addr) (la ca lb cb : Nat) (xs : List Int) (wss : List (List Int)) (w : World) (hA : Bys w a la xs) (hB : Wds w b lb wss) (hlb : lb ≤ 1000000) (hM : ∀ x ∈ wss, x.length ≤ 1000000) :
    Calls Try.prog 152 #[.agg (setV fold b lb cb), .slice a la ca] w fun e w' => e = .returned (.tuple #[.int .i64 (if whichL fold xs wss < 0 then 0 else whichL fold xs wss), .bool (decide (0 ≤ whichL fold xs wss))]) ∧ Below w.heap.size w w' := by
  have hbd := whichL_bd fold xs wss
  have hA1 := hA.below ((Below.refl _ _).alloc (Nat.le_refl _) (.cells (setV fold b lb cb) 39))
  have hB1 := hB.below ((Below.refl _ _).alloc (Nat.le_refl _) (.cells (setV fold b lb cb) 39))
  obtain ⟨n, hn⟩ : ∃ n, whichL fold xs wss = n := ⟨_, rfl⟩
  have HN : Hid (whichL fold xs wss = n) := hn
  rw [hn] at hbd ⊢
  clear hn
  have hBz : ∀ w1, Below (w.alloc (.cells (setV fold b lb cb) 39)).heap.size (w.alloc (.cells (setV fold b lb cb) 39)) w1 → Below w.heap.size w w1 := fun w1 hb => ((Below.refl _ _).alloc (Nat.le_refl _) _).trans (hb.mono (by simp))
  by_cases h : n < 0
  · rw [if_pos h, decide_eq_false (by omega)]
    go_enter Try.func152, Try.ntmps152
    go_wp2_with fail
    refine (which_any fold a b la ca lb cb xs wss _ hA1 hB1 hlb hM).mono ?_
    rintro e w1 ⟨rfl, hb⟩
    rw [HN.out]
    go_wp2
    go_ret2
    exact ⟨rfl, hBz _ hb⟩
  · rw [if_neg h, decide_eq_true (by omega)]
    go_enter Try.func152, Try.ntmps152
    go_wp2_with fail
    refine (which_any fold a b la ca lb cb xs wss _ hA1 hB1 hlb hM).mono ?_
    rintro e w1 ⟨rfl, hb⟩
    rw [HN.out]
    go_wp2
    go_ret2
    exact ⟨rfl, hBz _ hb⟩

theorem equal_any (a b : Option Addr) (la ca lb cb : Nat) (xs ys : List Int) (w : World) (hA : Bys w a la xs) (hB : Bys w b lb ys) :
    Calls Try.prog 90 #[.slice a la ca, .slice b lb cb] w fun e w' => e = .returned (.bool (decide (xs = ys))) ∧ w = w' := by
  have c1 := conv_bys hA
  have c2 := conv_bys hB
  go_enter Try.func90, Try.ntmps90
  go_wp2
  go_ret
  refine ⟨?_, rfl⟩
  show Ending.returned (.bool ((strOfNums xs).toList == (strOfNums ys).toList)) = _
  rw [str_beq hA.2 hB.2]

/-- Two sets that are the same: lists of the same words. -/
def sameS (f g : Bool) (wss vss : List (List Int)) : Bool := f == g && decide (wss = vss)
theorem sameS_no {f g : Bool} {wss vss : List (List Int)} (h : f ≠ g ∨ wss.length ≠ vss.length) : sameS f g wss vss = false := by
  rcases h with h | h
  · cases f <;> cases g <;> simp_all [sameS]
  · have : wss ≠ vss := fun e => h (by rw [e])
    simp [sameS, this]

set_option maxHeartbeats 1000000 in
theorem sames_any (f g : Bool) (a b : Option Addr) (la ca lb cb : Nat) (wss vss : List (List Int)) (w : World) (hA : Wds w a la wss) (hB : Wds w b lb vss) (hla : la ≤ 1000000) :
    Calls Try.prog 120 #[.agg (setV f a la ca), .agg (setV g b lb cb)] w fun e w' => e = .returned (.bool (sameS f g wss vss)) ∧ Below w.heap.size w w' := by
  have hBx : Below w.heap.size w ((w.alloc (.cells (setV f a la ca) 39)).alloc (.cells (setV g b lb cb) 39)) := ((Below.refl _ _).alloc (Nat.le_refl _) _).alloc (by simp) _
  have HA := Lib.hid hA.len
  have HB := Lib.hid hB.len
  by_cases hfg : f = g
  · subst hfg
    by_cases hl : la = lb
    · subst hl
      have hA1 := hA.below hBx
      have hB1 := hB.below hBx
      clear hA hB
      go_enter Try.func120, Try.ntmps120
      go_wp2
      go_loop [24] (fun i => ∃ k : Nat, k ≤ la ∧ i = .int .i64 k ∧ Hid (wss.take k = vss.take k)) (fun i => la - (intOf i).toNat)
      case atStart => exact ⟨0, Nat.zero_le _, rfl, by simp [Hid]⟩
      case round =>
        obtain ⟨k, hk, rfl, HK⟩ := hrel
        by_cases hlt : k < la
        · obtain ⟨bb, off, a', l, c, x, rfl, hbl, hcell, hx, hX, hlc⟩ := hA1.at_ hlt
          obtain ⟨bb2, off2, a2, l2, c2, y, rfl, hbl2, hcell2, hy, hY, hlc2⟩ := hB1.at_ hlt
          go_wp2_with fail
          refine (equal_any a' a2 l c l2 c2 x y _ hX hY).mono ?_
          rintro e w1 ⟨rfl, rfl⟩
          have HX := Lib.hid hx
          have HY := Lib.hid hy
          clear hx hy
          by_cases h : x = y
          · rw [decide_eq_true h]
            have HS : Hid (wss.take (k + 1) = vss.take (k + 1)) := by rw [take_step HX.out, take_step HY.out, HK.out, h]; rfl
            clear h
            go_wp2
            go_round
            case rel => exact ⟨k + 1, by omega, by go_num, HS⟩
            case measure => simp [intOf]; omega
          · rw [decide_eq_false h]
            have HS : Hid (sameS f f wss vss = false) := by
              have : wss ≠ vss := fun e => by
                have h1 := HX.out
                rw [e, HY.out] at h1
                exact h (Option.some.inj h1).symm
              simp [Hid, sameS, this]
            clear h
            go_wp2
            go_ret
            exact ⟨by rw [HS.out]; rfl, hBx⟩
        · obtain rfl : k = la := by omega
          have HS : Hid (sameS f f wss vss = true) := by
            have h := HK.out
            rw [List.take_of_length_le (by rw [HA.out]; exact Nat.le_refl _), List.take_of_length_le (by rw [HB.out]; exact Nat.le_refl _)] at h
            simp [Hid, sameS, h]
          go_wp2
          go_ret
          exact ⟨by rw [HS.out]; rfl, hBx⟩
    · have HS : Hid (sameS f f wss vss = false) := sameS_no (.inr (by rw [HA.out, HB.out]; exact hl))
      have hne : ((la : Int) != (lb : Int)) = true := by simp; omega
      go_enter Try.func120, Try.ntmps120
      go_wp2
      all_goals
        go_ret
        exact ⟨by rw [HS.out]; rfl, hBx⟩
  · have HS : Hid (sameS f g wss vss = false) := sameS_no (.inl hfg)
    have hne : (f != g) = true := by simp [hfg]
    go_enter Try.func120, Try.ntmps120
    go_wp2
    all_goals
      go_ret
      exact ⟨by rw [HS.out]; rfl, hBx⟩

end Go.Proofs.Ytmpmjkbjnklgfaa

/- A row of texts that the call makes, each in memory of its own. -/


namespace Go.Proofs.Ytmpmjkbjnklgfaa
open Go.RowKit Go.Sort
set_option linter.unusedVariables false

theorem own_far {w : World} {B size n g : Nat} {e t : TypeId} {v : Value} {xs : List Value} {cs : Array Value} {fz : Nat × Nat} (h : w.ownsRow B e size v n xs) (hg : w.heap[g]? = some (.cells cs t fz)) (hne : t ≠ e) : v.ownBlock ≠ some g := by
  intro hv
  obtain ⟨c, f, hc⟩ := Lib.ownsRow_kind h g hv
  rw [hc] at hg
  injection hg with hg
  injection hg with _ ht
  exact hne ht.symm
theorem own_below_ {w w' : World} {B size n : Nat} {e : TypeId} {v : Value} {xs : List Value} (h : w.ownsRow B e size v n xs) (hb : Below w.heap.size w w') : w'.ownsRow B e size v n xs :=
  h.kept (row := none) (grownBy_of_below hb) (by cases v.ownBlock <;> simp)

/-- A row of texts that the call made. -/
def OwnW (w : World) (base : Nat) (v : Value) (wss : List (List Int)) : Prop :=
  ∃ es : List Value, w.ownsRow base 40 1 v wss.length es ∧ es.length = wss.length ∧ ∀ (i : Nat) (e : Value) (xs : List Int), es[i]? = some e → wss[i]? = some xs → OwnB w base e xs.length xs ∧ ∀ x ∈ xs, 0 ≤ x ∧ x ≤ 255
theorem OwnW.nil (w : World) (base : Nat) : OwnW w base (.slice none 0 0) [] := ⟨[], World.ownsRow_nil _ _ _ _, rfl, fun i e xs h => by simp at h⟩
theorem OwnW.below {w w' : World} {base : Nat} {v : Value} {wss : List (List Int)} (h : OwnW w base v wss) (hb : Below w.heap.size w w') : OwnW w' base v wss := by
  obtain ⟨es, h1, h2, h3⟩ := h
  exact ⟨es, own_below_ h1 hb, h2, fun i e xs he hx => ⟨own_below_ (h3 i e xs he hx).1 hb, (h3 i e xs he hx).2⟩⟩
/-- .. a store into a block of another kind leaves it. -/
theorem OwnW.turned {w w' : World} {base g : Nat} {v : Value} {wss : List (List Int)} {cs : Array Value} {t : TypeId} {fz : Nat × Nat} (h : OwnW w base v wss) (hb : w.grownBy w' (some g)) (hg : w.heap[g]? = some (.cells cs t fz)) (h1 : t ≠ 40) (h2 : t ≠ 5) : OwnW w' base v wss := by
  obtain ⟨es, e1, e2, e3⟩ := h
  exact ⟨es, e1.kept hb (.inr (own_far e1 hg h1)), e2, fun i e xs he hx => ⟨(e3 i e xs he hx).1.kept hb (.inr (own_far (e3 i e xs he hx).1 hg h2)), (e3 i e xs he hx).2⟩⟩
theorem OwnW.wds {w : World} {base : Nat} {v : Value} {wss : List (List Int)} (h : OwnW w base v wss) : ∃ a c, v = .slice a wss.length c ∧ wss.length ≤ c ∧ Wds w a wss.length wss := by
  obtain ⟨es, h1, h2, h3⟩ := h
  have hv : ∀ (i : Nat) (e : Value), es[i]? = some e → ∃ a l c xs, e = Value.slice a l c ∧ wss[i]? = some xs ∧ Bys w a l xs ∧ l ≤ c := by
    intro i e he
    have hi := (List.getElem?_eq_some_iff.1 he).1
    obtain ⟨xs, hx⟩ : ∃ xs, wss[i]? = some xs := ⟨wss[i]'(by omega), by simp⟩
    obtain ⟨ho, hb⟩ := h3 i e xs he hx
    obtain ⟨a, c, e1, hc, hB⟩ := own_bys ho hb
    exact ⟨a, _, c, xs, e1, hx, hB, hc⟩
  let f : Value → Option Addr × Nat × Nat := fun e => match e with | .slice a l c => (a, l, c) | _ => (none, 0, 0)
  have hmap : (es.map f).map (fun v => Value.slice v.1 v.2.1 v.2.2) = es := by
    apply List.ext_getElem?
    intro i
    rw [List.map_map, List.getElem?_map]
    cases he : es[i]? with
    | none => rfl
    | some e =>
      obtain ⟨a, l, c, xs, rfl, _⟩ := hv i e he
      rfl
  obtain ⟨a, c, e1, hc, hs⟩ := own_sl1 (enc := fun v : Option Addr × Nat × Nat => Value.slice v.1 v.2.1 v.2.2) (xs := es.map f) (by rw [hmap]; exact h1)
  refine ⟨a, c, e1, hc, es.map f, hs, by rw [List.length_map, h2], fun i v xs hvv hx => ?_⟩
  rw [List.getElem?_map, Option.map_eq_some_iff] at hvv
  obtain ⟨e, he, rfl⟩ := hvv
  obtain ⟨a', l, c', xs', rfl, hx', hB, hl⟩ := hv i e he
  rw [hx] at hx'
  obtain rfl := Option.some.inj hx'
  exact ⟨hB, hl⟩
theorem OwnW.step {W w' : World} {base : Nat} {v v' e : Value} {wss : List (List Int)} {xs : List Int} {es : List Value} (h1 : W.ownsRow base 40 1 v wss.length es) (h2 : es.length = wss.length)
    (h3 : ∀ (i : Nat) (e : Value) (xs : List Int), es[i]? = some e → wss[i]? = some xs → OwnB W base e xs.length xs ∧ ∀ x ∈ xs, 0 ≤ x ∧ x ≤ 255)
    (he : OwnB W base e xs.length xs) (hx : ∀ x ∈ xs, 0 ≤ x ∧ x ≤ 255) (hown : w'.ownsRow base 40 1 v' (wss.length + 1) (es ++ [e])) (hg : W.grownBy w' v.ownBlock) : OwnW w' base v' (wss ++ [xs]) := by
  have far : ∀ {e : Value} {n : Nat} {xs : List Int}, OwnB W base e n xs → e.ownBlock = none ∨ e.ownBlock ≠ v.ownBlock := by
    intro e n xs ho
    cases hv : v.ownBlock with
    | none => cases e.ownBlock <;> simp
    | some g =>
      right
      obtain ⟨c, fz, hc⟩ := Lib.ownsRow_kind h1 g hv
      exact own_far ho hc (of_decide_eq_true (by kernel_rfl))
  refine ⟨es ++ [e], by rw [List.length_append]; exact hown, by simp [h2], fun i e' ys he' hy => ?_⟩
  rw [List.getElem?_append] at he' hy
  by_cases hi : i < es.length
  · rw [if_pos hi] at he'
    rw [if_pos (by omega)] at hy
    obtain ⟨ho, hb⟩ := h3 i e' ys he' hy
    exact ⟨ho.kept hg (far ho), hb⟩
  · rw [if_neg hi] at he'
    rw [if_neg (by omega)] at hy
    have hi0 : i - es.length = 0 := by
      have := (List.getElem?_eq_some_iff.1 he').1
      simp at this
      omega
    rw [hi0] at he'
    rw [show i - wss.length = 0 by omega] at hy
    simp at he' hy
    subst he' hy
    exact ⟨he.kept hg (far he), hx⟩

/-- Words, each once, folded. -/
def addW (fold : Bool) (acc : List (List Int)) (x : List Int) : List (List Int) := if whichL fold x acc < 0 then acc ++ [foldL fold x] else acc
def makeL (fold : Bool) (wss : List (List Int)) : List (List Int) := wss.foldl (addW fold) []
theorem makeL_snoc (fold : Bool) (l : List (List Int)) (x : List Int) : makeL fold (l ++ [x]) = addW fold (makeL fold l) x := by simp [makeL, List.foldl_append]
theorem makeL_len (fold : Bool) (l : List (List Int)) : (makeL fold l).length ≤ l.length := by
  obtain ⟨n, hn⟩ : ∃ n, l.length = n := ⟨_, rfl⟩
  induction n generalizing l with
  | zero => obtain rfl := List.eq_nil_of_length_eq_zero hn; simp [makeL]
  | succ n ih =>
    obtain ⟨l', x, rfl⟩ : ∃ l' x, l = l' ++ [x] := ⟨l.dropLast, l.getLast (by intro h; simp [h] at hn), (List.dropLast_concat_getLast _).symm⟩
    have := ih l' (by simpa using hn)
    rw [makeL_snoc]
    unfold addW
    split <;> simp <;> omega
theorem makeL_mem {fold : Bool} {M : Nat} (l : List (List Int)) (h : ∀ x ∈ l, x.length ≤ M) : ∀ x ∈ makeL fold l, x.length ≤ M := by
  obtain ⟨n, hn⟩ : ∃ n, l.length = n := ⟨_, rfl⟩
  induction n generalizing l with
  | zero => obtain rfl := List.eq_nil_of_length_eq_zero hn; simp [makeL]
  | succ n ih =>
    obtain ⟨l', x, rfl⟩ : ∃ l' x, l = l' ++ [x] := ⟨l.dropLast, l.getLast (by intro h; simp [h] at hn), (List.dropLast_concat_getLast _).symm⟩
    have ih' := ih l' (fun y hy => h y (by simp [hy])) (by simpa using hn)
    rw [makeL_snoc]
    unfold addW
    split
    · intro y hy
      rcases List.mem_append.1 hy with hy | hy
      · exact ih' y hy
      · simp at hy; rw [hy, foldL_length]; exact h x (by simp)
    · exact ih'

end Go.Proofs.Ytmpmjkbjnklgfaa
