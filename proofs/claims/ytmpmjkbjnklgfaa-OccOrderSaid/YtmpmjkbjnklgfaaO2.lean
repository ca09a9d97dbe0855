/- Where words stand in a text (layer 6): the test and the iterator, walked. -/
import Derived.Test.YtmpmjkbjnklgfaaO1
import Derived.Test.YtmpmjkbjnklgfaaS1
namespace Go.Proofs.Ytmpmjkbjnklgfaa
open Go.RowKit Go.Sort
set_option linter.unusedVariables false
attribute [local go_sem] Oper.semAt_some
attribute [local simp] wide_fn wide_depth
attribute [local go_sem] wide_fn wide_depth

theorem stands_is {fold : Bool} {wss : List (List Int)} {text : List Int} {p k : Nat} {x : List Int} (hx : wss[k]? = some x) : stands fold wss text p k = atL fold text (p : Int) x := by
  unfold stands
  rw [hx, Option.getD_some]

set_option maxHeartbeats 2000000 in
theorem gat_any (b : Nat) (fold : Bool) (a ta : Option Addr) (la ca lt ct : Nat) (place : Int) (k : Nat) (wss : List (List Int)) (x text : List Int) (w : World) (hb : b < w.heap.size) (hf : w.cell? ⟨b, 0, none⟩ = some (.bool fold)) (hg : w.cell? ⟨b, 1, none⟩ = some (.slice a la ca))
    (hA : Wds w a la wss) (hT : Bys w ta lt text) (hla : la ≤ 1000000) (hlt : lt ≤ 1000000) (hct : lt ≤ ct) (hk : k < la) (hx : wss[k]? = some x) (hp : -9223372036854775808 ≤ place ∧ place ≤ 9223372036854775807) :
    Calls Try.prog 75 #[.pointer (some ⟨b, 0, none⟩), .slice ta lt ct, .int .i64 place, .int .i64 k] w fun e w' => e = .returned (.bool (atL fold text place x)) ∧ Below w.heap.size w w' := by
  obtain ⟨bb, off, a', l, c, x', rfl, hbl, hcell, hx', hX, hlc⟩ := hA.at_ hk
  obtain rfl : x = x' := by rw [hx] at hx'; exact Option.some.inj hx'
  have hc0 : ∀ d os, (grow (redrawn w d) os).cell? ⟨b, 0, none⟩ = some (.bool fold) := fun d os => ((below_regrown w d os).cell (p := ⟨b, 0, none⟩) hb).trans hf
  have hc1 : ∀ d os, (grow (redrawn w d) os).cell? ⟨b, 1, none⟩ = some (.slice (some ⟨bb, off, none⟩) la ca) := fun d os => ((below_regrown w d os).cell (p := ⟨b, 1, none⟩) hb).trans hg
  have hc2 : ∀ d os, (grow (redrawn w d) os).cell? ⟨bb, off + k, none⟩ = some (.slice a' l c) := fun d os => ((below_regrown w d os).cell (p := ⟨bb, off + k, none⟩) hbl).trans hcell
  have hT2 : ∀ d os, Bys (grow (redrawn w d) os) ta lt text := fun d os => hT.below (below_regrown w d os)
  have hX2 : ∀ d os, Bys (grow (redrawn w d) os) a' l x := fun d os => hX.below (below_regrown w d os)
  clear hx hx' hA hf hg hcell hT hX
  go_enter Try.func75, Try.ntmps75
  go_wp2
  refine wp_region_quiet_below mixed (by kernel_rfl) ?_
  repeat (go_big_quiet_step (exact grown_below (at_any fold ta a' lt ct l c place text x _ (hT2 _ _) (hX2 _ _) hct hlt hp)))
  refine wpQuiet_nil ?_
  rintro _ ⟨⟨dq, osq⟩, rfl⟩
  go_wp2
  go_ret
  exact ⟨rfl, below_regrown w dq osq⟩

theorem standing_any (b : Nat) (ta : Option Addr) (lt ct : Nat) (w : World) :
    Calls Try.prog 71 #[.pointer (some ⟨b, 0, none⟩), .slice ta lt ct] w fun e w' => e = .returned (.func (.func 106) #[] #[.pointer (some ⟨w.heap.size + 1, 0, none⟩), .pointer (some ⟨w.heap.size, 0, none⟩)]) ∧
      w' = (w.alloc (.cells #[.pointer (some ⟨b, 0, none⟩)] 141)).alloc (.cells #[.slice ta lt ct] 40) := by
  go_enter Try.func71, Try.ntmps71
  go_wp2
  go_ret
  exact ⟨rfl, rfl⟩

abbrev StP := { p : Nat × Nat // p.1 ≤ 1000000 ∧ p.2 ≤ 1000000 }
def stEnc (p : StP) : Array Value := #[.int .i64 p.1.1, .int .i64 p.1.2]
/-- What the caller's rounds keep: blocks, and the two cells of the set. -/
def keepG (S : Nat → Prop) (g : Nat) (W W' : World) : Prop := keepOn S W W' ∧ W'.cell? ⟨g, 0, none⟩ = W.cell? ⟨g, 0, none⟩ ∧ W'.cell? ⟨g, 1, none⟩ = W.cell? ⟨g, 1, none⟩ ∧ W.heap.size ≤ W'.heap.size
theorem keepG_t {S : Nat → Prop} {g : Nat} {A B C : World} (h : keepG S g A B) (k : keepG S g B C) : keepG S g A C := ⟨keepOn_t h.1 k.1, k.2.1.trans h.2.1, k.2.2.1.trans h.2.2.1, Nat.le_trans h.2.2.2 k.2.2.2⟩
theorem keepG_b {S : Nat → Prop} {g : Nat} {w : World} (hb : ∀ k, S k → k < w.heap.size) (hg : g < w.heap.size) (W : World) (l : Nat) (o o' : Obj) (hl : w.heap.size ≤ l) (h1 : W.heap[l]? = some o) (h2 : o.isCells = false) (h3 : o.isWalk = false) : keepG S g W (W.putObj l o') :=
  ⟨keepOn_b hb W l o o' hl h1 h2 h3, World.cell?_of_block (World.putObj_heap_other (by show g ≠ l; omega)), World.cell?_of_block (World.putObj_heap_other (by show g ≠ l; omega)), by simp [World.putObj]⟩
theorem keepG_below {S : Nat → Prop} {g : Nat} {w w' : World} (h : Below w.heap.size w w') (hS : ∀ k, S k → k < w.heap.size) (hg : g < w.heap.size) : keepG S g w w' := ⟨keepOn_of_below h hS, h.cell (p := ⟨g, 0, none⟩) hg, h.cell (p := ⟨g, 1, none⟩) hg, h.size⟩

/-- Some places' words. -/
def rowTo (fold : Bool) (wss : List (List Int)) (text : List Int) (p j : Nat) : List (Nat × Nat) := ((List.range j).filter fun k => stands fold wss text p k).map fun k => (p, k)
theorem rowTo_succ (fold : Bool) (wss : List (List Int)) (text : List Int) (p j : Nat) : rowTo fold wss text p (j + 1) = if stands fold wss text p j then rowTo fold wss text p j ++ [(p, j)] else rowTo fold wss text p j := by
  unfold rowTo
  rw [List.range_succ, List.filter_append]
  cases e : stands fold wss text p j <;> simp [e]
theorem rawTo_succ (fold : Bool) (wss : List (List Int)) (text : List Int) (n : Nat) : rawTo fold wss text (n + 1) = rawTo fold wss text n ++ rowTo fold wss text n wss.length := by
  simp [rawTo, rowTo, List.range_succ]
theorem rowTo_length (fold : Bool) (wss : List (List Int)) (text : List Int) (p j : Nat) : (rowTo fold wss text p j).length ≤ j := by
  unfold rowTo
  rw [List.length_map]
  have := List.length_filter_le (fun k => stands fold wss text p k) (List.range j)
  simpa using this
theorem rawTo_length (fold : Bool) (wss : List (List Int)) (text : List Int) : ∀ n, (rawTo fold wss text n).length ≤ n * wss.length
  | 0 => by simp [rawTo]
  | n + 1 => by
    have h1 := rawTo_length fold wss text n
    have h2 := rowTo_length fold wss text n wss.length
    rw [rawTo_succ, List.length_append, Nat.add_mul]
    omega

theorem rowTo_pre (fold : Bool) (wss : List (List Int)) (text : List Int) (p j : Nat) : ∀ m, j ≤ m → rowTo fold wss text p j <+: rowTo fold wss text p m := by
  intro m
  induction m with
  | zero => intro h; rw [show j = 0 by omega]; exact List.prefix_refl _
  | succ m ih =>
    intro h
    by_cases e : j = m + 1
    · rw [e]; exact List.prefix_refl _
    · refine (ih (by omega)).trans ?_
      rw [rowTo_succ]
      split
      · exact List.prefix_append _ _
      · exact List.prefix_refl _
theorem rawTo_pre (fold : Bool) (wss : List (List Int)) (text : List Int) (n : Nat) : ∀ m, n ≤ m → rawTo fold wss text n <+: rawTo fold wss text m := by
  intro m
  induction m with
  | zero => intro h; rw [show n = 0 by omega]; exact List.prefix_refl _
  | succ m ih =>
    intro h
    by_cases e : n = m + 1
    · rw [e]; exact List.prefix_refl _
    · refine (ih (by omega)).trans ?_
      rw [rawTo_succ]
      exact List.prefix_append _ _
theorem rawTo_part {fold : Bool} {wss : List (List Int)} {text : List Int} {p j n : Nat} (hp : p < n) (hj : j ≤ wss.length) : rawTo fold wss text p ++ rowTo fold wss text p j <+: rawTo fold wss text n := by
  refine List.IsPrefix.trans ?_ (rawTo_pre fold wss text (p + 1) n hp)
  rw [rawTo_succ]
  exact (List.prefix_append_right_inj _).2 (rowTo_pre fold wss text p j _ hj)

set_option maxRecDepth 100000 in
set_option maxHeartbeats 4000000 in
theorem standing_stops (fold : Bool) (a ta : Option Addr) (la ca lt ct g p1 p2 : Nat) (wss : List (List Int)) (text : List Int) (n : Nat) (w0 w : World) (S : Nat → Prop) (hA : Wds w0 a la wss) (hT : Bys w0 ta lt text) (hB0 : Below w0.heap.size w0 w) (hS : ∀ k, k < w0.heap.size → S k) (hS1 : S p1) (hS2 : S p2) (hSw : ∀ k, S k → k < w.heap.size) (hgw : g < w.heap.size)
    (hla : la ≤ 1000000) (hlt : lt ≤ 1000000) (hct : lt ≤ ct)
    (h1 : w.heap[p1]? = some (.cells #[.slice ta lt ct] 40 (0, 0))) (h2 : w.heap[p2]? = some (.cells #[.pointer (some ⟨g, 0, none⟩)] 141 (0, 0))) (g0 : w.cell? ⟨g, 0, none⟩ = some (.bool fold)) (g1 : w.cell? ⟨g, 1, none⟩ = some (.slice a la ca)) :
    SeqStopsK Fence.wide n Try.prog 106 #[.pointer (some ⟨p1, 0, none⟩), .pointer (some ⟨p2, 0, none⟩)] stEnc (keepG S g) (fun zs => zs.map Subtype.val = rawTo fold wss text (lt + 1)) (fun _ => True) ((rawTo fold wss text (lt + 1)).length + 1) w := by
  intro l J Jx W hW hJ hJx hY h0
  have hkW : keepG S g w W := keepG_below hW hSw hgw
  have cells : ∀ v : World, keepG S g w v → v.cell? ⟨p1, 0, none⟩ = some (.slice ta lt ct) ∧ v.cell? ⟨p2, 0, none⟩ = some (.pointer (some ⟨g, 0, none⟩)) ∧ v.cell? ⟨g, 0, none⟩ = some (.bool fold) ∧ v.cell? ⟨g, 1, none⟩ = some (.slice a la ca) := by
    intro v hv
    have e1 : v.heap[p1]? = _ := (hv.1 p1 hS1).trans h1
    have e2 : v.heap[p2]? = _ := (hv.1 p2 hS2).trans h2
    refine ⟨by simp [World.cell?, e1], by simp [World.cell?, e2], hv.2.1.trans g0, hv.2.2.1.trans g1⟩
  have hk0 : ∀ v : World, keepG S g w v → kept w0 v := fun v hv k hk => (hv.1 k (hS k hk)).trans (hB0.block k hk)
  have HL := Lib.hid hA.len
  have HA := Lib.hid hA
  have HT := Lib.hid hT
  clear hA hT g0 g1
  obtain ⟨c1, c2, c3, c4⟩ := cells W hkW
  refine callsIn_of_wp Try.func106 rfl trivial ?_ rfl
  simp only [Try.ntmps106, List.size_toArray, List.length_cons, List.length_nil, Nat.reduceAdd, Nat.reduceSub, Array.replicate_succ, Array.replicate_zero, List.push_toArray, List.append_toArray, List.nil_append, List.cons_append]
  gi_wp2
  clear c1 c2 c3 c4
  gi_loopw [9] (fun i wr => ∃ (p : Nat) (pre : List StP), p ≤ lt + 1 ∧ i = .int .i64 p ∧ Hid (pre.map Subtype.val = rawTo fold wss text p) ∧ J pre wr ∧ keepG S g w wr) (fun i _ => lt + 1 - (intOf i).toNat)
  case atStart => exact ⟨0, [], Nat.zero_le _, rfl, by simp [Hid, rawTo], h0, hkW⟩
  case round =>
    obtain ⟨p, pre, hp, rfl, HP, hj, hkr⟩ := hrel
    obtain ⟨c1, c2, c3, c4⟩ := cells wr hkr
    by_cases hplt : p < lt + 1
    · have hpd : decide ((p : Int) < (lt : Int) + 1) = true := by simp; omega
      gi_wp2
      clear c1 c2 c3 c4
      gi_loopw [18] (fun i wi => ∃ (j : Nat) (pre : List StP), j ≤ la ∧ i = .int .i64 j ∧ Hid (pre.map Subtype.val = rawTo fold wss text p ++ rowTo fold wss text p j) ∧ J pre wi ∧ keepG S g w wi) (fun i _ => la - (intOf i).toNat)
      case atStart => exact ⟨0, pre, Nat.zero_le _, rfl, by simpa [Hid, rowTo] using HP, hj, hkr⟩
      case round =>
        clear HP hj hkr
        obtain ⟨j, pre, hjl, rfl, HP, hj, hki⟩ := hrel
        obtain ⟨c1, c2, c3, c4⟩ := cells wr hki
        by_cases hjlt : j < la
        · have hAr : Wds wr a la wss := by
            have hk := hk0 wr hki
            obtain ⟨vs, e1, e2, e3⟩ := HA.out
            have hsz : w0.heap.size ≤ wr.heap.size := Nat.le_trans hB0.size hki.2.2.2
            exact ⟨vs, e1.kept hk hsz, e2, fun i v xs hv hx => ⟨⟨(e3 i v xs hv hx).1.1.kept hk hsz, (e3 i v xs hv hx).1.2⟩, (e3 i v xs hv hx).2⟩⟩
          have hTr : Bys wr ta lt text := ⟨HT.out.1.kept (hk0 wr hki) (Nat.le_trans hB0.size hki.2.2.2), HT.out.2⟩
          obtain ⟨x, hx⟩ : ∃ x, wss[j]? = some x := ⟨wss[j]'(by rw [HL.out]; exact hjlt), by simp⟩
          have hplen : pre.length < (rawTo fold wss text (lt + 1)).length + 1 := by
            have h1 := congrArg List.length HP.out
            rw [List.length_map, List.length_append] at h1
            have h2 : (rawTo fold wss text p).length + (rowTo fold wss text p j).length ≤ (rawTo fold wss text (lt + 1)).length := by
              have h3 : rawTo fold wss text p ++ rowTo fold wss text p j <+: rawTo fold wss text (lt + 1) := rawTo_part (by omega) (by rw [HL.out]; omega)
              have := h3.length_le
              rwa [List.length_append] at this
            omega
          have HST := Lib.hid (stands_is (fold := fold) (text := text) (p := p) hx)
          have hgr : g < wr.heap.size := Nat.lt_of_lt_of_le hgw hki.2.2.2
          have hcall := gat_any g fold a ta la ca lt ct (p : Int) j wss x text wr hgr c3 c4 hAr hTr hla hlt hct hjlt hx (by omega)
          have HC := Lib.hid hcall
          clear hcall hx hAr hTr
          gi_wp2_with fail
          refine (callsIn_wide.2 HC.out).mono ?_
          rintro e W3 ⟨rfl, hb3⟩
          have hj3 : J pre W3 := abides_below hJ hj hb3
          have hk3 : keepG S g w W3 := keepG_t hki (keepG_below hb3 (fun k hk => Nat.lt_of_lt_of_le (hSw k hk) hki.2.2.2) hgr)
          clear HC c1 c2 c3 c4
          obtain ⟨c1, c2, c3, c4⟩ := cells W3 hk3
          obtain ⟨q, hq⟩ : ∃ q, atL fold text (p : Int) x = q := ⟨_, rfl⟩
          have HQ : Hid (stands fold wss text p j = q) := by rw [Hid, HST.out]; exact hq
          rw [hq]
          clear hq HST
          cases q with
          | true =>
            have hpj : p ≤ 1000000 ∧ j ≤ 1000000 := by omega
            obtain ⟨fn, tmps, assign, body, hyl, hRo⟩ := hY pre ⟨(p, j), hpj⟩ W3 hj3 hplen
            have HS : Hid ((pre ++ [(⟨(p, j), hpj⟩ : StP)]).map Subtype.val = rawTo fold wss text p ++ rowTo fold wss text p (j + 1)) := by
              rw [rowTo_succ, HQ.out, if_pos rfl, ← List.append_assoc, ← HP.out]
              simp [Hid]
            dsimp only [stEnc] at hyl
            gi_wp2
            refine hRo.mono ?_
            rintro e W4 (⟨rfl, hJ4, hk4⟩ | ⟨rfl, hJx4⟩)
            · gi_wp2
              go_roundw
              case rel => exact ⟨j + 1, _, by omega, by go_num, HS, hJ4, keepG_t hk3 hk4⟩
              case measure => simp [intOf]; omega
            · gi_wp2
              refine bodyPost_ret (results_none rfl _ _ _) rfl ?_
              exact ⟨⟨_, rfl⟩, .inr ⟨_, trivial, hJx4⟩⟩
          | false =>
            have HS : Hid (pre.map Subtype.val = rawTo fold wss text p ++ rowTo fold wss text p (j + 1)) := by
              rw [rowTo_succ, HQ.out, if_neg (by simp)]
              exact HP
            gi_wp2
            go_roundw
            case rel => exact ⟨j + 1, _, by omega, by go_num, HS, hj3, hk3⟩
            case measure => simp [intOf]; omega
        · obtain rfl : j = la := by omega
          gi_wp2
          go_roundw
          case rel =>
            refine ⟨p + 1, pre, by omega, by go_num, ?_, hj, hki⟩
            rw [Hid, HP.out, rawTo_succ, HL.out]
          case measure => simp [intOf]; omega
    · obtain rfl : p = lt + 1 := by omega
      gi_wp2
      go_end0
      exact ⟨⟨_, rfl⟩, .inl ⟨pre, HP.out, hj⟩⟩

end Go.Proofs.Ytmpmjkbjnklgfaa
