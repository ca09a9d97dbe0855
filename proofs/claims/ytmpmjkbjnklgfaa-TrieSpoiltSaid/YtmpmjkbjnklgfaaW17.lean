/- Parts of the proof, one behind the other: V6, V7, V8, V2. No condition but what each theorem states. -/
import Derived.Laws.OwnMore
import Derived.Test.YtmpmjkbjnklgfaaW15
import Derived.Test.YtmpmjkbjnklgfaaW16

/- Kids of a node (layer 7): the iterator and Kid, walked. -/

namespace Go.Proofs.Ytmpmjkbjnklgfaa
open Go.RowKit Go.Sort
set_option linter.unusedVariables false
set_option linter.unusedSimpArgs false
attribute [local go_sem] Oper.semAt_some
attribute [local simp] wide_fn wide_depth
attribute [local go_sem] wide_fn wide_depth

/-- The kids of a node, of the first nodes, each with its byte. -/
def kidsTo (T : TrieT) (node : Int) : Nat → List (Int × Nat)
  | 0 => []
  | k + 1 => kidsTo T node k ++ (if 1 ≤ k ∧ T.up[k]? = some node then [((T.byt[k]?).getD 0, k)] else [])
theorem kidsTo_length (T : TrieT) (node : Int) : ∀ k, (kidsTo T node k).length ≤ k
  | 0 => by simp [kidsTo]
  | k + 1 => by
    have := kidsTo_length T node k
    unfold kidsTo
    rw [List.length_append]
    split <;> simp <;> omega
theorem mem_kidsTo {T : TrieT} {node : Int} {p : Int × Nat} : ∀ {k : Nat}, p ∈ kidsTo T node k ↔ 1 ≤ p.2 ∧ p.2 < k ∧ T.up[p.2]? = some node ∧ p.1 = (T.byt[p.2]?).getD 0
  | 0 => by simp [kidsTo]
  | k + 1 => by
    unfold kidsTo
    rw [List.mem_append, mem_kidsTo (k := k)]
    constructor
    · rintro (⟨h1, h2, h3⟩ | h)
      · exact ⟨h1, by omega, h3⟩
      · split at h
        · rename_i hc
          rw [List.mem_singleton] at h
          subst h
          exact ⟨hc.1, by dsimp only; omega, hc.2, rfl⟩
        · cases h
    · rintro ⟨h1, h2, h3, h4⟩
      by_cases e : p.2 = k
      · right
        subst e
        rw [if_pos ⟨h1, h3⟩, List.mem_singleton]
        exact Prod.ext h4 rfl
      · exact .inl ⟨h1, by omega, h3, h4⟩
abbrev KdP := { p : Int × Nat // 0 ≤ p.1 ∧ p.1 ≤ 255 }
def kdEnc (p : KdP) : Array Value := #[.int .u8 p.1.1, .int .i64 (p.1.2 : Int)]

theorem kids_any (g : Nat) (node : Int) (w : World) :
    Calls Try.prog 91 #[.pointer (some ⟨g, 0, none⟩), .int .i64 node] w fun e w' => e = .returned (.func (.func 126) #[] #[.pointer (some ⟨w.heap.size, 0, none⟩), .pointer (some ⟨w.heap.size + 1, 0, none⟩)]) ∧
      w' = (w.alloc (.cells #[.pointer (some ⟨g, 0, none⟩)] 112)).alloc (.cells #[.int .i64 node] 3) := by
  go_enter Try.func91, Try.ntmps91
  go_wp2
  go_ret
  exact ⟨rfl, rfl⟩

set_option maxRecDepth 100000 in
set_option maxHeartbeats 4000000 in
theorem kids_stops (t : TV) (T : TrieT) (g p1 p2 : Nat) (node : Int) (x4 x5 : Value) (n : Nat) (w : World) (hT : Tri w t T) (hn : T.byt.length = T.up.length) (hn4 : T.up.length ≤ 400)
    (hg : w.heap[g]? = some (.cells #[.slice t.ua t.un t.uc, .slice t.da t.dn t.dc, .slice t.xa t.xn t.xc, .slice t.ba t.bn t.bc, x4, x5] 116 (0, 0)))
    (h1 : w.heap[p1]? = some (.cells #[.pointer (some ⟨g, 0, none⟩)] 112 (0, 0))) (h2 : w.heap[p2]? = some (.cells #[.int .i64 node] 3 (0, 0))) :
    SeqStopsK Fence.wide n Try.prog 126 #[.pointer (some ⟨p1, 0, none⟩), .pointer (some ⟨p2, 0, none⟩)] kdEnc (keepOn (fun k => k < w.heap.size)) (fun zs => zs.map Subtype.val = kidsTo T node T.up.length) (fun pre => ∀ p ∈ pre.map Subtype.val, p ∈ kidsTo T node T.up.length) 1000001 w := by
  intro l J Jx W hW hJ hJx hY h0
  have hkW : kept w W := kept_below hW
  obtain ⟨ua, un, uc, da, dn, dc, xa, xn, xc, ba, bn, bc⟩ := t
  dsimp only at hg
  have hp1 : p1 < w.heap.size := (Array.getElem?_eq_some_iff.1 h1).1
  have hp2 : p2 < w.heap.size := (Array.getElem?_eq_some_iff.1 h2).1
  have hgl : g < w.heap.size := (Array.getElem?_eq_some_iff.1 hg).1
  have cells : ∀ v : World, kept w v → v.cell? ⟨p1, 0, none⟩ = some (.pointer (some ⟨g, 0, none⟩)) ∧ v.cell? ⟨p2, 0, none⟩ = some (.int .i64 node) ∧ v.cell? ⟨g, 0, none⟩ = some (.slice ua un uc) ∧ v.cell? ⟨g, 3, none⟩ = some (.slice ba bn bc) := by
    intro v hv
    rw [kept_cell hv hp1, kept_cell hv hp2, kept_cell hv hgl, kept_cell hv hgl]
    simp [World.cell?, h1, h2, hg]
  have HT := Lib.hid hT
  have hun : Hid (T.up.length = un) := hT.up.1
  have hbn : bn = un := by have h1 : T.byt.length = bn := hT.byt.1.1; have := hun.out; omega
  have hu4 : un ≤ 400 := by have := hun.out; omega
  subst hbn
  clear hT hn hn4 hg h1 h2
  obtain ⟨c1, c2, c3, c4⟩ := cells W hkW
  refine callsIn_of_wp Try.func126 rfl trivial ?_ rfl
  simp only [Try.ntmps126, List.size_toArray, List.length_cons, List.length_nil, Nat.reduceAdd, Nat.reduceSub, Array.replicate_succ, Array.replicate_zero, List.push_toArray, List.append_toArray, List.nil_append, List.cons_append]
  gi_wp2
  clear c1 c2 c3 c4
  gi_loopw [4] (fun i wr => ∃ (k : Nat) (pre : List KdP), 1 ≤ k ∧ i = .int .i64 k ∧ Hid (pre.map Subtype.val = kidsTo T node k) ∧ Hid (k ≤ max bn 1) ∧ J pre wr ∧ kept w wr) (fun i _ => bn - (intOf i).toNat)
  case atStart => exact ⟨1, [], Nat.le_refl _, rfl, (by simp [Hid, kidsTo]), Nat.le_max_right _ _, h0, hkW⟩
  case round =>
    obtain ⟨k, pre, hk, rfl, HP, HK, hj, hkr⟩ := hrel
    obtain ⟨c1, c2, c3, c4⟩ := cells wr hkr
    by_cases hlt : k < bn
    · have hdk : decide ((k : Int) < bn) = true := by simp; omega
      obtain ⟨b0, o0, u, e0, hl0, cu0, hu⟩ := sl1_at HT.out.up hlt
      subst e0
      obtain ⟨b3, o3, c, e3, hl3, cb0, hc⟩ := sl1_at HT.out.byt.1 hlt
      subst e3
      have cu : wr.cell? ⟨b0, o0 + k, none⟩ = some (.int .i64 u) := (kept_cell hkr (p := ⟨b0, o0 + k, none⟩) hl0).trans cu0
      have cb : wr.cell? ⟨b3, o3 + k, none⟩ = some (.int .u8 c) := (kept_cell hkr (p := ⟨b3, o3 + k, none⟩) hl3).trans cb0
      have hcr := HT.out.byt.2 c (List.mem_of_getElem? hc)
      have hplen : pre.length ≤ k := by have h1 := congrArg List.length HP.out; have := kidsTo_length T node k; rw [List.length_map] at h1; omega
      have i1 : (0 : Int) ≤ (k : Int) := by omega
      have i2 : (k : Int) < (bn : Int) := by omega
      by_cases hun2 : u = node
      · subst hun2
        have HS : Hid ((pre ++ [(⟨(c, k), hcr⟩ : KdP)]).map Subtype.val = kidsTo T u (k + 1)) := by
          unfold Hid kidsTo
          rw [if_pos ⟨hk, hu⟩, ← HP.out, hc]
          simp
        clear cu0 cb0 hu hc
        gi_wp2
        refine regionR_drawn_tail (wideF _ _) 21 mixed (by kernel_rfl) (by kernel_rfl) ?_
        dsimp only [List.take_succ_cons, List.take_zero, List.drop_succ_cons, List.drop_zero]
        repeat (go_big_quiet_step (fail))
        refine wpQuiet_nil ?_
        rintro _ ⟨nq, rfl⟩
        have hb0 : Below wr.heap.size wr (wr.drewN nq) := ⟨rfl, rfl, rfl, Nat.le_refl _, fun _ _ => rfl⟩
        obtain ⟨fn, tmps, assign, body, hyl, hRo⟩ := hY pre ⟨(c, k), hcr⟩ (wr.drewN nq) (abides_below hJ hj hb0) (by omega)
        dsimp only [kdEnc] at hyl
        gi_wp2
        refine hRo.mono ?_
        rintro e W4 (⟨rfl, hJ4, hk4⟩ | ⟨rfl, hJx4⟩)
        · gi_wp2
          go_roundw
          case rel => exact ⟨k + 1, _, by omega, by go_num, HS, (by unfold Hid; omega), hJ4, keepOn_t hkr hk4⟩
          case measure => simp [intOf]; omega
        · gi_wp2
          refine bodyPost_ret (results_none rfl _ _ _) rfl ?_
          refine ⟨⟨_, rfl⟩, .inr ⟨_, ?_, hJx4⟩⟩
          rw [HS.out]
          intro p hp
          rw [mem_kidsTo] at hp ⊢
          have := hun.out
          exact ⟨hp.1, by omega, hp.2.2⟩
      · have hd : (u == node) = false := by simpa using hun2
        have HS : Hid (pre.map Subtype.val = kidsTo T node (k + 1)) := by
          unfold Hid kidsTo
          rw [if_neg (fun h => hun2 (by have := h.2; rw [hu] at this; exact Option.some.inj this)), ← HP.out, List.append_nil]
        clear cu0 cb0 hu hc
        gi_wp2
        refine regionR_drawn (wideF _ _) mixed (by kernel_rfl) (by kernel_rfl) ?_
        repeat (go_big_quiet_step (fail))
        refine wpQuiet_nil ?_
        rintro _ ⟨nq, rfl⟩
        have hb0 : Below wr.heap.size wr (wr.drewN nq) := ⟨rfl, rfl, rfl, Nat.le_refl _, fun _ _ => rfl⟩
        have hkr2 : kept w (wr.drewN nq) := hkr
        gi_wp2
        go_roundw
        case rel => exact ⟨k + 1, _, by omega, by go_num, HS, (by unfold Hid; omega), abides_below hJ hj hb0, hkr2⟩
        case measure => simp [intOf]; omega
    · have hdk : decide ((k : Int) < bn) = false := by simp; omega
      gi_wp2
      go_end0
      refine ⟨⟨_, rfl⟩, .inl ⟨pre, ?_, hj⟩⟩
      show pre.map Subtype.val = kidsTo T node T.up.length
      rw [HP.out, hun.out]
      have hmx := HK.out
      by_cases e : bn = 0
      · obtain rfl : k = 1 := by omega
        subst e
        simp [kidsTo]
      · obtain rfl : k = bn := by omega
        rfl

theorem results_cells2 {fn : Func} {p q : Tmp} {tmps : Array Value} {W : World} {B C : Nat} (h : fn.results = #[.cell p 3, .cell q 4]) (hp : tmps.getD p undef = .pointer (some ⟨B, 0, none⟩)) (hq : tmps.getD q undef = .pointer (some ⟨C, 0, none⟩)) {v : Int} {b : Bool} (hB : Boxed W B 3 (.int .i64 v)) (hC : Boxed W C 4 (.bool b)) :
    (results fn tmps).run Try.prog W = .ok (.tuple #[.int .i64 v, .bool b]) W := by
  have hp' : tmps[p]?.getD undef = .pointer (some ⟨B, 0, none⟩) := by simpa using hp
  have hq' : tmps[q]?.getD undef = .pointer (some ⟨C, 0, none⟩) := by simpa using hq
  have hc := hB.cell
  have hc2 := hC.cell
  simp [results, h, hp', hq', asAddr, hc, hc2, go_sem, loadVar]

set_option maxRecDepth 100000 in
set_option maxHeartbeats 4000000 in
theorem tkid_any (t : TV) (T : TrieT) (node c : Int) (w : World) (hT : Tri w t T) (hb : t.un ≤ 140737488351232) :
    Calls Try.prog 53 #[.agg t.cells, .int .i64 node, .int .u8 c] w fun e w' => ∃ (r : Int) (ok : Bool), e = .returned (.tuple #[.int .i64 r, .bool ok]) ∧ (rightT T = true → KidR T node c r ok) ∧ (rightT T = false → r = 0 ∧ ok = false) ∧ Below w.heap.size w w' := by
  obtain ⟨ua, un, uc, da, dn, dc, xa, xn, xc, ba, bn, bc⟩ := t
  dsimp only at hb
  obtain ⟨W, hW⟩ : ∃ W, W = (((w.alloc (.cells #[.slice ua un uc, .slice da dn dc, .slice xa xn xc, .slice ba bn bc] 62)).alloc (.cells #[.int .u8 c] 5)).alloc (.cells #[.int .i64 0] 3)).alloc (.cells #[.bool false] 4) := ⟨_, rfl⟩
  have hB : Below w.heap.size w W := by rw [hW]; exact (((below_alloc _ _).alloc (by simp only [World.size_alloc]; omega) _).alloc (by simp only [World.size_alloc]; omega) _).alloc (by simp only [World.size_alloc]; omega) _
  have hO : Bx w.heap.size [.cells #[.slice ua un uc, .slice da dn dc, .slice xa xn xc, .slice ba bn bc] 62, .cells #[.int .u8 c] 5, .cells #[.int .i64 0] 3, .cells #[.bool false] 4] W := by
    rw [hW]; exact ((((Bx.nil _ w).snoc _ rfl).snoc _ (by simp)).snoc _ (by simp)).snoc _ (by simp)
  have hT2 := hT.below hB
  have c0 : W.cell? ⟨w.heap.size, 0, none⟩ = some (.slice ua un uc) := hO.cell (i := 0) rfl rfl
  have c1 : W.cell? ⟨w.heap.size, 1, none⟩ = some (.slice da dn dc) := hO.cell (i := 0) rfl rfl
  have c2 : W.cell? ⟨w.heap.size, 2, none⟩ = some (.slice xa xn xc) := hO.cell (i := 0) rfl rfl
  have c3 : W.cell? ⟨w.heap.size, 3, none⟩ = some (.slice ba bn bc) := hO.cell (i := 0) rfl rfl
  have bC : Boxed W (w.heap.size + 1) 5 (.int .u8 c) := hO 1 _ rfl
  have bR : Boxed W (w.heap.size + 1 + 1) 3 (.int .i64 0) := hO 2 _ rfl
  have bK : Boxed W (w.heap.size + 1 + 1 + 1) 4 (.bool false) := hO 3 _ rfl
  clear hO
  refine calls_of_wp_M Try.func53 rfl ?_
  simp only [Try.ntmps53, List.size_toArray, List.length_cons, List.length_nil, Nat.reduceAdd, Nat.reduceSub, Array.replicate_succ, Array.replicate_zero, List.push_toArray, List.append_toArray, List.nil_append, List.cons_append]
  cases hr : readP T with
  | none =>
    have k1 := Lib.hid (read_no _ T W hT2 hb hr)
    have HZ : Hid (rightT T = false) := by unfold Hid rightT; rw [hr]; rfl
    clear hr hT hT2
    go_upto_region 1 with fail
    rw [← hW]
    clear hW
    go_wp2_with fail
    refine k1.out.mono ?_
    rintro e w1 ⟨rfl, hb1⟩
    have hBf : Below w.heap.size w w1 := hB.trans (hb1.mono hB.size)
    have bR1 : Boxed w1 (w.heap.size + 1 + 1) 3 (.int .i64 0) := (hb1.block _ bR.lt).trans bR
    have bK1 : Boxed w1 (w.heap.size + 1 + 1 + 1) 4 (.bool false) := (hb1.block _ bK.lt).trans bK
    have q1 := bR1.cell
    have q2 := bR1.frozen
    have q3 := bK1.cell
    have q4 := bK1.frozen
    go_wp2
    have bR2 : Boxed ((w1.setCell ⟨w.heap.size + 1 + 1, 0, none⟩ (.int .i64 0)).setCell ⟨w.heap.size + 1 + 1 + 1, 0, none⟩ (.bool false)) (w.heap.size + 1 + 1) 3 (.int .i64 0) := (Below.heap_setCell _ _ _ _ (by simp)).trans (bR1.set _)
    have bK2 : Boxed ((w1.setCell ⟨w.heap.size + 1 + 1, 0, none⟩ (.int .i64 0)).setCell ⟨w.heap.size + 1 + 1 + 1, 0, none⟩ (.bool false)) (w.heap.size + 1 + 1 + 1) 4 (.bool false) := by
      have t1 : Boxed (w1.setCell ⟨w.heap.size + 1 + 1, 0, none⟩ (.int .i64 0)) (w.heap.size + 1 + 1 + 1) 4 (.bool false) := (Below.heap_setCell _ _ _ _ (by simp)).trans bK1
      exact t1.set _
    refine endN rfl (results_cells2 rfl rfl rfl bR2 bK2) ⟨0, false, rfl, fun h => (by rw [HZ.out] at h; cases h), fun _ => ⟨rfl, rfl⟩, (hBf.setCell (by simp; omega) _).setCell (by simp; omega) _⟩
  | some r =>
    obtain ⟨sp, ws⟩ := r
    have k1 := Lib.hid (read_yes _ T sp ws W hT2 hb hr)
    have HZ : Hid (rightT T = true) := by unfold Hid rightT; rw [hr]; rfl
    have hln : T.byt.length = T.up.length ∧ T.up.length ≤ 400 := by
      unfold readP at hr
      obtain ⟨sp0, h1, _⟩ := Option.bind_eq_some_iff.1 hr
      unfold spO at h1
      split at h1
      · rename_i hc
        exact ⟨hc.2.2.1, hc.2.1⟩
      · cases h1
    clear hr
    go_upto_region 1 with fail
    rw [← hW]
    clear hW
    go_wp2_with fail
    refine k1.out.mono ?_
    rintro e w1 ⟨g, rfl, hRd, hb1⟩
    obtain ⟨sa, sc, wa, wc, hg, hS, hWs, hsc, hwc⟩ := hRd.ex
    dsimp only at hg
    have hBf : Below w.heap.size w w1 := hB.trans (hb1.mono hB.size)
    have bC1 : Boxed w1 (w.heap.size + 1) 5 (.int .u8 c) := (hb1.block _ bC.lt).trans bC
    have bR1 : Boxed w1 (w.heap.size + 1 + 1) 3 (.int .i64 0) := (hb1.block _ bR.lt).trans bR
    have bK1 : Boxed w1 (w.heap.size + 1 + 1 + 1) 4 (.bool false) := (hb1.block _ bK.lt).trans bK
    go_wp2_with (go_at_call 91; refine (kids_any g node w1).mono ?_; rintro e w' ⟨rfl, rfl⟩)
    have bA : ((w1.alloc (.cells #[.pointer (some ⟨g, 0, none⟩)] 112)).alloc (.cells #[.int .i64 node] 3)).heap[w1.heap.size]? = some (.cells #[.pointer (some ⟨g, 0, none⟩)] 112 (0, 0)) := (Boxed.new w1 112 _).alloc _
    have bN : ((w1.alloc (.cells #[.pointer (some ⟨g, 0, none⟩)] 112)).alloc (.cells #[.int .i64 node] 3)).heap[w1.heap.size + 1]? = some (.cells #[.int .i64 node] 3 (0, 0)) := by
      have := Boxed.new (w1.alloc (.cells #[.pointer (some ⟨g, 0, none⟩)] 112)) 3 (.int .i64 node)
      rwa [World.size_alloc] at this
    have hB3 : Below w1.heap.size w1 ((w1.alloc (.cells #[.pointer (some ⟨g, 0, none⟩)] 112)).alloc (.cells #[.int .i64 node] 3)) := (below_alloc _ _).alloc (by simp) _
    generalize ((w1.alloc (.cells #[.pointer (some ⟨g, 0, none⟩)] 112)).alloc (.cells #[.int .i64 node] 3)) = w3 at *
    have hBw : Below w.heap.size w w3 := hBf.trans (hB3.mono hBf.size)
    have hT3 := hT.below hBw
    have hg3 : w3.heap[g]? = _ := (hB3.block g (Array.getElem?_eq_some_iff.1 hg).1).trans hg
    have bC3 : Boxed w3 (w.heap.size + 1) 5 (.int .u8 c) := (hB3.block _ bC1.lt).trans bC1
    have bR3 : Boxed w3 (w.heap.size + 1 + 1) 3 (.int .i64 0) := (hB3.block _ bR1.lt).trans bR1
    have bK3 : Boxed w3 (w.heap.size + 1 + 1 + 1) 4 (.bool false) := (hB3.block _ bK1.lt).trans bK1
    have hsz : w.heap.size + 1 + 1 + 1 < w3.heap.size := bK3.lt
    apply rangeF rfl (enters_of Try.func126 (by kernel_rfl) rfl) (kids_stops _ T g w1.heap.size (w1.heap.size + 1) node _ _ 8 w3 hT3 hln.1 hln.2 hg3 bA bN) keepOn_t (keepOn_b fun _ h => h) (fun _ => rfl)
      (fun pre W => Boxed W (w.heap.size + 1) 5 (.int .u8 c) ∧ Boxed W (w.heap.size + 1 + 1) 3 (.int .i64 0) ∧ Boxed W (w.heap.size + 1 + 1 + 1) 4 (.bool false) ∧ Below w.heap.size w W ∧ w3.heap.size ≤ W.heap.size ∧ ∀ p ∈ pre.map Subtype.val, p.1 ≠ c)
      (fun c' pre W => ∃ k : Nat, Boxed W (w.heap.size + 1 + 1) 3 (.int .i64 k) ∧ Boxed W (w.heap.size + 1 + 1 + 1) 4 (.bool true) ∧ Below w.heap.size w W ∧ c' = .ret ∧ (c, k) ∈ pre.map Subtype.val)
    case hI => exact OwnFrom.and (Own.from (boxed_own _ _ _) _) (OwnFrom.and (Own.from (boxed_own _ _ _) _) (OwnFrom.and (Own.from (boxed_own _ _ _) _) (OwnFrom.and (ownFrom_below (Nat.le_refl _) (by omega)) (OwnFrom.and (own_size _ _) (own_pure _ _)))))
    case hIx =>
      intro c' s A C row hs hg hr
      obtain ⟨k, hs⟩ := hs
      have h : OwnFrom w3.heap.size (fun (s : List KdP) (W : World) => Boxed W (w.heap.size + 1 + 1) 3 (.int .i64 k) ∧ Boxed W (w.heap.size + 1 + 1 + 1) 4 (.bool true) ∧ Below w.heap.size w W ∧ (c' = .ret ∧ (c, k) ∈ s.map Subtype.val)) :=
        OwnFrom.and (Own.from (boxed_own _ _ _) _) (OwnFrom.and (Own.from (boxed_own _ _ _) _) (OwnFrom.and (ownFrom_below (Nat.le_refl _) (by omega)) (own_pure _ _)))
      exact ⟨k, h s A C row hs hg hr⟩
    case h0 => exact ⟨bC3, bR3, bK3, hBw, Nat.le_refl _, by simp⟩
    case hassign =>
      intro l x W K hK
      unfold kdEnc
      gi_wp2
      exact hK
    case hbody =>
      rintro l pre ⟨⟨y, k⟩, hy⟩ W ⟨hC, hR, hK, hB, hs, hall⟩ hlen
      have q0 := hC.cell
      have q1 := hR.cell
      have q2 := hR.frozen
      have q3 := hK.cell
      have q4 := hK.frozen
      dsimp only at hy ⊢
      have HALL := Lib.hid hall
      clear hall
      by_cases e : y = c
      · subst e
        have d1 : (y == y) = true := by simp
        gi_wp2
        have kO := ((KeepsOthers.setCell W ⟨w.heap.size + 1 + 1, 0, none⟩ (.int .i64 k)).from w3.heap.size).trans ((KeepsOthers.setCell (W.setCell ⟨w.heap.size + 1 + 1, 0, none⟩ (.int .i64 k)) ⟨w.heap.size + 1 + 1 + 1, 0, none⟩ (.bool true)).from w3.heap.size)
        have bR2 : Boxed ((W.setCell ⟨w.heap.size + 1 + 1, 0, none⟩ (.int .i64 k)).setCell ⟨w.heap.size + 1 + 1 + 1, 0, none⟩ (.bool true)) (w.heap.size + 1 + 1) 3 (.int .i64 k) := (Below.heap_setCell _ _ _ _ (by simp)).trans (hR.set _)
        have bK2 : Boxed ((W.setCell ⟨w.heap.size + 1 + 1, 0, none⟩ (.int .i64 k)).setCell ⟨w.heap.size + 1 + 1 + 1, 0, none⟩ (.bool true)) (w.heap.size + 1 + 1 + 1) 4 (.bool true) := by
          have t1 : Boxed (W.setCell ⟨w.heap.size + 1 + 1, 0, none⟩ (.int .i64 k)) (w.heap.size + 1 + 1 + 1) 4 (.bool false) := (Below.heap_setCell _ _ _ _ (by simp)).trans hK
          exact t1.set _
        exact ⟨kO, k, bR2, bK2, (hB.setCell (by simp; omega) _).setCell (by simp; omega) _, rfl, by simp⟩
      · have d1 : (y == c) = false := by simpa using e
        gi_wp2
        refine ⟨keepsFrom_of_below (Below.refl _ _), keepOn_of_below (Below.refl _ _) (fun k hk => by omega), hC, hR, hK, hB, hs, ?_⟩
        rw [List.map_append]
        intro p hp
        rcases List.mem_append.1 hp with hp | hp
        · exact HALL.out p hp
        · simp at hp; rw [hp]; exact e
    case hdone =>
      rintro D zs W hD hS ⟨hC, hR, hK, hB, hs, hall⟩ hD2
      have q1 := hR.cell
      have q2 := hR.frozen
      have q3 := hK.cell
      have q4 := hK.frozen
      go_wp2
      have bR2 : Boxed (((W.setCell ⟨w.heap.size + 1 + 1, 0, none⟩ (.int .i64 0)).setCell ⟨w.heap.size + 1 + 1 + 1, 0, none⟩ (.bool false)).putObj D (.deferred none)) (w.heap.size + 1 + 1) 3 (.int .i64 0) := (World.putObj_heap_other (by omega)).trans ((Below.heap_setCell _ _ _ _ (by simp)).trans (hR.set _))
      have bK2 : Boxed (((W.setCell ⟨w.heap.size + 1 + 1, 0, none⟩ (.int .i64 0)).setCell ⟨w.heap.size + 1 + 1 + 1, 0, none⟩ (.bool false)).putObj D (.deferred none)) (w.heap.size + 1 + 1 + 1) 4 (.bool false) := by
        have t1 : Boxed (W.setCell ⟨w.heap.size + 1 + 1, 0, none⟩ (.int .i64 0)) (w.heap.size + 1 + 1 + 1) 4 (.bool false) := (Below.heap_setCell _ _ _ _ (by simp)).trans hK
        exact (World.putObj_heap_other (by omega)).trans (t1.set _)
      have hD3 : ((W.setCell ⟨w.heap.size + 1 + 1, 0, none⟩ (.int .i64 0)).setCell ⟨w.heap.size + 1 + 1 + 1, 0, none⟩ (.bool false)).heap[D]? = some (.deferred (some [])) := (Below.heap_setCell _ _ _ _ (by simp; omega)).trans ((Below.heap_setCell _ _ _ _ (by simp; omega)).trans hD2)
      refine endM rfl hD3 (results_cells2 rfl rfl rfl bR2 bK2) ⟨0, false, rfl, fun _ => ⟨fun h => (by cases h), fun _ => ⟨rfl, fun k hk => ?_⟩⟩, fun h => (by rw [HZ.out] at h; cases h), put_below ((hB.setCell (by simp; omega) _).setCell (by simp; omega) _) (by omega) (Nat.le_refl _) _⟩
      obtain ⟨h1, h2, h3, h4⟩ := hk
      refine hall (c, k) ?_ rfl
      rw [hS, mem_kidsTo]
      exact ⟨h1, h2, h3, by rw [h4]; rfl⟩
    case hstop =>
      rintro D c' pre W hD hS ⟨k, hR, hK, hB, rfl, hm⟩ hD2
      go_wp2
      have bT : Boxed (W.putObj D (.deferred none)) (w.heap.size + 1 + 1) 3 (.int .i64 k) := (World.putObj_heap_other (by omega)).trans hR
      have bT2 : Boxed (W.putObj D (.deferred none)) (w.heap.size + 1 + 1 + 1) 4 (.bool true) := (World.putObj_heap_other (by omega)).trans hK
      refine endM rfl hD2 (results_cells2 rfl rfl rfl bT bT2) ⟨k, true, rfl, fun _ => ⟨fun _ => ⟨k, rfl, ?_⟩, fun h => by cases h⟩, fun h => (by rw [HZ.out] at h; cases h), put_below hB (by omega) (Nat.le_refl _) _⟩
      have := mem_kidsTo.1 (hS _ hm)
      dsimp only at this
      obtain ⟨h1, h2, h3, h4⟩ := this
      refine ⟨h1, h2, h3, ?_⟩
      rw [List.getElem?_eq_getElem (by rw [hln.1]; exact h2)] at h4 ⊢
      rw [h4]
      rfl

end Go.Proofs.Ytmpmjkbjnklgfaa

/- A trie in memory of its own (layer 7, the document's way): walked. Printed by gen_v7.py. -/


namespace Go.Proofs.Ytmpmjkbjnklgfaa
open Go.RowKit Go.Sort
set_option linter.unusedVariables false
set_option linter.unusedSimpArgs false

theorem i64_one (x : Int) : (Value.int .i64 x).oneCell' = true := rfl
theorem i64_infoP : (Try.prog.info? 3).map (fun i => (i.zero, i.size, i.bytes)) = some (some (.int .i64 0), 1, 8) := by kernel_rfl
theorem results_trie1 {fn : Func} {p : Tmp} {tmps : Array Value} {W : World} {B : Nat} {x y z v : Value} (h : fn.results = #[.cell p 62]) (hp : tmps.getD p undef = .pointer (some ⟨B, 0, none⟩)) (hB : W.heap[B]? = some (.cells #[x, y, z, v] 62 (0, 0))) :
    (results fn tmps).run Try.prog W = .ok (.agg #[x, y, z, v]) W :=
  results_cell_row h _ W B 62 #[x, y, z, v] _ _ hp hB Try.underlying62 rfl (by kernel_rfl)
/-- A trie of the call's own. -/
structure OTri (W : World) (base : Nat) (t : TV) (T : TrieT) : Prop where
  up : W.ownsRow base 3 1 (.slice t.ua t.un t.uc) t.un (T.up.map (Value.int .i64))
  dep : W.ownsRow base 3 1 (.slice t.da t.dn t.dc) t.dn (T.dep.map (Value.int .i64))
  wrd : W.ownsRow base 3 1 (.slice t.xa t.xn t.xc) t.xn (T.wrd.map (Value.int .i64))
  byt : W.ownsRow base 5 1 (.slice t.ba t.bn t.bc) t.bn (T.byt.map (Value.int .u8))
  bd : ∀ c ∈ T.byt, 0 ≤ c ∧ c ≤ 255
  s1 : sep (.slice t.ua t.un t.uc) (.slice t.da t.dn t.dc)
  s2 : sep (.slice t.ua t.un t.uc) (.slice t.xa t.xn t.xc)
  s3 : sep (.slice t.ua t.un t.uc) (.slice t.ba t.bn t.bc)
  s4 : sep (.slice t.da t.dn t.dc) (.slice t.xa t.xn t.xc)
  s5 : sep (.slice t.da t.dn t.dc) (.slice t.ba t.bn t.bc)
  s6 : sep (.slice t.xa t.xn t.xc) (.slice t.ba t.bn t.bc)
theorem row_cap {w : World} {base n : Nat} {e : TypeId} {a : Option Addr} {m c : Nat} {xs : List Value} (h : w.ownsRow base e 1 (.slice a m c) n xs) : m ≤ c := by
  rcases h.2 with ⟨h', _⟩ | ⟨g', cap', cur, h', _, hg, hnc, _⟩
  · injection h' with h1 h2 h3; omega
  · injection h' with h1 h2 h3; omega
theorem OTri.tri {W : World} {base : Nat} {t : TV} {T : TrieT} (h : OTri W base t T) : Tri W t T :=
  ⟨own_sl h.up, own_sl h.dep, own_sl h.wrd, ⟨own_sl h.byt, h.bd⟩, row_cap h.up, row_cap h.dep, row_cap h.wrd, row_cap h.byt⟩
theorem OTri.below {W V : World} {base : Nat} {t : TV} {T : TrieT} (h : OTri W base t T) (hb : Below W.heap.size W V) : OTri V base t T :=
  ⟨own_below_ h.up hb, own_below_ h.dep hb, own_below_ h.wrd hb, own_below_ h.byt hb, h.bd, h.s1, h.s2, h.s3, h.s4, h.s5, h.s6⟩
theorem own_fresh {v lit : Value} {p : Nat} (hl : lit.ownBlock = some p) (h : v.ownBlock = lit.ownBlock ∨ v.ownBlock = some (p + 1)) : ∀ k, v.ownBlock = some k → p ≤ k := fun k hk => by
  rcases h with e | e
  · rw [hl, hk] at e; injection e with e; omega
  · rw [hk] at e; injection e with e; omega
theorem sep_of_lt {u v : Value} {n : Nat} (hu : ∀ k, u.ownBlock = some k → k < n) (hv : ∀ k, v.ownBlock = some k → n ≤ k) : sep u v := fun k h1 h2 => by have := hu k h1; have := hv k h2; omega
theorem grown_box {W V : World} {B : Nat} {o : Obj} (hg : (W.alloc o).grownBy V (some W.heap.size)) (hB : B < W.heap.size) : V.heap[B]? = W.heap[B]? :=
  (hg.block B (by simp; omega) (by simp; omega)).trans (Below.heap_alloc _ _ _ hB)
theorem grown_below2 {B : Nat} {W0 W V : World} {o : Obj} (hB : Below B W0 W) (hg : (W.alloc o).grownBy V (some W.heap.size)) (hn : B ≤ W.heap.size) : Below B W0 V :=
  (hB.alloc hn o).grown hg (by simp; omega) (fun k e => by injection e with e; omega)
theorem row_keep {W V : World} {base n size : Nat} {e : TypeId} {v : Value} {xs : List Value} {o : Obj} (h : W.ownsRow base e size v n xs) (hg : (W.alloc o).grownBy V (some W.heap.size)) : V.ownsRow base e size v n xs :=
  (h.alloc o).kept hg (by
    cases hv : v.ownBlock with
    | none => exact .inl rfl
    | some k => exact .inr (fun e => by have := (row_lt h k hv).2; injection e with e; omega))
theorem row_mono {w : World} {base base' n size : Nat} {e : TypeId} {v : Value} {xs : List Value} (h : w.ownsRow base e size v n xs) (hb : base' ≤ base) : w.ownsRow base' e size v n xs :=
  ⟨h.1, h.2.imp id fun ⟨g, cap, cur, h1, h2, r⟩ => ⟨g, cap, cur, h1, by omega, r⟩⟩
theorem lit_nil (w : World) (e : TypeId) {base : Nat} (hb : base ≤ w.heap.size) : (w.alloc (.cells #[] e)).ownsRow base e 1 (.slice (some ⟨w.heap.size, 0, none⟩) 0 0) 0 [] :=
  World.ownsRow_lit w #[] 0 hb (by decide) rfl

set_option maxRecDepth 100000 in
set_option maxHeartbeats 4000000 in
theorem rown7_any (t : TV) (T : TrieT) (w : World) (hT : Tri w t T) (hb : t.un ≤ 1000000 ∧ t.dn ≤ 1000000 ∧ t.xn ≤ 1000000 ∧ t.bn ≤ 1000000) :
    Calls Try.prog 54 #[.agg t.cells] w fun e w' => ∃ u : TV, e = .returned (.agg u.cells) ∧ OTri w' w.heap.size u T ∧ Below w.heap.size w w' := by
  obtain ⟨ua, un, uc, da, dn, dc, xa, xn, xc, ba, bn, bc⟩ := t
  dsimp only at hb
  obtain ⟨b1, b2, b3, b4⟩ := hb
  have hbd := Lib.hid hT.byt.2
  obtain ⟨W1, hW⟩ : ∃ W, W = (w.alloc (.cells #[.slice ua un uc, .slice da dn dc, .slice xa xn xc, .slice ba bn bc] 62)).alloc (.cells nil4 62) := ⟨_, rfl⟩
  have hB1 : Below w.heap.size w W1 := by rw [hW]; exact (below_alloc _ _).alloc (by simp) _
  have hbx1 : W1.heap[w.heap.size]? = some (.cells #[.slice ua un uc, .slice da dn dc, .slice xa xn xc, .slice ba bn bc] 62 (0, 0)) := by rw [hW]; exact (Below.heap_alloc _ _ _ (by simp)).trans (World.alloc_heap_new _ _)
  have hbz1 : W1.heap[w.heap.size + 1]? = some (.cells nil4 62 (0, 0)) := by
    rw [hW]; exact alloc_at (w := w.alloc (.cells #[.slice ua un uc, .slice da dn dc, .slice xa xn xc, .slice ba bn bc] 62)) (n := w.heap.size + 1) (by simp) _
  have hz1 : w.heap.size + 2 ≤ W1.heap.size := by rw [hW]; simp
  have hT1 := hT.below hB1
  obtain ⟨i0, hi, hz0, hzz1, hzz2⟩ := info_parts i64_infoP
  obtain ⟨j0, hj, hy0, hy1, hy2⟩ := info_parts u8_info
  go_enter Try.func54, Try.ntmps54
  go_upto_region 1 with fail
  rw [← hW]
  clear hW
  have q1 : ∀ V : World, V.heap[w.heap.size]? = W1.heap[w.heap.size]? → V.cell? ⟨w.heap.size, 0, none⟩ = some (.slice ua un uc) ∧ V.frozen? ⟨w.heap.size, 0, none⟩ = false := fun V hV => by rw [hbx1] at hV; simp [World.cell?, World.frozen?, hV]
  have Q1 := Lib.hid q1
  clear q1
  have hl1 := lit_nil W1 3 (base := w.heap.size + 2) hz1
  have hTA1 := hT1.below (below_alloc W1 (.cells #[] 3))
  have c1 := (Q1.out (W1.alloc (.cells #[] 3)) (Below.heap_alloc _ _ _ (by omega))).1
  go_upto_region 1 with fail
  go_upto_region 2 with (at_builtin; refine wpList_append_sl1 rfl _ _ 24 rfl i64_one (w.heap.size + 2) 3 i0 (.int .i64 0) 8 Try.underlying24 hi hz0 hzz1 hzz2 rfl _ 0 [] rfl hl1 ua un uc T.up rfl hTA1.up (by unfold maxLen; omega) (by omega) (by simp; omega) ?_; intro v1 V1 hown1 hg1 hat1; have p1 := Q1.out V1 (grown_box hg1 (by omega)); obtain ⟨r1, f1⟩ := p1; rw [Nat.zero_add, List.nil_append] at hown1; obtain ⟨A1, C1, rfl, hC1, _⟩ := own_sl1 (enc := Value.int .i64) (xs := T.up) hown1)
  have hfr1 := own_fresh (p := W1.heap.size) rfl (by simpa using hat1)
  have hgs1 := hg1.size
  simp only [World.size_alloc] at hgs1
  obtain ⟨W2, hW⟩ : ∃ W, W = V1.setCell ⟨w.heap.size, 0, none⟩ (.slice A1 un C1) := ⟨_, rfl⟩
  rw [← hW]
  have hBV1 : Below w.heap.size w V1 := grown_below2 hB1 hg1 (by omega)
  have hB2 : Below w.heap.size w W2 := by rw [hW]; exact hBV1.setCell (Nat.le_refl _) _
  have hbV1 : V1.heap[w.heap.size]? = some (.cells #[.slice ua un uc, .slice da dn dc, .slice xa xn xc, .slice ba bn bc] 62 (0, 0)) := (grown_box hg1 (by omega)).trans hbx1
  have hbx2 : W2.heap[w.heap.size]? = some (.cells #[.slice A1 un C1, .slice da dn dc, .slice xa xn xc, .slice ba bn bc] 62 (0, 0)) := by rw [hW]; simpa using set_at (i := 0) hbV1 (.slice A1 un C1)
  have hbz2 : W2.heap[w.heap.size + 1]? = some (.cells nil4 62 (0, 0)) := by
    rw [hW]; exact (Below.heap_setCell _ _ _ _ (by simp)).trans ((grown_box hg1 (by omega)).trans hbz1)
  have hz2 : w.heap.size + 2 ≤ W2.heap.size := by rw [hW]; simp; omega
  have hsz1 : W1.heap.size < W2.heap.size := by rw [hW]; simp; omega
  have hT2 := hT.below hB2
  have hrow1 : W2.ownsRow (w.heap.size + 2) 3 1 (.slice A1 un C1) un (T.up.map (Value.int .i64)) := by rw [hW]; exact row_set hown1 (by omega) _
  have hup1 : ∀ j, (Value.slice A1 un C1).ownBlock = some j → j < W2.heap.size := fun j hj => (row_lt hrow1 j hj).2
  clear hW c1 hown1 hg1 hat1 r1 f1 hbV1 hl1 hTA1
  have q2 : ∀ V : World, V.heap[w.heap.size]? = W2.heap[w.heap.size]? → V.cell? ⟨w.heap.size, 1, none⟩ = some (.slice da dn dc) ∧ V.frozen? ⟨w.heap.size, 1, none⟩ = false := fun V hV => by rw [hbx2] at hV; simp [World.cell?, World.frozen?, hV]
  have Q2 := Lib.hid q2
  clear q2
  have hl2 := lit_nil W2 3 (base := w.heap.size + 2) hz2
  have hTA2 := hT2.below (below_alloc W2 (.cells #[] 3))
  have c2 := (Q2.out (W2.alloc (.cells #[] 3)) (Below.heap_alloc _ _ _ (by omega))).1
  go_upto_region 2 with fail
  go_upto_region 3 with (at_builtin; refine wpList_append_sl1 rfl _ _ 24 rfl i64_one (w.heap.size + 2) 3 i0 (.int .i64 0) 8 Try.underlying24 hi hz0 hzz1 hzz2 rfl _ 0 [] rfl hl2 da dn dc T.dep rfl hTA2.dep (by unfold maxLen; omega) (by omega) (by simp; omega) ?_; intro v2 V2 hown2 hg2 hat2; have p2 := Q2.out V2 (grown_box hg2 (by omega)); obtain ⟨r2, f2⟩ := p2; rw [Nat.zero_add, List.nil_append] at hown2; obtain ⟨A2, C2, rfl, hC2, _⟩ := own_sl1 (enc := Value.int .i64) (xs := T.dep) hown2)
  have hfr2 := own_fresh (p := W2.heap.size) rfl (by simpa using hat2)
  have hgs2 := hg2.size
  simp only [World.size_alloc] at hgs2
  obtain ⟨W3, hW⟩ : ∃ W, W = V2.setCell ⟨w.heap.size, 1, none⟩ (.slice A2 dn C2) := ⟨_, rfl⟩
  rw [← hW]
  have hBV2 : Below w.heap.size w V2 := grown_below2 hB2 hg2 (by omega)
  have hB3 : Below w.heap.size w W3 := by rw [hW]; exact hBV2.setCell (Nat.le_refl _) _
  have hbV2 : V2.heap[w.heap.size]? = some (.cells #[.slice A1 un C1, .slice da dn dc, .slice xa xn xc, .slice ba bn bc] 62 (0, 0)) := (grown_box hg2 (by omega)).trans hbx2
  have hbx3 : W3.heap[w.heap.size]? = some (.cells #[.slice A1 un C1, .slice A2 dn C2, .slice xa xn xc, .slice ba bn bc] 62 (0, 0)) := by rw [hW]; simpa using set_at (i := 1) hbV2 (.slice A2 dn C2)
  have hbz3 : W3.heap[w.heap.size + 1]? = some (.cells nil4 62 (0, 0)) := by
    rw [hW]; exact (Below.heap_setCell _ _ _ _ (by simp)).trans ((grown_box hg2 (by omega)).trans hbz2)
  have hz3 : w.heap.size + 2 ≤ W3.heap.size := by rw [hW]; simp; omega
  have hsz2 : W2.heap.size < W3.heap.size := by rw [hW]; simp; omega
  have hT3 := hT.below hB3
  have hrow2 : W3.ownsRow (w.heap.size + 2) 3 1 (.slice A2 dn C2) dn (T.dep.map (Value.int .i64)) := by rw [hW]; exact row_set hown2 (by omega) _
  have hrow1 : W3.ownsRow (w.heap.size + 2) 3 1 (.slice A1 un C1) un (T.up.map (Value.int .i64)) := by
    rw [hW]; exact row_set (row_keep hrow1 hg2) (by omega) _
  have hup2 : ∀ j, (Value.slice A2 dn C2).ownBlock = some j → j < W3.heap.size := fun j hj => (row_lt hrow2 j hj).2
  clear hW c2 hown2 hg2 hat2 r2 f2 hbV2 hl2 hTA2
  have q3 : ∀ V : World, V.heap[w.heap.size]? = W3.heap[w.heap.size]? → V.cell? ⟨w.heap.size, 2, none⟩ = some (.slice xa xn xc) ∧ V.frozen? ⟨w.heap.size, 2, none⟩ = false := fun V hV => by rw [hbx3] at hV; simp [World.cell?, World.frozen?, hV]
  have Q3 := Lib.hid q3
  clear q3
  have hl3 := lit_nil W3 3 (base := w.heap.size + 2) hz3
  have hTA3 := hT3.below (below_alloc W3 (.cells #[] 3))
  have c3 := (Q3.out (W3.alloc (.cells #[] 3)) (Below.heap_alloc _ _ _ (by omega))).1
  go_upto_region 3 with fail
  go_upto_region 4 with (at_builtin; refine wpList_append_sl1 rfl _ _ 24 rfl i64_one (w.heap.size + 2) 3 i0 (.int .i64 0) 8 Try.underlying24 hi hz0 hzz1 hzz2 rfl _ 0 [] rfl hl3 xa xn xc T.wrd rfl hTA3.wrd (by unfold maxLen; omega) (by omega) (by simp; omega) ?_; intro v3 V3 hown3 hg3 hat3; have p3 := Q3.out V3 (grown_box hg3 (by omega)); obtain ⟨r3, f3⟩ := p3; rw [Nat.zero_add, List.nil_append] at hown3; obtain ⟨A3, C3, rfl, hC3, _⟩ := own_sl1 (enc := Value.int .i64) (xs := T.wrd) hown3)
  have hfr3 := own_fresh (p := W3.heap.size) rfl (by simpa using hat3)
  have hgs3 := hg3.size
  simp only [World.size_alloc] at hgs3
  obtain ⟨W4, hW⟩ : ∃ W, W = V3.setCell ⟨w.heap.size, 2, none⟩ (.slice A3 xn C3) := ⟨_, rfl⟩
  rw [← hW]
  have hBV3 : Below w.heap.size w V3 := grown_below2 hB3 hg3 (by omega)
  have hB4 : Below w.heap.size w W4 := by rw [hW]; exact hBV3.setCell (Nat.le_refl _) _
  have hbV3 : V3.heap[w.heap.size]? = some (.cells #[.slice A1 un C1, .slice A2 dn C2, .slice xa xn xc, .slice ba bn bc] 62 (0, 0)) := (grown_box hg3 (by omega)).trans hbx3
  have hbx4 : W4.heap[w.heap.size]? = some (.cells #[.slice A1 un C1, .slice A2 dn C2, .slice A3 xn C3, .slice ba bn bc] 62 (0, 0)) := by rw [hW]; simpa using set_at (i := 2) hbV3 (.slice A3 xn C3)
  have hbz4 : W4.heap[w.heap.size + 1]? = some (.cells nil4 62 (0, 0)) := by
    rw [hW]; exact (Below.heap_setCell _ _ _ _ (by simp)).trans ((grown_box hg3 (by omega)).trans hbz3)
  have hz4 : w.heap.size + 2 ≤ W4.heap.size := by rw [hW]; simp; omega
  have hsz3 : W3.heap.size < W4.heap.size := by rw [hW]; simp; omega
  have hT4 := hT.below hB4
  have hrow3 : W4.ownsRow (w.heap.size + 2) 3 1 (.slice A3 xn C3) xn (T.wrd.map (Value.int .i64)) := by rw [hW]; exact row_set hown3 (by omega) _
  have hrow1 : W4.ownsRow (w.heap.size + 2) 3 1 (.slice A1 un C1) un (T.up.map (Value.int .i64)) := by
    rw [hW]; exact row_set (row_keep hrow1 hg3) (by omega) _
  have hrow2 : W4.ownsRow (w.heap.size + 2) 3 1 (.slice A2 dn C2) dn (T.dep.map (Value.int .i64)) := by
    rw [hW]; exact row_set (row_keep hrow2 hg3) (by omega) _
  have hup3 : ∀ j, (Value.slice A3 xn C3).ownBlock = some j → j < W4.heap.size := fun j hj => (row_lt hrow3 j hj).2
  clear hW c3 hown3 hg3 hat3 r3 f3 hbV3 hl3 hTA3
  have q4 : ∀ V : World, V.heap[w.heap.size]? = W4.heap[w.heap.size]? → V.cell? ⟨w.heap.size, 3, none⟩ = some (.slice ba bn bc) ∧ V.frozen? ⟨w.heap.size, 3, none⟩ = false := fun V hV => by rw [hbx4] at hV; simp [World.cell?, World.frozen?, hV]
  have Q4 := Lib.hid q4
  clear q4
  have hl4 := lit_nil W4 5 (base := w.heap.size + 2) hz4
  have hTA4 := hT4.below (below_alloc W4 (.cells #[] 5))
  have c4 := (Q4.out (W4.alloc (.cells #[] 5)) (Below.heap_alloc _ _ _ (by omega))).1
  go_upto_region 4 with fail
  go_upto_region 5 with (at_builtin; refine wpList_append_sl1 rfl _ _ 40 rfl u8_one (w.heap.size + 2) 5 j0 (.int .u8 0) 1 Try.underlying40 hj hy0 hy1 hy2 rfl _ 0 [] rfl hl4 ba bn bc T.byt rfl hTA4.byt.1 (by unfold maxLen; omega) (by omega) (by simp; omega) ?_; intro v4 V4 hown4 hg4 hat4; have p4 := Q4.out V4 (grown_box hg4 (by omega)); obtain ⟨r4, f4⟩ := p4; rw [Nat.zero_add, List.nil_append] at hown4; obtain ⟨A4, C4, rfl, hC4, _⟩ := own_sl1 (enc := Value.int .u8) (xs := T.byt) hown4)
  have hfr4 := own_fresh (p := W4.heap.size) rfl (by simpa using hat4)
  have hgs4 := hg4.size
  simp only [World.size_alloc] at hgs4
  obtain ⟨W5, hW⟩ : ∃ W, W = V4.setCell ⟨w.heap.size, 3, none⟩ (.slice A4 bn C4) := ⟨_, rfl⟩
  rw [← hW]
  have hBV4 : Below w.heap.size w V4 := grown_below2 hB4 hg4 (by omega)
  have hB5 : Below w.heap.size w W5 := by rw [hW]; exact hBV4.setCell (Nat.le_refl _) _
  have hbV4 : V4.heap[w.heap.size]? = some (.cells #[.slice A1 un C1, .slice A2 dn C2, .slice A3 xn C3, .slice ba bn bc] 62 (0, 0)) := (grown_box hg4 (by omega)).trans hbx4
  have hbx5 : W5.heap[w.heap.size]? = some (.cells #[.slice A1 un C1, .slice A2 dn C2, .slice A3 xn C3, .slice A4 bn C4] 62 (0, 0)) := by rw [hW]; simpa using set_at (i := 3) hbV4 (.slice A4 bn C4)
  have hbz5 : W5.heap[w.heap.size + 1]? = some (.cells nil4 62 (0, 0)) := by
    rw [hW]; exact (Below.heap_setCell _ _ _ _ (by simp)).trans ((grown_box hg4 (by omega)).trans hbz4)
  have hz5 : w.heap.size + 2 ≤ W5.heap.size := by rw [hW]; simp; omega
  have hsz4 : W4.heap.size < W5.heap.size := by rw [hW]; simp; omega
  have hT5 := hT.below hB5
  have hrow4 : W5.ownsRow (w.heap.size + 2) 5 1 (.slice A4 bn C4) bn (T.byt.map (Value.int .u8)) := by rw [hW]; exact row_set hown4 (by omega) _
  have hrow1 : W5.ownsRow (w.heap.size + 2) 3 1 (.slice A1 un C1) un (T.up.map (Value.int .i64)) := by
    rw [hW]; exact row_set (row_keep hrow1 hg4) (by omega) _
  have hrow2 : W5.ownsRow (w.heap.size + 2) 3 1 (.slice A2 dn C2) dn (T.dep.map (Value.int .i64)) := by
    rw [hW]; exact row_set (row_keep hrow2 hg4) (by omega) _
  have hrow3 : W5.ownsRow (w.heap.size + 2) 3 1 (.slice A3 xn C3) xn (T.wrd.map (Value.int .i64)) := by
    rw [hW]; exact row_set (row_keep hrow3 hg4) (by omega) _
  have hup4 : ∀ j, (Value.slice A4 bn C4).ownBlock = some j → j < W5.heap.size := fun j hj => (row_lt hrow4 j hj).2
  clear hW c4 hown4 hg4 hat4 r4 f4 hbV4 hl4 hTA4
  have e1 : W5.cell? ⟨w.heap.size, 0, none⟩ = some (.slice A1 un C1) := by simp [World.cell?, hbx5]
  have e2 : W5.cell? ⟨w.heap.size, 1, none⟩ = some (.slice A2 dn C2) := by simp [World.cell?, hbx5]
  have e3 : W5.cell? ⟨w.heap.size, 2, none⟩ = some (.slice A3 xn C3) := by simp [World.cell?, hbx5]
  have e4 : W5.cell? ⟨w.heap.size, 3, none⟩ = some (.slice A4 bn C4) := by simp [World.cell?, hbx5]
  have z0 : ∀ i, W5.frozen? ⟨w.heap.size + 1, i, none⟩ = false := fun i => by simp [World.frozen?, hbz5]
  have z1 : W5.cell? ⟨w.heap.size + 1, 0, none⟩ = some (.slice none 0 0) := by simp [World.cell?, hbz5]
  have z2 : W5.cell? ⟨w.heap.size + 1, 1, none⟩ = some (.slice none 0 0) := by simp [World.cell?, hbz5]
  have z3 : W5.cell? ⟨w.heap.size + 1, 2, none⟩ = some (.slice none 0 0) := by simp [World.cell?, hbz5]
  have z4 : W5.cell? ⟨w.heap.size + 1, 3, none⟩ = some (.slice none 0 0) := by simp [World.cell?, hbz5]
  go_wp2
  have hz5' := set_at (i := 3) (set_at (i := 2) (set_at (i := 1) (set_at (i := 0) hbz5 (.slice A1 un C1)) (.slice A2 dn C2)) (.slice A3 xn C3)) (.slice A4 bn C4)
  have mv : ∀ {e : TypeId} {n m c : Nat} {a : Option Addr} {xs : List Value}, W5.ownsRow (w.heap.size + 2) e 1 (.slice a m c) n xs → ((((W5.setCell ⟨w.heap.size + 1, 0, none⟩ (.slice A1 un C1)).setCell ⟨w.heap.size + 1, 1, none⟩ (.slice A2 dn C2)).setCell ⟨w.heap.size + 1, 2, none⟩ (.slice A3 xn C3)).setCell ⟨w.heap.size + 1, 3, none⟩ (.slice A4 bn C4)).ownsRow w.heap.size e 1 (.slice a m c) n xs := fun h =>
    row_mono (row_set (row_set (row_set (row_set h (by omega) _) (by omega) _) (by omega) _) (by omega) _) (by omega)
  refine bodyPost_ret (results_trie1 rfl rfl (by simpa using hz5')) rfl ?_
  refine ⟨⟨A1, un, C1, A2, dn, C2, A3, xn, C3, A4, bn, C4⟩, rfl, ⟨mv hrow1, mv hrow2, mv hrow3, mv hrow4, hbd.out, ?_, ?_, ?_, ?_, ?_, ?_⟩, (((hB5.setCell (by simp) _).setCell (by simp) _).setCell (by simp) _).setCell (by simp) _⟩
  · exact sep_of_lt hup1 hfr2
  · exact sep_of_lt hup1 (fun k hk => by have := hfr3 k hk; omega)
  · exact sep_of_lt hup1 (fun k hk => by have := hfr4 k hk; omega)
  · exact sep_of_lt hup2 hfr3
  · exact sep_of_lt hup2 (fun k hk => by have := hfr4 k hk; omega)
  · exact sep_of_lt hup3 hfr4

end Go.Proofs.Ytmpmjkbjnklgfaa

/- A trie in memory of its own (layer 7): walked. Printed by gen_v8.py. -/

namespace Go.Proofs.Ytmpmjkbjnklgfaa
open Go.RowKit Go.Sort
set_option linter.unusedVariables false
set_option linter.unusedSimpArgs false

set_option maxRecDepth 100000 in
set_option maxHeartbeats 8000000 in
theorem own7_any (t : TV) (T : TrieT) (w : World) (hT : Tri w t T) (hb : t.un ≤ 1000000 ∧ t.dn ≤ 1000000 ∧ t.xn ≤ 1000000 ∧ t.bn ≤ 1000000) :
    Calls Try.prog 83 #[.agg t.cells] w fun e w' => ∃ u : TV, e = .returned (.agg u.cells) ∧ Tri w' u T ∧ Below w.heap.size w w' := by
  obtain ⟨ua, un, uc, da, dn, dc, xa, xn, xc, ba, bn, bc⟩ := t
  dsimp only at hb
  obtain ⟨b1, b2, b3, b4⟩ := hb
  have hbd := Lib.hid hT.byt.2
  obtain ⟨W, hW⟩ : ∃ W, W = (w.alloc (.cells #[.slice ua un uc, .slice da dn dc, .slice xa xn xc, .slice ba bn bc] 62)).alloc (.cells nil4 62) := ⟨_, rfl⟩
  have hB1 : Below w.heap.size w W := by rw [hW]; exact (below_alloc _ _).alloc (by simp) _
  have hbx : W.heap[w.heap.size]? = some (.cells #[.slice ua un uc, .slice da dn dc, .slice xa xn xc, .slice ba bn bc] 62 (0, 0)) := by rw [hW]; exact (Below.heap_alloc _ _ _ (by simp)).trans (World.alloc_heap_new _ _)
  have hbz : W.heap[w.heap.size + 1]? = some (.cells nil4 62 (0, 0)) := by
    rw [hW]; exact alloc_at (w := w.alloc (.cells #[.slice ua un uc, .slice da dn dc, .slice xa xn xc, .slice ba bn bc] 62)) (n := w.heap.size + 1) (by simp) _
  have hT1 := hT.below hB1
  have HK : Hid (∀ V : World, Below W.heap.size W V → (V.cell? ⟨w.heap.size, 0, none⟩ = some (.slice ua un uc) ∧ V.cell? ⟨w.heap.size, 1, none⟩ = some (.slice da dn dc) ∧ V.cell? ⟨w.heap.size, 2, none⟩ = some (.slice xa xn xc) ∧ V.cell? ⟨w.heap.size, 3, none⟩ = some (.slice ba bn bc))) := fun V hV => by
    have e := (hV.block _ (Array.getElem?_eq_some_iff.1 hbx).1).trans hbx
    simp [World.cell?, e]
  have HZ : Hid (∀ V : World, Below W.heap.size W V → V.heap[w.heap.size + 1]? = some (.cells nil4 62 (0, 0))) := fun V hV => (hV.block _ (Array.getElem?_eq_some_iff.1 hbz).1).trans hbz
  have HQ : Hid (∀ V : World, Below W.heap.size W V → (∀ i, V.frozen? ⟨w.heap.size + 1, i, none⟩ = false) ∧ V.cell? ⟨w.heap.size + 1, 0, none⟩ = some (.slice none 0 0) ∧ V.cell? ⟨w.heap.size + 1, 1, none⟩ = some (.slice none 0 0) ∧ V.cell? ⟨w.heap.size + 1, 2, none⟩ = some (.slice none 0 0) ∧ V.cell? ⟨w.heap.size + 1, 3, none⟩ = some (.slice none 0 0)) := fun V hV => by
    have e := HZ.out V hV
    simp [World.cell?, World.frozen?, e]
  obtain ⟨i0, hi, hz0, hzz1, hzz2⟩ := info_parts i64_infoP
  obtain ⟨j0, hj, hy0, hy1, hy2⟩ := info_parts u8_info
  have hBd : Below W.heap.size W W.drew := (Below.refl _ _).drew
  obtain ⟨k0, k1, k2, k3⟩ := HK.out W (Below.refl _ _)
  clear hbx hbz
  go_enter Try.func83, Try.ntmps83
  go_upto_region 1 with fail
  rw [← hW]
  clear hW
  go_region_held3 (fun w' => w'.cell? ⟨w.heap.size, 0, none⟩ = some (.slice ua un uc) ∧ w'.cell? ⟨w.heap.size, 1, none⟩ = some (.slice da dn dc) ∧ w'.cell? ⟨w.heap.size, 2, none⟩ = some (.slice xa xn xc) ∧ w'.cell? ⟨w.heap.size, 3, none⟩ = some (.slice ba bn bc)) (first | (go_keep; done) | exact HK.out _ (by assumption)) (first
    | (refine step_append_sl1 (by rfl) _ _ 24 (by rfl) i64_one W.heap.size 3 i0 (.int .i64 0) 8 Try.underlying24 hi hz0 hzz1 hzz2 rfl (.slice none 0 0) 0 [] (by rfl) (World.ownsRow_nil _ _ _ _) ua un uc T.up (by rfl) ((hT1.below (by assumption)).up) (by unfold maxLen; omega) (by omega) (Below.size (by assumption)) ?_
       intro v1 w1 hown1 hg1 hat1
       have hB1' : Below W.heap.size W w1 := Below.grown (by assumption) hg1 (Below.size (by assumption)) (fun k e => by cases e)
       have hst1 := Below.grown (Below.refl _ _) hg1 (Nat.le_refl _) (fun k e => by cases e)
       rw [Nat.zero_add, List.nil_append] at hown1
       obtain ⟨A1, C1, rfl, hC1, hS1⟩ := own_sl1 (enc := Value.int .i64) (xs := T.up) hown1
       clear hat1 hg1
       obtain ⟨d11, d12, d13, d14⟩ := HK.out w1 hB1'
       obtain ⟨f10, f11, f12, f13, f14⟩ := HQ.out w1 hB1')
    | (refine step_append_sl1 (by rfl) _ _ 24 (by rfl) i64_one W.heap.size 3 i0 (.int .i64 0) 8 Try.underlying24 hi hz0 hzz1 hzz2 rfl (.slice none 0 0) 0 [] (by rfl) (World.ownsRow_nil _ _ _ _) da dn dc T.dep (by rfl) ((hT1.below (by assumption)).dep) (by unfold maxLen; omega) (by omega) (Below.size (by assumption)) ?_
       intro v2 w2 hown2 hg2 hat2
       have hB2' : Below W.heap.size W w2 := Below.grown (by assumption) hg2 (Below.size (by assumption)) (fun k e => by cases e)
       have hst2 := Below.grown (Below.refl _ _) hg2 (Nat.le_refl _) (fun k e => by cases e)
       rw [Nat.zero_add, List.nil_append] at hown2
       obtain ⟨A2, C2, rfl, hC2, hS2⟩ := own_sl1 (enc := Value.int .i64) (xs := T.dep) hown2
       clear hat2 hg2
       obtain ⟨d21, d22, d23, d24⟩ := HK.out w2 hB2'
       obtain ⟨f20, f21, f22, f23, f24⟩ := HQ.out w2 hB2')
    | (refine step_append_sl1 (by rfl) _ _ 24 (by rfl) i64_one W.heap.size 3 i0 (.int .i64 0) 8 Try.underlying24 hi hz0 hzz1 hzz2 rfl (.slice none 0 0) 0 [] (by rfl) (World.ownsRow_nil _ _ _ _) xa xn xc T.wrd (by rfl) ((hT1.below (by assumption)).wrd) (by unfold maxLen; omega) (by omega) (Below.size (by assumption)) ?_
       intro v3 w3 hown3 hg3 hat3
       have hB3' : Below W.heap.size W w3 := Below.grown (by assumption) hg3 (Below.size (by assumption)) (fun k e => by cases e)
       have hst3 := Below.grown (Below.refl _ _) hg3 (Nat.le_refl _) (fun k e => by cases e)
       rw [Nat.zero_add, List.nil_append] at hown3
       obtain ⟨A3, C3, rfl, hC3, hS3⟩ := own_sl1 (enc := Value.int .i64) (xs := T.wrd) hown3
       clear hat3 hg3
       obtain ⟨d31, d32, d33, d34⟩ := HK.out w3 hB3'
       obtain ⟨f30, f31, f32, f33, f34⟩ := HQ.out w3 hB3')
    | (refine step_append_sl1 (by rfl) _ _ 40 (by rfl) u8_one W.heap.size 5 j0 (.int .u8 0) 1 Try.underlying40 hj hy0 hy1 hy2 rfl (.slice none 0 0) 0 [] (by rfl) (World.ownsRow_nil _ _ _ _) ba bn bc T.byt (by rfl) ((hT1.below (by assumption)).byt.1) (by unfold maxLen; omega) (by omega) (Below.size (by assumption)) ?_
       intro v4 w4 hown4 hg4 hat4
       have hB4' : Below W.heap.size W w4 := Below.grown (by assumption) hg4 (Below.size (by assumption)) (fun k e => by cases e)
       have hst4 := Below.grown (Below.refl _ _) hg4 (Nat.le_refl _) (fun k e => by cases e)
       rw [Nat.zero_add, List.nil_append] at hown4
       obtain ⟨A4, C4, rfl, hC4, hS4⟩ := own_sl1 (enc := Value.int .u8) (xs := T.byt) hown4
       clear hat4 hg4
       obtain ⟨d41, d42, d43, d44⟩ := HK.out w4 hB4'
       obtain ⟨f40, f41, f42, f43, f44⟩ := HQ.out w4 hB4'))
  all_goals
    go_wp2
    have hz5' := set_at (i := 3) (set_at (i := 2) (set_at (i := 1) (set_at (i := 0) (HZ.out w4 hB4') (.slice A1 un C1)) (.slice A2 dn C2)) (.slice A3 xn C3)) (.slice A4 bn C4)
    have hWs : w.heap.size + 1 < W.heap.size := (Array.getElem?_eq_some_iff.1 (HZ.out W (Below.refl _ _))).1
    have mv : ∀ {e : TypeId} {n m c : Nat} {a : Option Addr} {xs : List Value}, w4.ownsRow W.heap.size e 1 (.slice a m c) n xs → ((((w4.setCell ⟨w.heap.size + 1, 0, none⟩ (.slice A1 un C1)).setCell ⟨w.heap.size + 1, 1, none⟩ (.slice A2 dn C2)).setCell ⟨w.heap.size + 1, 2, none⟩ (.slice A3 xn C3)).setCell ⟨w.heap.size + 1, 3, none⟩ (.slice A4 bn C4)).ownsRow W.heap.size e 1 (.slice a m c) n xs := fun h =>
      row_set (row_set (row_set (row_set h (by omega) _) (by omega) _) (by omega) _) (by omega) _
    have hr1 := mv (own_below_ (own_below_ (own_below_ hown1 hst2) hst3) hst4)
    have hr2 := mv (own_below_ (own_below_ hown2 hst3) hst4)
    have hr3 := mv (own_below_ hown3 hst4)
    have hr4 := mv hown4
    have hBf : Below w.heap.size w w4 := hB1.trans (hB4'.mono hB1.size)
    refine bodyPost_ret (results_trie1 rfl rfl (by simpa using hz5')) rfl ?_
    exact ⟨⟨A1, un, C1, A2, dn, C2, A3, xn, C3, A4, bn, C4⟩, rfl, ⟨own_sl hr1, own_sl hr2, own_sl hr3, ⟨own_sl hr4, hbd.out⟩, hC1, hC2, hC3, hC4⟩, (((hBf.setCell (by simp) _).setCell (by simp) _).setCell (by simp) _).setCell (by simp) _⟩

end Go.Proofs.Ytmpmjkbjnklgfaa

/- Lists of numbers, tries that are the same, as the document has them (layer 7): walked. -/

namespace Go.Proofs.Ytmpmjkbjnklgfaa
open Go.RowKit Go.Sort
set_option linter.unusedVariables false
set_option linter.unusedSimpArgs false

set_option maxHeartbeats 2000000 in
theorem rints_any (a b : Option Addr) (la ca lb cb : Nat) (l m : List Int) (w : World) (hA : Sl1 (Value.int .i64) w a la l) (hB : Sl1 (Value.int .i64) w b lb m) (hla : la ≤ 4611686018427387904) :
    Calls Try.prog 116 #[.slice a la ca, .slice b lb cb] w fun e w' => e = .returned (.bool (decide (l = m))) ∧ Below w.heap.size w w' := by
  have HA := Lib.hid hA.1
  have HB := Lib.hid hB.1
  by_cases hl : la = lb
  · subst hl
    go_enter Try.func116, Try.ntmps116
    go_wp2
    go_loopw [5] (fun i wr => ∃ k : Nat, k ≤ la ∧ i = .int .i64 k ∧ Hid (l.take k = m.take k) ∧ Below w.heap.size w wr) (fun i _ => la - (intOf i).toNat)
    case atStart => exact ⟨0, Nat.zero_le _, rfl, by simp [Hid], Below.refl _ _⟩
    case round =>
      obtain ⟨k, hk, rfl, HK, hBe⟩ := hrel
      by_cases hlt : k < la
      · obtain ⟨b1, o1, x, rfl, hb1, x0, hx⟩ := sl1_at (hA.below hBe) hlt
        obtain ⟨b2, o2, y, rfl, hb2, y0, hy⟩ := sl1_at (hB.below hBe) hlt
        have HX := Lib.hid hx
        have HY := Lib.hid hy
        clear hx hy
        have hd : decide ((k : Int) < la) = true := by simp; omega
        by_cases h : x = y
        · have HS : Hid (l.take (k + 1) = m.take (k + 1)) := by rw [take_step HX.out, take_step HY.out, HK.out, h]; rfl
          have hdd : ((x : Int) != y) = false := by simp [h]
          clear h
          go_wp2
          go_quiet (fail)
          go_wp2
          go_roundw
          case rel => exact ⟨k + 1, by omega, by go_num, HS, hBe.trans ⟨rfl, rfl, rfl, Nat.le_refl _, fun _ _ => rfl⟩⟩
          case measure => simp [intOf]; omega
        · have HS : Hid (decide (l = m) = false) := by
            have : l ≠ m := fun e => by
              have h1 := HX.out
              rw [e, HY.out] at h1
              exact h (Option.some.inj h1).symm
            simp [Hid, this]
          have hdd : ((x : Int) != y) = true := by simp [h]
          clear h
          go_wp2
          go_quiet (fail)
          go_wp2
          go_ret
          exact ⟨by rw [HS.out]; rfl, hBe.trans ⟨rfl, rfl, rfl, Nat.le_refl _, fun _ _ => rfl⟩⟩
      · obtain rfl : k = la := by omega
        have HS : Hid (decide (l = m) = true) := by
          have h := HK.out
          rw [List.take_of_length_le (by rw [HA.out]; exact Nat.le_refl _), List.take_of_length_le (by rw [HB.out]; exact Nat.le_refl _)] at h
          simp [Hid, h]
        go_wp2
        go_ret
        exact ⟨by rw [HS.out]; rfl, hBe⟩
  · have HS : Hid (decide (l = m) = false) := by
      have : l ≠ m := fun e => hl (by rw [← HA.out, ← HB.out, e])
      simp [Hid, this]
    have hne : ((la : Int) != (lb : Int)) = true := by simp; omega
    go_enter Try.func116, Try.ntmps116
    go_wp2
    go_ret
    exact ⟨by rw [HS.out]; rfl, Below.refl _ _⟩

set_option maxHeartbeats 4000000 in
theorem rsame7_any (t v : TV) (T U : TrieT) (w : World) (hT : Tri w t T) (hU : Tri w v U) (hb : t.un ≤ 4611686018427387904 ∧ t.dn ≤ 4611686018427387904 ∧ t.xn ≤ 4611686018427387904 ∧ t.bn ≤ 4611686018427387904) :
    Calls Try.prog 81 #[.agg t.cells, .agg v.cells] w fun e w' => e = .returned (.bool (eqT T U)) ∧ Below w.heap.size w w' := by
  obtain ⟨ua, un, uc, da, dn, dc, xa, xn, xc, ba, bn, bc⟩ := t
  obtain ⟨va, vn, vc, ea, en, ec, ya, yn, yc, ca, cn, cc⟩ := v
  dsimp only at hb
  obtain ⟨h1, h2, h3, h4⟩ := hb
  have hB2 : Below w.heap.size w ((w.alloc (.cells #[.slice ua un uc, .slice da dn dc, .slice xa xn xc, .slice ba bn bc] 62)).alloc (.cells #[.slice va vn vc, .slice ea en ec, .slice ya yn yc, .slice ca cn cc] 62)) := ((Below.refl _ _).alloc (Nat.le_refl _) _).alloc (by simp) _
  have hO : Bx w.heap.size [.cells #[.slice ua un uc, .slice da dn dc, .slice xa xn xc, .slice ba bn bc] 62, .cells #[.slice va vn vc, .slice ea en ec, .slice ya yn yc, .slice ca cn cc] 62] ((w.alloc (.cells #[.slice ua un uc, .slice da dn dc, .slice xa xn xc, .slice ba bn bc] 62)).alloc (.cells #[.slice va vn vc, .slice ea en ec, .slice ya yn yc, .slice ca cn cc] 62)) :=
    ((Bx.nil _ w).snoc _ rfl).snoc _ (by simp)
  have hT2 := hT.below hB2
  have hU2 := hU.below hB2
  obtain ⟨TU, TD, TX, TB⟩ := T
  obtain ⟨UU, UD, UX, UB⟩ := U
  have HE : Hid (eqT ⟨TU, TD, TX, TB⟩ ⟨UU, UD, UX, UB⟩ = (decide (TU = UU) && decide (TD = UD) && decide (TX = UX) && decide (TB = UB))) := rfl
  have k1 := fun (V : World) (hV : Below ((w.alloc (.cells #[.slice ua un uc, .slice da dn dc, .slice xa xn xc, .slice ba bn bc] 62)).alloc (.cells #[.slice va vn vc, .slice ea en ec, .slice ya yn yc, .slice ca cn cc] 62)).heap.size _ V) => rints_any ua va un uc vn vc TU UU V (hT2.up.below hV) (hU2.up.below hV) h1
  have k2 := fun (V : World) (hV : Below ((w.alloc (.cells #[.slice ua un uc, .slice da dn dc, .slice xa xn xc, .slice ba bn bc] 62)).alloc (.cells #[.slice va vn vc, .slice ea en ec, .slice ya yn yc, .slice ca cn cc] 62)).heap.size _ V) => rints_any da ea dn dc en ec TD UD V (hT2.dep.below hV) (hU2.dep.below hV) h2
  have k3 := fun (V : World) (hV : Below ((w.alloc (.cells #[.slice ua un uc, .slice da dn dc, .slice xa xn xc, .slice ba bn bc] 62)).alloc (.cells #[.slice va vn vc, .slice ea en ec, .slice ya yn yc, .slice ca cn cc] 62)).heap.size _ V) => rints_any xa ya xn xc yn yc TX UX V (hT2.wrd.below hV) (hU2.wrd.below hV) h3
  have hT4 := hT2.byt
  have hU4 := hU2.byt
  generalize decide (TU = UU) = b1 at k1 HE
  generalize decide (TD = UD) = b2 at k2 HE
  generalize decide (TX = UX) = b3 at k3 HE
  have K1 := Lib.hid k1
  have K2 := Lib.hid k2
  have K3 := Lib.hid k3
  clear k1 k2 k3 hT hU hT2 hU2
  obtain ⟨W, hW⟩ : ∃ W, W = ((w.alloc (.cells #[.slice ua un uc, .slice da dn dc, .slice xa xn xc, .slice ba bn bc] 62)).alloc (.cells #[.slice va vn vc, .slice ea en ec, .slice ya yn yc, .slice ca cn cc] 62)) := ⟨_, rfl⟩
  rw [← hW] at hB2 hO K1 K2 K3 hT4 hU4
  have cells : ∀ V, Below W.heap.size W V → (V.cell? ⟨w.heap.size, 0, none⟩ = some (.slice ua un uc) ∧ V.cell? ⟨w.heap.size, 1, none⟩ = some (.slice da dn dc) ∧ V.cell? ⟨w.heap.size, 2, none⟩ = some (.slice xa xn xc) ∧ V.cell? ⟨w.heap.size, 3, none⟩ = some (.slice ba bn bc)) ∧
      (V.cell? ⟨w.heap.size + 1, 0, none⟩ = some (.slice va vn vc) ∧ V.cell? ⟨w.heap.size + 1, 1, none⟩ = some (.slice ea en ec) ∧ V.cell? ⟨w.heap.size + 1, 2, none⟩ = some (.slice ya yn yc) ∧ V.cell? ⟨w.heap.size + 1, 3, none⟩ = some (.slice ca cn cc)) := fun V hV => by
    have h := hO.below hV
    exact ⟨⟨h.cell (i := 0) rfl rfl, h.cell (i := 0) rfl rfl, h.cell (i := 0) rfl rfl, h.cell (i := 0) rfl rfl⟩, ⟨h.cell (i := 1) rfl rfl, h.cell (i := 1) rfl rfl, h.cell (i := 1) rfl rfl, h.cell (i := 1) rfl rfl⟩⟩
  have HC := Lib.hid cells
  clear cells hO
  have fin : ∀ (V : World) (b : Bool), Below W.heap.size W V → b = eqT ⟨TU, TD, TX, TB⟩ ⟨UU, UD, UX, UB⟩ → Ending.returned (.bool b) = .returned (.bool (eqT ⟨TU, TD, TX, TB⟩ ⟨UU, UD, UX, UB⟩)) ∧ Below w.heap.size w V := fun V b hV hb => ⟨by rw [hb], hB2.trans (hV.mono hB2.size)⟩
  have HFIN := Lib.hid fin
  clear fin hB2
  go_enter Try.func81, Try.ntmps81
  go_upto_region 1 with fail
  rw [← hW]
  clear hW
  obtain ⟨⟨c0, c1, c2, c3⟩, d0, d1, d2, d3⟩ := HC.out W (Below.refl _ _)
  go_wp2_with fail
  refine (K1.out W (Below.refl _ _)).mono ?_
  rintro e w1 ⟨rfl, hb1⟩
  clear c0 c1 c2 c3 d0 d1 d2 d3
  obtain ⟨⟨c0, c1, c2, c3⟩, d0, d1, d2, d3⟩ := HC.out w1 hb1
  cases b1 with
  | false =>
    go_wp2
    go_ret
    exact HFIN.out w1 false hb1 (by rw [HE.out]; rfl)
  | true =>
    go_wp2_with fail
    refine (K2.out w1 hb1).mono ?_
    rintro e w2 ⟨rfl, hb⟩
    have hb2 := hb1.trans (hb.mono hb1.size)
    clear c0 c1 c2 c3 d0 d1 d2 d3 hb
    obtain ⟨⟨c0, c1, c2, c3⟩, d0, d1, d2, d3⟩ := HC.out w2 hb2
    cases b2 with
    | false =>
      go_wp2
      go_ret
      exact HFIN.out w2 false hb2 (by rw [HE.out]; rfl)
    | true =>
      go_wp2_with fail
      refine (K3.out w2 hb2).mono ?_
      rintro e w3 ⟨rfl, hb⟩
      have hb3 := hb2.trans (hb.mono hb2.size)
      clear c0 c1 c2 c3 d0 d1 d2 d3 hb
      obtain ⟨⟨c0, c1, c2, c3⟩, d0, d1, d2, d3⟩ := HC.out w3 hb3
      cases b3 with
      | false =>
        go_wp2
        go_ret
        exact HFIN.out w3 false hb3 (by rw [HE.out]; rfl)
      | true =>
        have cv1 := conv_bys (hT4.below hb3) bc
        have cv2 := conv_bys (hU4.below hb3) cc
        have HST := Lib.hid (str_beq hT4.2 hU4.2)
        clear hT4 hU4
        go_wp2
        go_ret
        rw [HST.out]
        exact HFIN.out w3 (decide (TB = UB)) hb3 (by rw [HE.out]; rfl)

end Go.Proofs.Ytmpmjkbjnklgfaa
