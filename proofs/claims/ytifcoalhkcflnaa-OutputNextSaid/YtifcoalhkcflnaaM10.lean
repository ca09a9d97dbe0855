/- Parts of the proof, one behind the other: K5, K6, V2, G1, G2. No condition but what each theorem states. -/
import Derived.Deep.CutBlock
import Derived.Test.YtifcoalhkcflnaaM6
import Derived.Test.YtifcoalhkcflnaaM8
import Derived.Test.YtifcoalhkcflnaaM9

/- Links, steps, the deepest node, chains (layer 8): walked. -/

namespace Go.Proofs.Ytifcoalhkcflnaa
open Go.RowKit Go.Sort
set_option linter.unusedVariables false
set_option linter.unusedSimpArgs false
attribute [local go_sem] Oper.semAt_some
attribute [local simp] wide_fn wide_depth
attribute [local go_sem] wide_fn wide_depth

set_option maxHeartbeats 2000000 in
theorem is8_any (base g : Nat) (t : TV) (ws : List (List Int)) (L : List Int) (E : Int × Int → Option Int) (node : Int) (w : World) (h : LkAt w base g t ws L E) :
    Calls Try.prog 57 #[.pointer (some ⟨g, 0, none⟩), .int .i64 node] w fun e w' => e = .returned (.bool (decide (0 ≤ node ∧ node < (nodesL ws).length))) ∧ w = w' := by
  obtain ⟨mb, q, nm, h1, _⟩ := h.ex
  have c5 : w.cell? ⟨g, 5, none⟩ = some (.slice (some ⟨q, 0, none⟩) (nodesL ws).length (nodesL ws).length) := by simp [World.cell?, h1]
  generalize (nodesL ws).length = n at c5 ⊢
  clear h1 h
  by_cases h0 : 0 ≤ node
  · have hd : decide ((0 : Int) ≤ node) = true := by simpa using h0
    obtain ⟨B, hB⟩ : ∃ B, decide (node < (n : Int)) = B := ⟨_, rfl⟩
    have HF : Hid (decide (0 ≤ node ∧ node < (n : Int)) = B) := by rw [Hid, ← hB]; simp [h0]
    clear h0
    have HR : ∀ (r : Ending) (w' : World), r = .returned (.bool B) ∧ w = w' → r = .returned (.bool (decide (0 ≤ node ∧ node < (n : Int)))) ∧ w = w' := fun r w' h => by rw [HF.out]; exact h
    refine Calls.mono ?_ HR
    clear HR HF
    go_enter Try.func57, Try.ntmps57
    go_wp2
    go_ret
    exact ⟨rfl, rfl⟩
  · have hd : decide ((0 : Int) ≤ node) = false := by simpa using h0
    have HF : Hid (decide (0 ≤ node ∧ node < (n : Int)) = false) := by simp [Hid]; omega
    have HR : ∀ (r : Ending) (w' : World), r = .returned (.bool false) ∧ w = w' → r = .returned (.bool (decide (0 ≤ node ∧ node < (n : Int)))) ∧ w = w' := fun r w' h => by rw [HF.out]; exact h
    refine Calls.mono ?_ HR
    clear HR HF
    go_enter Try.func57, Try.ntmps57
    go_wp2
    go_ret
    exact ⟨rfl, rfl⟩

/-- What fail.Links tells. -/
theorem links8_no (t : TV) (T : TrieT) (w : World) (hT : Tri w t T) (hb : t.un ≤ 140737488351232) (hr : readP T = none) :
    Calls Try.prog 26 #[.agg t.cells] w fun e w' => e = .returned (.tuple #[.slice none 0 0, .int .i64 2]) ∧ Below w.heap.size w w' := by
  obtain ⟨ua, un, uc, da, dn, dc, xa, xn, xc, ba, bn, bc⟩ := t
  have hB := below_alloc w (.cells #[.slice ua un uc, .slice da dn dc, .slice xa xn xc, .slice ba bn bc] 49)
  have HC := Lib.hid (link8_no _ T _ (hT.below hB) hb hr)
  clear hT hr
  go_enter Try.func26, Try.ntmps26
  go_wp2_with fail
  refine HC.out.mono ?_
  rintro e w1 ⟨rfl, hb1⟩
  go_wp2
  go_ret2
  exact ⟨rfl, hB.trans (hb1.mono hB.size)⟩
theorem links8_yes (t : TV) (T : TrieT) (sp ws : List (List Int)) (w : World) (hT : Tri w t T) (hb : t.un ≤ 140737488351232) (hr : readP T = some (sp, ws)) :
    Calls Try.prog 26 #[.agg t.cells] w fun e w' => ∃ q, e = .returned (.tuple #[.slice (some ⟨q, 0, none⟩) (nodesL ws).length (nodesL ws).length, .int .i64 0]) ∧ IntRow q (linksP ws) w' ∧ w.heap.size ≤ q ∧ Below w.heap.size w w' := by
  obtain ⟨ua, un, uc, da, dn, dc, xa, xn, xc, ba, bn, bc⟩ := t
  have hB := below_alloc w (.cells #[.slice ua un uc, .slice da dn dc, .slice xa xn xc, .slice ba bn bc] 49)
  have HC := Lib.hid (link8_yes _ T sp ws _ (hT.below hB) hb hr)
  clear hT hr
  go_enter Try.func26, Try.ntmps26
  go_wp2_with fail
  refine HC.out.mono ?_
  rintro e w1 ⟨g, rfl, hLk, hb1⟩
  obtain ⟨mb, q, nm, h1, h2, h3, h4, h5, h6, h7, _⟩ := hLk.ex
  have c5 : w1.cell? ⟨g, 5, none⟩ = some (.slice (some ⟨q, 0, none⟩) (nodesL ws).length (nodesL ws).length) := by simp [World.cell?, h1]
  simp only [World.size_alloc] at h7
  clear h1 h2 h4
  go_wp2
  go_ret2
  exact ⟨q, rfl, h3, by omega, hB.trans (hb1.mono hB.size)⟩

/-- A box that holds a row of numbers of the call's own. -/
def HoldsI (b base : Nat) (l : List Int) (W : World) : Prop := ∃ v, Boxed W b 37 v ∧ OwnI W base v l
theorem holdsI_owns {α : Type} {B b base p : Nat} (hb : base ≤ b) (hp : p < base) (f : List α → List Int) : OwnsW B (fun r => r = p) (fun s W => HoldsI b base (f s) W) := by
  rintro s W W' row ⟨v, hv, ho⟩ hg hr
  have far : ∀ {k : Nat} {cs : Array Value} {t : TypeId}, W.heap[k]? = some (.cells cs t (0, 0)) → k ≠ p → row ≠ some k := fun {k cs t} hk hkp e => by
    rcases hr k e with ⟨_, o, h1, h2⟩ | h
    · rw [hk] at h1; cases h1; cases h2
    · exact hkp h
  refine ⟨v, (hg.block b hv.lt (fun e => far hv (by omega) e.symm)).trans hv, ho.kept hg ?_⟩
  rcases ho.2 with ⟨rfl, _⟩ | ⟨g, cap, cur, rfl, hg0, hgb, _⟩
  · exact .inl rfl
  · refine .inr fun e => ?_
    have e' : row = some g := by rw [← e]; rfl
    rcases hr g e' with ⟨_, o, h1, h2⟩ | h
    · rw [hgb] at h1; cases h1; cases h2
    · omega

set_option maxRecDepth 100000 in
set_option maxHeartbeats 4000000 in
/-- What a node's chain comes to, collected. -/
theorem append8_any (g p1 p2 q n n₀ : Nat) (L : List Int) (node : Nat) (cs : Array Value) (w : World)
    (hg : w.heap[g]? = some (.cells cs 95 (0, 0))) (hcs : cs[5]? = some (.slice (some ⟨q, 0, none⟩) n n)) (hq : IntRow q L w) (hL : L.length = n) (hn : n ≤ 1000000)
    (h1 : Boxed w p1 90 (.pointer (some ⟨g, 0, none⟩))) (h2 : Boxed w p2 3 (.int .i64 (node : Int)))
    (hp : p2 ≠ g ∧ p2 ≠ q ∧ p2 ≠ p1) (hn0 : n₀ ≤ p2) (hnode : node < n) (hlk : ∀ j, 1 ≤ j → j ≤ node → ∃ k : Nat, L[j]? = some (k : Int) ∧ k < j) :
    Calls Try.prog 87 #[.slice none 0 0, .func (.func 88) #[] #[.pointer (some ⟨p2, 0, none⟩), .pointer (some ⟨p1, 0, none⟩)]] w fun e w' => ∃ v, e = .returned v ∧ OwnI w' w.heap.size v ((chN L node node).map fun z : Nat => (z : Int)) ∧ Below n₀ w w' := by
  obtain ⟨i0, hi, hz0, hz1, hz2⟩ := info_parts i64_info7
  obtain ⟨W1, hW⟩ : ∃ W, W = w.alloc (.cells #[.slice none 0 0] 37) := ⟨_, rfl⟩
  have hB : Below w.heap.size w W1 := by rw [hW]; exact below_alloc _ _
  have bS : Boxed W1 w.heap.size 37 (.slice none 0 0) := by rw [hW]; exact Boxed.new _ _ _
  have hs1 : W1.heap.size = w.heap.size + 1 := by rw [hW]; simp
  refine calls_of_wp_M Try.func87 rfl ?_
  simp only [Try.ntmps87, List.size_toArray, List.length_cons, List.length_nil, Nat.reduceAdd, Nat.reduceSub, Array.replicate_succ, Array.replicate_zero, List.push_toArray, List.append_toArray, List.nil_append, List.cons_append]
  go_upto_region 1 with fail
  rw [← hW]
  clear hW
  have hg1 : W1.heap[g]? = _ := (hB.block g (Array.getElem?_eq_some_iff.1 hg).1).trans hg
  have hq1 : IntRow q L W1 := (hB.block q (Array.getElem?_eq_some_iff.1 (show w.heap[q]? = _ from hq)).1).trans hq
  have h11 : Boxed W1 p1 90 _ := (hB.block _ h1.lt).trans h1
  have h21 : Boxed W1 p2 3 _ := (hB.block _ h2.lt).trans h2
  have hgl := (Array.getElem?_eq_some_iff.1 hg).1
  have hql := (Array.getElem?_eq_some_iff.1 (show w.heap[q]? = _ from hq)).1
  have hp1l := h1.lt
  have hp2l := h2.lt
  have hps := chain_stops g p1 p2 q n L node cs (fun k => k < w.heap.size) 8 W1 hg1 hcs hq1 hL hn h11 h21 ⟨hgl, hql, hp1l, hp2l⟩ (fun k hk => by omega) hp hnode hlk
  have hcl : (chN L node node).length ≤ node + 1 := (chN_len L node node).1
  clear hg hq h1 h2 hg1 hq1 h11 h21 hlk
  go_wp2
  apply rangeW rfl (enters_of Try.func88 (by kernel_rfl) rfl) hps (fun r hr => by rw [hr]; omega) keepOn_t (keepOn_b fun k hk => by omega) (fun _ => rfl)
    (fun pre W => HoldsI w.heap.size w.heap.size (pre.map fun z : ChP => (z.1 : Int)) W ∧ Below n₀ w W ∧ W1.heap.size ≤ W.heap.size)
    (fun _ _ _ => False)
  case hI => exact OwnsW.and (holdsI_owns (Nat.le_refl _) hp2l _) (OwnsW.and (OwnsW.below (by omega) (by omega) (fun r hr => by rw [hr]; exact hn0)) (OwnsW.size _ _ _))
  case hIx => exact fun _ _ _ _ _ hs _ _ => hs
  case h0 => exact ⟨⟨_, bS, World.ownsRow_nil _ _ _ _⟩, hB.mono (by omega), Nat.le_refl _⟩
  case hassign =>
    intro l x W K hK
    unfold chEnc
    gi_wp2
    exact hK
  case hbody =>
    rintro l pre ⟨z, hz⟩ W ⟨⟨v, hv, hown⟩, hBe, hs⟩ hlen
    dsimp only
    obtain ⟨m, hm⟩ : ∃ m, (pre.map fun z : ChP => (z.1 : Int)).length = m := ⟨_, rfl⟩
    have hml : m ≤ 1000002 := by rw [← hm, List.length_map]; omega
    unfold OwnI at hown
    rw [hm] at hown
    have HMM := Lib.hid hm
    clear hm
    obtain ⟨av, cv, rfl, hcv, _⟩ := own_sl1 (enc := Value.int .i64) hown
    have c2 := hv.cell
    have hbl := hv.lt
    gi_wp2_with (gi_at_builtin; refine wpListIn_append_own _ rfl _ _ 37 rfl w.heap.size 3 i0 (.int .i64 0) 1 8 Try.underlying37 hi hz0 hz1 hz2 rfl (by decide) _ _ _ rfl (hown.alloc _) ⟨W.heap.size, 0, none⟩ 1 1 [.int .i64 (z : Int)] rfl rfl (cells_new _ _ rfl) (by simp [Value.oneCell']) (by unfold maxLen; omega) (by omega) (by simp; omega) ?_; intro v' w5 hown' hgrow hnil; obtain ⟨g', cap', rfl⟩ := ownsRow_succ hown'; obtain ⟨b1, b2, b3, b4, b5⟩ := hv.appended (of_decide_eq_true (by kernel_rfl)) hown (by omega) (Nat.le_refl _) hown' hgrow; have d1 := b1.cell; have d2 := b1.frozen; have d3 := b1.lt)
    refine ⟨b4.from _, fun k hk => b5.block k hk, ⟨_, b2, ?_⟩, hBe.trans (b5.mono (by omega)), Nat.le_trans hs (by have := b5.size; simpa using this)⟩
    unfold OwnI
    rw [List.map_append, List.length_append, HMM.out, List.map_append]
    exact b3
  case hdone =>
    rintro D zs W hD hS ⟨⟨v, hv, hown⟩, hBe, hs⟩ hD2
    have HZ : Hid ((zs.map fun z : ChP => (z.1 : Int)) = (chN L node node).map fun z : Nat => (z : Int)) := by rw [Hid, ← hS, List.map_map]; rfl
    obtain ⟨m, hm⟩ : ∃ m, (zs.map fun z : ChP => (z.1 : Int)).length = m := ⟨_, rfl⟩
    unfold OwnI at hown
    rw [hm] at hown
    have HMM := Lib.hid hm
    clear hm
    obtain ⟨av, cv, rfl, hcv, _⟩ := own_sl1 (enc := Value.int .i64) hown
    have c2 := hv.cell
    have hrow := ownsRow_putObj hown (.deferred none) hD2 rfl
    clear hown
    go_wp2
    refine endM rfl hD2 (results_tmp rfl _ _ _) ⟨_, rfl, ?_, put_below hBe (by omega) (by omega) _⟩
    unfold OwnI
    rw [← HZ.out, HMM.out]
    exact hrow
  case hstop => exact fun _ _ _ _ _ _ h _ => h.elim

set_option maxHeartbeats 1000000 in
theorem collect8_any (g p1 p2 q n n₀ : Nat) (L : List Int) (node : Nat) (cs : Array Value) (w : World)
    (hg : w.heap[g]? = some (.cells cs 95 (0, 0))) (hcs : cs[5]? = some (.slice (some ⟨q, 0, none⟩) n n)) (hq : IntRow q L w) (hL : L.length = n) (hn : n ≤ 1000000)
    (h1 : Boxed w p1 90 (.pointer (some ⟨g, 0, none⟩))) (h2 : Boxed w p2 3 (.int .i64 (node : Int)))
    (hp : p2 ≠ g ∧ p2 ≠ q ∧ p2 ≠ p1) (hn0 : n₀ ≤ p2) (hnode : node < n) (hlk : ∀ j, 1 ≤ j → j ≤ node → ∃ k : Nat, L[j]? = some (k : Int) ∧ k < j) :
    Calls Try.prog 58 #[.func (.func 88) #[] #[.pointer (some ⟨p2, 0, none⟩), .pointer (some ⟨p1, 0, none⟩)]] w fun e w' => ∃ v, e = .returned v ∧ OwnI w' w.heap.size v ((chN L node node).map fun z : Nat => (z : Int)) ∧ Below n₀ w w' := by
  have HC := Lib.hid (append8_any g p1 p2 q n n₀ L node cs w hg hcs hq hL hn h1 h2 hp hn0 hnode hlk)
  clear hg hcs hq h1 h2 hlk
  go_enter Try.func58, Try.ntmps58
  go_wp2_with fail
  refine HC.out.mono ?_
  rintro e w1 ⟨v, rfl, hv, hb⟩
  go_wp2
  go_ret
  exact ⟨v, rfl, hv, hb⟩

/-- A node's chain by numbers; no such node: nothing. -/
def chainI (ws : List (List Int)) (node : Int) : List Int := if 0 ≤ node ∧ node < (nodesL ws).length then (chN (linksP ws) node.toNat node.toNat).map fun z : Nat => (z : Int) else []
def chainT8 (T : TrieT) (node : Int) : List Int := match readP T with | some r => chainI r.2 node | none => []

theorem links_lk (ws : List (List Int)) {n node : Nat} (hn : (nodesL ws).length = n) (h : node < n) : ∀ j, 1 ≤ j → j ≤ node → ∃ k : Nat, (linksP ws)[j]? = some (k : Int) ∧ k < j := fun j h1 h2 => by
  obtain ⟨y, hy⟩ : ∃ y, (nodesL ws)[j]? = some y := ⟨(nodesL ws)[j]'(by omega), by simp⟩
  obtain ⟨k, e1, e2, _⟩ := (linksOK ws (j + 1)).at_ (by omega) hy (by omega)
  exact ⟨k, e1, e2⟩

set_option maxRecDepth 100000 in
set_option maxHeartbeats 4000000 in
theorem fchain8_any (t : TV) (T : TrieT) (node : Int) (w : World) (hT : Tri w t T) (hb : t.un ≤ 140737488351232) :
    Calls Try.prog 28 #[.agg t.cells, .int .i64 node] w fun e w' => ∃ v, e = .returned v ∧ OwnI w' w.heap.size v (chainT8 T node) ∧ Below w.heap.size w w' := by
  obtain ⟨ua, un, uc, da, dn, dc, xa, xn, xc, ba, bn, bc⟩ := t
  have hB := below_alloc w (.cells #[.slice ua un uc, .slice da dn dc, .slice xa xn xc, .slice ba bn bc] 49)
  cases hr : readP T with
  | none =>
    have HC := Lib.hid (link8_no _ T _ (hT.below hB) hb hr)
    have HF : Hid (chainT8 T node = []) := by unfold Hid chainT8; rw [hr]
    clear hT hr
    go_enter Try.func28, Try.ntmps28
    go_wp2_with fail
    refine HC.out.mono ?_
    rintro e w1 ⟨rfl, hb1⟩
    go_wp2
    go_ret
    rw [HF.out]
    exact ⟨_, rfl, World.ownsRow_nil _ _ _ _, hB.trans (hb1.mono hB.size)⟩
  | some r =>
    obtain ⟨sp, ws⟩ := r
    have HC := Lib.hid (link8_yes _ T sp ws _ (hT.below hB) hb hr)
    have HF : Hid (chainT8 T node = chainI ws node) := by unfold Hid chainT8; rw [hr]
    have HN : Hid ((nodesL ws).length ≤ 400) := by
      obtain ⟨_, _, h⟩ := readP_iff.1 hr
      rw [Hid, ← h]
      exact (readP_len hr).1
    clear hT hr
    go_enter Try.func28, Try.ntmps28
    go_wp2_with fail
    refine HC.out.mono ?_
    rintro e w1 ⟨g, rfl, hLk, hb1⟩
    have hB1 := hB.trans (hb1.mono hB.size)
    have HI := Lib.hid (is8_any _ g _ ws _ _ node w1 hLk)
    obtain ⟨B, hBd⟩ : ∃ B, decide (0 ≤ node ∧ node < ((nodesL ws).length : Int)) = B := ⟨_, rfl⟩
    rw [hBd] at HI
    have HBD := Lib.hid hBd
    clear hBd
    go_wp2_with fail
    refine HI.out.mono ?_
    rintro e w2 ⟨rfl, rfl⟩
    cases B with
    | false =>
      have HZ : Hid (chainI ws node = []) := by
        unfold Hid chainI
        rw [if_neg (of_decide_eq_false HBD.out)]
      go_wp2
      go_ret
      rw [HF.out, HZ.out]
      exact ⟨_, rfl, World.ownsRow_nil _ _ _ _, hB1⟩
    | true =>
      obtain ⟨h0, h1⟩ := of_decide_eq_true HBD.out
      obtain ⟨z, rfl⟩ : ∃ z : Nat, node = z := ⟨node.toNat, by omega⟩
      have HZ : Hid (chainI ws (z : Int) = (chN (linksP ws) z z).map fun z : Nat => (z : Int)) := by
        unfold Hid chainI
        rw [if_pos ⟨h0, h1⟩, Int.toNat_natCast]
      clear h0
      go_wp2_with (go_at_call 59; refine (chain8_any g z w1).mono ?_; rintro e w' ⟨rfl, rfl⟩)
      obtain ⟨W5, hW5⟩ : ∃ W, W = (w1.alloc (.cells #[.pointer (some ⟨g, 0, none⟩)] 90)).alloc (.cells #[.int .i64 (z : Int)] 3) := ⟨_, rfl⟩
      have hB35 : Below w1.heap.size w1 W5 := by rw [hW5]; exact (below_alloc _ _).alloc (by simp) _
      have h1' : Boxed W5 w1.heap.size 90 (.pointer (some ⟨g, 0, none⟩)) := by rw [hW5]; exact (Boxed.new w1 90 _).alloc _
      have h2' : Boxed W5 (w1.heap.size + 1) 3 (.int .i64 (z : Int)) := by
        rw [hW5]
        have := Boxed.new (w1.alloc (.cells #[.pointer (some ⟨g, 0, none⟩)] 90)) 3 (.int .i64 (z : Int))
        rwa [World.size_alloc] at this
      rw [← hW5]
      clear hW5
      obtain ⟨mb, q, nm, e1, e2, e3, e4, e5, e6, e7, _⟩ := (hLk.below hB35).ex
      obtain ⟨_, q', _, f1, _, f3, _⟩ := hLk.ex
      have hgl : g < w1.heap.size := (Array.getElem?_eq_some_iff.1 f1).1
      have hql : q < w1.heap.size := by
        have h3 : W5.heap[g]? = _ := (hB35.block g hgl).trans f1
        rw [e1] at h3
        have h4 : q = q' := by
          injection h3 with h3
          injection h3 with h3
          simp at h3
          exact h3.2
        rw [h4]
        exact (Array.getElem?_eq_some_iff.1 (show w1.heap[q']? = _ from f3)).1
      have HCO := Lib.hid (collect8_any g w1.heap.size (w1.heap.size + 1) q (nodesL ws).length w1.heap.size (linksP ws) z _ W5 e1 rfl e3 e4 (by have := HN.out; omega) h1' h2' ⟨by omega, by omega, by omega⟩ (by omega) (by omega) (links_lk ws rfl (by omega)))
      have hsz5 := hB35.size
      clear e1 e2 e3 e4 e5 e6 e7 f1 f3 h1' h2' hLk
      go_wp2_with fail
      refine HCO.out.mono ?_
      rintro e w6 ⟨v, rfl, hv, hb6⟩
      have hs1 := hB1.size
      have hv2 : OwnI w6 w.heap.size v ((chN (linksP ws) z z).map fun z : Nat => (z : Int)) := Go.Joins.ownsRow_le hv (by omega)
      go_wp2
      go_ret
      rw [HF.out, HZ.out]
      exact ⟨v, rfl, hv2, (hB1.trans (hB35.mono hs1)).trans (hb6.mono (by omega))⟩

end Go.Proofs.Ytifcoalhkcflnaa

/- The deepest node, a step, links that are right (layer 8): walked. -/

namespace Go.Proofs.Ytifcoalhkcflnaa
open Go.RowKit Go.Sort
set_option linter.unusedVariables false
set_option linter.unusedSimpArgs false

def deepT (T : TrieT) (b : List Int) : Int × Bool := match readP T with | some r => (placeS (nodesL r.2) (lsf (nodesL r.2) b), true) | none => (0, false)
def stepT (T : TrieT) (node c : Int) : Int × Bool := match readP T with
  | some r => if 0 ≤ node ∧ node < (nodesL r.2).length then (placeS (nodesL r.2) (lsf (nodesL r.2) (((nodesL r.2)[node.toNat]?).getD [] ++ [c])), true) else (0, false)
  | none => (0, false)
def rightL8 (T : TrieT) (l : List Int) : Bool := match readP T with | some r => decide (linksP r.2 = l) | none => false

theorem lsf_idx (ws : List (List Int)) (b : List Int) : ∃ z : Nat, z < (nodesL ws).length ∧ (nodesL ws)[z]? = some (lsf (nodesL ws) b) ∧ placeS (nodesL ws) (lsf (nodesL ws) b) = z := by
  obtain ⟨z, hz⟩ := List.getElem?_of_mem (lsf_mem (nodes_pre ws).1 b)
  exact ⟨z, (List.getElem?_eq_some_iff.1 hz).1, hz, placeS_at (nodesL_srt ws).nodup hz⟩
theorem LkAt.step {W : World} {base g : Nat} {t : TV} {ws : List (List Int)} (h : LkAt W base g t ws (linksP ws) (edgesW ws)) {z : Nat} {x : List Int} {c : Int} (hx : (nodesL ws)[z]? = some x) (hn : (nodesL ws).length ≤ 1000000) (hc : 0 ≤ c ∧ c ≤ 255) :
    Calls Try.prog 60 #[.pointer (some ⟨g, 0, none⟩), .int .i64 (z : Int), .int .u8 c] W fun e w' => e = .returned (.int .i64 (placeS (nodesL ws) (lsf (nodesL ws) (x ++ [c])))) ∧ Below W.heap.size W w' := by
  obtain ⟨mb, q, nm, h1, h2, h3, h4, _⟩ := h.ex
  exact step8_any g mb q _ nm (nodesL ws).length z ws _ _ x c W h1 rfl rfl h2 h3 h4 rfl hn (linksOK ws _) (Nat.le_refl _) ((List.getElem?_eq_some_iff.1 hx).1) hx hc
theorem read_n {T : TrieT} {sp ws : List (List Int)} (hr : readP T = some (sp, ws)) : (nodesL ws).length ≤ 400 := by
  obtain ⟨_, _, h⟩ := readP_iff.1 hr
  rw [← h]
  exact (readP_len hr).1

set_option maxRecDepth 100000 in
set_option maxHeartbeats 4000000 in
theorem deep8_any (t : TV) (T : TrieT) (b : Option Addr) (lb cb : Nat) (x : List Int) (w : World) (hT : Tri w t T) (hb : t.un ≤ 140737488351232) (hX : Bys w b lb x) (hlb : lb ≤ 4611686018427387904) :
    Calls Try.prog 29 #[.agg t.cells, .slice b lb cb] w fun e w' => e = .returned (.tuple #[.int .i64 (deepT T x).1, .bool (deepT T x).2]) ∧ Below w.heap.size w w' := by
  obtain ⟨ua, un, uc, da, dn, dc, xa, xn, xc, ba, bn, bc⟩ := t
  have hB := below_alloc w (.cells #[.slice ua un uc, .slice da dn dc, .slice xa xn xc, .slice ba bn bc] 49)
  cases hr : readP T with
  | none =>
    have HC := Lib.hid (link8_no _ T _ (hT.below hB) hb hr)
    have HF : Hid (deepT T x = (0, false)) := by unfold Hid deepT; rw [hr]
    clear hT hr
    go_enter Try.func29, Try.ntmps29
    go_wp2_with fail
    refine HC.out.mono ?_
    rintro e w1 ⟨rfl, hb1⟩
    go_wp2
    go_ret2
    rw [HF.out]
    exact ⟨rfl, hB.trans (hb1.mono hB.size)⟩
  | some r =>
    obtain ⟨sp, ws⟩ := r
    have HC := Lib.hid (link8_yes _ T sp ws _ (hT.below hB) hb hr)
    have HF : Hid (deepT T x = (placeS (nodesL ws) (lsf (nodesL ws) x), true)) := by unfold Hid deepT; rw [hr]
    have HN : Hid ((nodesL ws).length ≤ 1000000) := by have := read_n hr; rw [Hid]; omega
    have HL := Lib.hid hX.len
    have HX := Lib.hid hX
    clear hT hr hX
    go_enter Try.func29, Try.ntmps29
    go_wp2_with fail
    refine HC.out.mono ?_
    rintro e w1 ⟨g, rfl, hLk, hb1⟩
    have hB1 := hB.trans (hb1.mono hB.size)
    have HLK := Lib.hid hLk
    clear hLk hb1
    go_wp2
    go_loopw [8, 20] (fun s8 s20 wr => ∃ i : Nat, i ≤ lb ∧ s20 = .int .i64 i ∧ s8 = .int .i64 (placeS (nodesL ws) (lsf (nodesL ws) (x.take i))) ∧ Below w1.heap.size w1 wr) (fun _ s _ => lb - (intOf s).toNat)
    case atStart => exact ⟨0, Nat.zero_le _, rfl, by rw [List.take_zero]; exact congrArg _ (placeS_at (nodesL_srt ws).nodup (nodesL_head ws)).symm, Below.refl _ _⟩
    case round =>
      obtain ⟨i, hi, rfl, rfl, hBe⟩ := hrel
      by_cases hil : i < lb
      · have hd : decide ((i : Int) < lb) = true := by simp; omega
        obtain ⟨bb, off, c, hbb, hbl, hcell, hc⟩ := sl1_at HX.out.1 hil
        subst hbb
        have hcr := HX.out.2 c (List.mem_of_getElem? hc)
        have hc1 : wr.cell? ⟨bb, off + i, none⟩ = some (.int .u8 c) := ((hB1.trans (hBe.mono hB1.size)).cell (p := ⟨bb, off + i, none⟩) hbl).trans hcell
        obtain ⟨z, hz1, hz2, hz3⟩ := lsf_idx ws (x.take i)
        have HS : Hid (placeS (nodesL ws) (lsf (nodesL ws) (x.take (i + 1))) = placeS (nodesL ws) (lsf (nodesL ws) (lsf (nodesL ws) (x.take i) ++ [c]))) := by
          rw [Hid, take_step hc, lsf_step (nodes_pre ws)]
        rw [hz3]
        have HST := Lib.hid ((HLK.out.below hBe).step hz2 HN.out hcr)
        have i1 : (0 : Int) ≤ (i : Int) := by omega
        have i2 : (i : Int) < (lb : Int) := by omega
        clear hz1 hz2 hz3 hc
        go_wp2_with fail
        refine HST.out.mono ?_
        rintro e w2 ⟨rfl, hb2⟩
        go_wp2
        go_roundw
        case rel => exact ⟨i + 1, by omega, by go_num, by rw [HS.out], hBe.trans (hb2.mono hBe.size)⟩
        case measure => simp [intOf]; omega
      · obtain rfl : i = lb := by omega
        have hd : decide ((i : Int) < i) = false := by simp
        have HZ : Hid (x.take i = x) := List.take_of_length_le (by rw [HL.out]; exact Nat.le_refl _)
        rw [HZ.out]
        go_wp2
        go_ret2
        rw [HF.out]
        exact ⟨rfl, hB1.trans (hBe.mono hB1.size)⟩

set_option maxRecDepth 100000 in
set_option maxHeartbeats 4000000 in
theorem fstep8_any (t : TV) (T : TrieT) (node c : Int) (w : World) (hT : Tri w t T) (hb : t.un ≤ 140737488351232) (hc : 0 ≤ c ∧ c ≤ 255) :
    Calls Try.prog 30 #[.agg t.cells, .int .i64 node, .int .u8 c] w fun e w' => e = .returned (.tuple #[.int .i64 (stepT T node c).1, .bool (stepT T node c).2]) ∧ Below w.heap.size w w' := by
  obtain ⟨ua, un, uc, da, dn, dc, xa, xn, xc, ba, bn, bc⟩ := t
  have hB := below_alloc w (.cells #[.slice ua un uc, .slice da dn dc, .slice xa xn xc, .slice ba bn bc] 49)
  cases hr : readP T with
  | none =>
    have HC := Lib.hid (link8_no _ T _ (hT.below hB) hb hr)
    have HF : Hid (stepT T node c = (0, false)) := by unfold Hid stepT; rw [hr]
    clear hT hr
    go_enter Try.func30, Try.ntmps30
    go_wp2_with fail
    refine HC.out.mono ?_
    rintro e w1 ⟨rfl, hb1⟩
    go_wp2
    go_ret2
    rw [HF.out]
    exact ⟨rfl, hB.trans (hb1.mono hB.size)⟩
  | some r =>
    obtain ⟨sp, ws⟩ := r
    have HC := Lib.hid (link8_yes _ T sp ws _ (hT.below hB) hb hr)
    have HF : Hid (stepT T node c = if 0 ≤ node ∧ node < (nodesL ws).length then (placeS (nodesL ws) (lsf (nodesL ws) (((nodesL ws)[node.toNat]?).getD [] ++ [c])), true) else (0, false)) := by unfold Hid stepT; rw [hr]
    have HN : Hid ((nodesL ws).length ≤ 1000000) := by have := read_n hr; rw [Hid]; omega
    clear hT hr
    go_enter Try.func30, Try.ntmps30
    go_wp2_with fail
    refine HC.out.mono ?_
    rintro e w1 ⟨g, rfl, hLk, hb1⟩
    have hB1 := hB.trans (hb1.mono hB.size)
    have HI := Lib.hid (is8_any _ g _ ws _ _ node w1 hLk)
    obtain ⟨B, hBd⟩ : ∃ B, decide (0 ≤ node ∧ node < ((nodesL ws).length : Int)) = B := ⟨_, rfl⟩
    rw [hBd] at HI
    have HBD := Lib.hid hBd
    clear hBd
    go_wp2_with fail
    refine HI.out.mono ?_
    rintro e w2 ⟨rfl, rfl⟩
    cases B with
    | false =>
      have HZ := HF.out
      rw [if_neg (of_decide_eq_false HBD.out)] at HZ
      have HZ := Lib.hid HZ
      go_wp2
      go_ret2
      rw [HZ.out]
      exact ⟨rfl, hB1⟩
    | true =>
      have HZ := HF.out
      rw [if_pos (of_decide_eq_true HBD.out)] at HZ
      obtain ⟨h0, h1⟩ := of_decide_eq_true HBD.out
      obtain ⟨z, rfl⟩ : ∃ z : Nat, node = z := ⟨node.toNat, by omega⟩
      obtain ⟨x, hx⟩ : ∃ x, (nodesL ws)[z]? = some x := ⟨(nodesL ws)[z]'(by omega), by simp⟩
      rw [Int.toNat_natCast, hx, Option.getD_some] at HZ
      have HZ := Lib.hid HZ
      have HST := Lib.hid (hLk.step hx HN.out hc)
      clear h0 h1 hx hLk
      go_wp2_with fail
      refine HST.out.mono ?_
      rintro e w3 ⟨rfl, hb3⟩
      go_wp2
      go_ret2
      rw [HZ.out]
      exact ⟨rfl, hB1.trans (hb3.mono hB1.size)⟩

theorem IntRow.sl1 {g : Nat} {l : List Int} {W : World} (h : IntRow g l W) : Sl1 (Value.int .i64) W (some ⟨g, 0, none⟩) l.length l :=
  ⟨rfl, .inr ⟨g, 0, rfl, (Array.getElem?_eq_some_iff.1 (show W.heap[g]? = _ from h)).1, fun i x hx => by
    rw [cell_of_row W g (0 + i) _ _ _ h]
    simp [hx]⟩⟩

set_option maxRecDepth 100000 in
set_option maxHeartbeats 4000000 in
theorem fright8_any (t : TV) (T : TrieT) (a : Option Addr) (la ca : Nat) (l : List Int) (w : World) (hT : Tri w t T) (hb : t.un ≤ 140737488351232) (hA : Sl1 (Value.int .i64) w a la l) :
    Calls Try.prog 33 #[.agg t.cells, .slice a la ca] w fun e w' => e = .returned (.bool (rightL8 T l)) ∧ Below w.heap.size w w' := by
  obtain ⟨ua, un, uc, da, dn, dc, xa, xn, xc, ba, bn, bc⟩ := t
  have hB := below_alloc w (.cells #[.slice ua un uc, .slice da dn dc, .slice xa xn xc, .slice ba bn bc] 49)
  cases hr : readP T with
  | none =>
    have HC := Lib.hid (links8_no _ T _ (hT.below hB) hb hr)
    have HF : Hid (rightL8 T l = false) := by unfold Hid rightL8; rw [hr]
    clear hT hr
    go_enter Try.func33, Try.ntmps33
    go_wp2_with fail
    refine HC.out.mono ?_
    rintro e w1 ⟨rfl, hb1⟩
    go_wp2
    go_ret
    rw [HF.out]
    exact ⟨rfl, hB.trans (hb1.mono hB.size)⟩
  | some r =>
    obtain ⟨sp, ws⟩ := r
    have HC := Lib.hid (links8_yes _ T sp ws _ (hT.below hB) hb hr)
    have HF : Hid (rightL8 T l = decide (linksP ws = l)) := by unfold Hid rightL8; rw [hr]
    have HN : Hid ((nodesL ws).length ≤ 1000000) := by have := read_n hr; rw [Hid]; omega
    clear hT hr
    go_enter Try.func33, Try.ntmps33
    go_wp2_with fail
    refine HC.out.mono ?_
    rintro e w1 ⟨q, rfl, hq, hql, hb1⟩
    have hB1 := hB.trans (hb1.mono hB.size)
    have hS := hq.sl1
    rw [linksP_len] at hS
    have HE := Lib.hid (eqI_any (some ⟨q, 0, none⟩) a (nodesL ws).length (nodesL ws).length la ca (linksP ws) l w1 hS (hA.below hB1) (by have := HN.out; omega))
    clear hS hq
    go_wp2_with fail
    refine HE.out.mono ?_
    rintro e w2 ⟨rfl, hb2⟩
    go_wp2
    go_ret
    rw [HF.out]
    exact ⟨rfl, hB1.trans (hb2.mono hB1.size)⟩

end Go.Proofs.Ytifcoalhkcflnaa

/- Lists of numbers, tries that are the same, as the document has them (layer 7): walked. -/

namespace Go.Proofs.Ytifcoalhkcflnaa
open Go.RowKit Go.Sort
set_option linter.unusedVariables false
set_option linter.unusedSimpArgs false

set_option maxHeartbeats 2000000 in
theorem rints_any (a b : Option Addr) (la ca lb cb : Nat) (l m : List Int) (w : World) (hA : Sl1 (Value.int .i64) w a la l) (hB : Sl1 (Value.int .i64) w b lb m) (hla : la ≤ 4611686018427387904) :
    Calls Try.prog 38 #[.slice a la ca, .slice b lb cb] w fun e w' => e = .returned (.bool (decide (l = m))) ∧ Below w.heap.size w w' := by
  have HA := Lib.hid hA.1
  have HB := Lib.hid hB.1
  by_cases hl : la = lb
  · subst hl
    go_enter Try.func38, Try.ntmps38
    go_wp2
    go_loopw [5] (fun i wr => ∃ k : Nat, k ≤ la ∧ i = .int .i64 k ∧ Hid (l.take k = m.take k) ∧ Below w.heap.size w wr) (fun i _ => la - (intOf i).toNat)
    case atStart => exact ⟨0, Nat.zero_le _, rfl, by simp [Hid], Below.refl _ _⟩
    case round =>
      obtain ⟨k, hk, rfl, HK, hBe⟩ := hrel
      by_cases hlt : k < la
      · obtain ⟨b1, o1, x, rfl, hb1, x0, hx⟩ := sl1_at (hA.below hBe) hlt
        obtain ⟨b2, o2, y, rfl, hb2, y0, hy⟩ := sl1_at (hB.below hBe) hlt
        have HX := Lib.hid hx
        have HY := Lib.hid hy
        clear hx hy
        have hd : decide ((k : Int) < la) = true := by simp; omega
        by_cases h : x = y
        · have HS : Hid (l.take (k + 1) = m.take (k + 1)) := by rw [take_step HX.out, take_step HY.out, HK.out, h]; rfl
          have hdd : ((x : Int) != y) = false := by simp [h]
          clear h
          go_wp2
          go_quiet (fail)
          go_wp2
          go_roundw
          case rel => exact ⟨k + 1, by omega, by go_num, HS, hBe.trans ⟨rfl, rfl, rfl, Nat.le_refl _, fun _ _ => rfl⟩⟩
          case measure => simp [intOf]; omega
        · have HS : Hid (decide (l = m) = false) := by
            have : l ≠ m := fun e => by
              have h1 := HX.out
              rw [e, HY.out] at h1
              exact h (Option.some.inj h1).symm
            simp [Hid, this]
          have hdd : ((x : Int) != y) = true := by simp [h]
          clear h
          go_wp2
          go_quiet (fail)
          go_wp2
          go_ret
          exact ⟨by rw [HS.out]; rfl, hBe.trans ⟨rfl, rfl, rfl, Nat.le_refl _, fun _ _ => rfl⟩⟩
      · obtain rfl : k = la := by omega
        have HS : Hid (decide (l = m) = true) := by
          have h := HK.out
          rw [List.take_of_length_le (by rw [HA.out]; exact Nat.le_refl _), List.take_of_length_le (by rw [HB.out]; exact Nat.le_refl _)] at h
          simp [Hid, h]
        go_wp2
        go_ret
        exact ⟨by rw [HS.out]; rfl, hBe⟩
  · have HS : Hid (decide (l = m) = false) := by
      have : l ≠ m := fun e => hl (by rw [← HA.out, ← HB.out, e])
      simp [Hid, this]
    have hne : ((la : Int) != (lb : Int)) = true := by simp; omega
    go_enter Try.func38, Try.ntmps38
    go_wp2
    go_ret
    exact ⟨by rw [HS.out]; rfl, Below.refl _ _⟩

set_option maxHeartbeats 4000000 in
theorem rsame7_any (t v : TV) (T U : TrieT) (w : World) (hT : Tri w t T) (hU : Tri w v U) (hb : t.un ≤ 4611686018427387904 ∧ t.dn ≤ 4611686018427387904 ∧ t.xn ≤ 4611686018427387904 ∧ t.bn ≤ 4611686018427387904) :
    Calls Try.prog 32 #[.agg t.cells, .agg v.cells] w fun e w' => e = .returned (.bool (eqT T U)) ∧ Below w.heap.size w w' := by
  obtain ⟨ua, un, uc, da, dn, dc, xa, xn, xc, ba, bn, bc⟩ := t
  obtain ⟨va, vn, vc, ea, en, ec, ya, yn, yc, ca, cn, cc⟩ := v
  dsimp only at hb
  obtain ⟨h1, h2, h3, h4⟩ := hb
  have hB2 : Below w.heap.size w ((w.alloc (.cells #[.slice ua un uc, .slice da dn dc, .slice xa xn xc, .slice ba bn bc] 49)).alloc (.cells #[.slice va vn vc, .slice ea en ec, .slice ya yn yc, .slice ca cn cc] 49)) := ((Below.refl _ _).alloc (Nat.le_refl _) _).alloc (by simp) _
  have hO : Bx w.heap.size [.cells #[.slice ua un uc, .slice da dn dc, .slice xa xn xc, .slice ba bn bc] 49, .cells #[.slice va vn vc, .slice ea en ec, .slice ya yn yc, .slice ca cn cc] 49] ((w.alloc (.cells #[.slice ua un uc, .slice da dn dc, .slice xa xn xc, .slice ba bn bc] 49)).alloc (.cells #[.slice va vn vc, .slice ea en ec, .slice ya yn yc, .slice ca cn cc] 49)) :=
    ((Bx.nil _ w).snoc _ rfl).snoc _ (by simp)
  have hT2 := hT.below hB2
  have hU2 := hU.below hB2
  obtain ⟨TU, TD, TX, TB⟩ := T
  obtain ⟨UU, UD, UX, UB⟩ := U
  have HE : Hid (eqT ⟨TU, TD, TX, TB⟩ ⟨UU, UD, UX, UB⟩ = (decide (TU = UU) && decide (TD = UD) && decide (TX = UX) && decide (TB = UB))) := rfl
  have k1 := fun (V : World) (hV : Below ((w.alloc (.cells #[.slice ua un uc, .slice da dn dc, .slice xa xn xc, .slice ba bn bc] 49)).alloc (.cells #[.slice va vn vc, .slice ea en ec, .slice ya yn yc, .slice ca cn cc] 49)).heap.size _ V) => rints_any ua va un uc vn vc TU UU V (hT2.up.below hV) (hU2.up.below hV) h1
  have k2 := fun (V : World) (hV : Below ((w.alloc (.cells #[.slice ua un uc, .slice da dn dc, .slice xa xn xc, .slice ba bn bc] 49)).alloc (.cells #[.slice va vn vc, .slice ea en ec, .slice ya yn yc, .slice ca cn cc] 49)).heap.size _ V) => rints_any da ea dn dc en ec TD UD V (hT2.dep.below hV) (hU2.dep.below hV) h2
  have k3 := fun (V : World) (hV : Below ((w.alloc (.cells #[.slice ua un uc, .slice da dn dc, .slice xa xn xc, .slice ba bn bc] 49)).alloc (.cells #[.slice va vn vc, .slice ea en ec, .slice ya yn yc, .slice ca cn cc] 49)).heap.size _ V) => rints_any xa ya xn xc yn yc TX UX V (hT2.wrd.below hV) (hU2.wrd.below hV) h3
  have hT4 := hT2.byt
  have hU4 := hU2.byt
  generalize decide (TU = UU) = b1 at k1 HE
  generalize decide (TD = UD) = b2 at k2 HE
  generalize decide (TX = UX) = b3 at k3 HE
  have K1 := Lib.hid k1
  have K2 := Lib.hid k2
  have K3 := Lib.hid k3
  clear k1 k2 k3 hT hU hT2 hU2
  obtain ⟨W, hW⟩ : ∃ W, W = ((w.alloc (.cells #[.slice ua un uc, .slice da dn dc, .slice xa xn xc, .slice ba bn bc] 49)).alloc (.cells #[.slice va vn vc, .slice ea en ec, .slice ya yn yc, .slice ca cn cc] 49)) := ⟨_, rfl⟩
  rw [← hW] at hB2 hO K1 K2 K3 hT4 hU4
  have cells : ∀ V, Below W.heap.size W V → (V.cell? ⟨w.heap.size, 0, none⟩ = some (.slice ua un uc) ∧ V.cell? ⟨w.heap.size, 1, none⟩ = some (.slice da dn dc) ∧ V.cell? ⟨w.heap.size, 2, none⟩ = some (.slice xa xn xc) ∧ V.cell? ⟨w.heap.size, 3, none⟩ = some (.slice ba bn bc)) ∧
      (V.cell? ⟨w.heap.size + 1, 0, none⟩ = some (.slice va vn vc) ∧ V.cell? ⟨w.heap.size + 1, 1, none⟩ = some (.slice ea en ec) ∧ V.cell? ⟨w.heap.size + 1, 2, none⟩ = some (.slice ya yn yc) ∧ V.cell? ⟨w.heap.size + 1, 3, none⟩ = some (.slice ca cn cc)) := fun V hV => by
    have h := hO.below hV
    exact ⟨⟨h.cell (i := 0) rfl rfl, h.cell (i := 0) rfl rfl, h.cell (i := 0) rfl rfl, h.cell (i := 0) rfl rfl⟩, ⟨h.cell (i := 1) rfl rfl, h.cell (i := 1) rfl rfl, h.cell (i := 1) rfl rfl, h.cell (i := 1) rfl rfl⟩⟩
  have HC := Lib.hid cells
  clear cells hO
  have fin : ∀ (V : World) (b : Bool), Below W.heap.size W V → b = eqT ⟨TU, TD, TX, TB⟩ ⟨UU, UD, UX, UB⟩ → Ending.returned (.bool b) = .returned (.bool (eqT ⟨TU, TD, TX, TB⟩ ⟨UU, UD, UX, UB⟩)) ∧ Below w.heap.size w V := fun V b hV hb => ⟨by rw [hb], hB2.trans (hV.mono hB2.size)⟩
  have HFIN := Lib.hid fin
  clear fin hB2
  go_enter Try.func32, Try.ntmps32
  go_upto_region 1 with fail
  rw [← hW]
  clear hW
  obtain ⟨⟨c0, c1, c2, c3⟩, d0, d1, d2, d3⟩ := HC.out W (Below.refl _ _)
  go_wp2_with fail
  refine (K1.out W (Below.refl _ _)).mono ?_
  rintro e w1 ⟨rfl, hb1⟩
  clear c0 c1 c2 c3 d0 d1 d2 d3
  obtain ⟨⟨c0, c1, c2, c3⟩, d0, d1, d2, d3⟩ := HC.out w1 hb1
  cases b1 with
  | false =>
    go_wp2
    go_ret
    exact HFIN.out w1 false hb1 (by rw [HE.out]; rfl)
  | true =>
    go_wp2_with fail
    refine (K2.out w1 hb1).mono ?_
    rintro e w2 ⟨rfl, hb⟩
    have hb2 := hb1.trans (hb.mono hb1.size)
    clear c0 c1 c2 c3 d0 d1 d2 d3 hb
    obtain ⟨⟨c0, c1, c2, c3⟩, d0, d1, d2, d3⟩ := HC.out w2 hb2
    cases b2 with
    | false =>
      go_wp2
      go_ret
      exact HFIN.out w2 false hb2 (by rw [HE.out]; rfl)
    | true =>
      go_wp2_with fail
      refine (K3.out w2 hb2).mono ?_
      rintro e w3 ⟨rfl, hb⟩
      have hb3 := hb2.trans (hb.mono hb2.size)
      clear c0 c1 c2 c3 d0 d1 d2 d3 hb
      obtain ⟨⟨c0, c1, c2, c3⟩, d0, d1, d2, d3⟩ := HC.out w3 hb3
      cases b3 with
      | false =>
        go_wp2
        go_ret
        exact HFIN.out w3 false hb3 (by rw [HE.out]; rfl)
      | true =>
        have cv1 := conv_bys (hT4.below hb3) bc
        have cv2 := conv_bys (hU4.below hb3) cc
        have HST := Lib.hid (str_beq hT4.2 hU4.2)
        clear hT4 hU4
        go_wp2
        go_ret
        rw [HST.out]
        exact HFIN.out w3 (decide (TB = UB)) hb3 (by rw [HE.out]; rfl)

end Go.Proofs.Ytifcoalhkcflnaa

/- The document's tries (layer 7): less, place; walked. -/


namespace Go.Proofs.Ytifcoalhkcflnaa
open Go.RowKit Go.Sort
set_option linter.unusedVariables false
set_option linter.unusedSimpArgs false

set_option maxHeartbeats 2000000 in
theorem rless7_any (a b : Option Addr) (la ca lb cb : Nat) (l m : List Int) (w : World) (hA : Bys w a la l) (hB : Bys w b lb m) (hla : la ≤ 4611686018427387904) :
    Calls Try.prog 103 #[.slice a la ca, .slice b lb cb] w fun e w' => e = .returned (.bool (ltS l m)) ∧ Below w.heap.size w w' := by
  have HA := Lib.hid hA.len
  have HB := Lib.hid hB.len
  by_cases hl : la = lb
  · subst hl
    have HL : Hid (ltS l m = lexB l m) := ltS_eq_len (by rw [HA.out, HB.out])
    go_enter Try.func103, Try.ntmps103
    go_wp2
    go_loopw [5] (fun i wr => ∃ k : Nat, k ≤ la ∧ i = .int .i64 k ∧ Hid (l.take k = m.take k) ∧ Below w.heap.size w wr) (fun i _ => la - (intOf i).toNat)
    case atStart => exact ⟨0, Nat.zero_le _, rfl, by simp [Hid], Below.refl _ _⟩
    case round =>
      obtain ⟨k, hk, rfl, HK, hBe⟩ := hrel
      by_cases hlt : k < la
      · obtain ⟨b1, o1, x, rfl, hb1, x0, hx⟩ := sl1_at (hA.1.below hBe) hlt
        obtain ⟨b2, o2, y, rfl, hb2, y0, hy⟩ := sl1_at (hB.1.below hBe) hlt
        have HX := Lib.hid hx
        have HY := Lib.hid hy
        clear hx hy
        have hd : decide ((k : Int) < la) = true := by simp; omega
        by_cases h : x = y
        · have HS : Hid (l.take (k + 1) = m.take (k + 1)) := by rw [take_step HX.out, take_step HY.out, HK.out, h]; rfl
          have hdd : ((x : Int) != y) = false := by simp [h]
          clear h
          go_wp2
          go_quiet (fail)
          go_wp2
          go_roundw
          case rel => exact ⟨k + 1, by omega, by go_num, HS, hBe.trans ⟨rfl, rfl, rfl, Nat.le_refl _, fun _ _ => rfl⟩⟩
          case measure => simp [intOf]; omega
        · have HS : Hid (ltS l m = decide (x < y)) := by rw [Hid, HL.out]; exact lexB_at HK.out HX.out HY.out h
          have hdd : ((x : Int) != y) = true := by simp [h]
          clear h
          go_wp2
          go_quiet (fail)
          go_wp2
          go_quiet (fail)
          go_wp2
          go_ret
          exact ⟨by rw [HS.out]; rfl, hBe.trans ⟨rfl, rfl, rfl, Nat.le_refl _, fun _ _ => rfl⟩⟩
      · obtain rfl : k = la := by omega
        have HS : Hid (ltS l m = false) := by
          have h := HK.out
          rw [List.take_of_length_le (by rw [HA.out]; exact Nat.le_refl _), List.take_of_length_le (by rw [HB.out]; exact Nat.le_refl _)] at h
          rw [Hid, h, ltS_irrefl]
        go_wp2
        go_ret
        exact ⟨by rw [HS.out]; rfl, hBe⟩
  · have HS : Hid (ltS l m = decide (la < lb)) := by
      rw [Hid, ltS_ne_len (by rw [HA.out, HB.out]; exact hl), HA.out, HB.out]
    have hne : ((la : Int) != (lb : Int)) = true := by simp; omega
    go_enter Try.func103, Try.ntmps103
    go_wp2
    go_ret
    exact ⟨by rw [HS.out]; rfl, Below.refl _ _⟩

set_option maxHeartbeats 2000000 in
theorem rplace7_any (a b : Option Addr) (la ca lb cb : Nat) (l : List (List Int)) (x : List Int) (w : World) (hA : Wds w a la l) (hB : Bys w b lb x) (hla : la ≤ 1000000) :
    Calls Try.prog 63 #[.slice a la ca, .slice b lb cb] w fun e w' => e = .returned (.int .i64 (placeS l x)) ∧ Below w.heap.size w w' := by
  have HL := Lib.hid hA.len
  have HA := Lib.hid hA
  have HB := Lib.hid hB
  clear hA hB
  go_enter Try.func63, Try.ntmps63
  go_wp2
  go_loopw [5] (fun i wr => ∃ k : Nat, k ≤ la ∧ i = .int .i64 k ∧ Hid (x ∉ l.take k) ∧ Below w.heap.size w wr) (fun i _ => la - (intOf i).toNat)
  case atStart => exact ⟨0, Nat.zero_le _, rfl, by simp [Hid], Below.refl _ _⟩
  case round =>
    obtain ⟨k, hk, rfl, HK, hBe⟩ := hrel
    by_cases hlt : k < la
    · have hd : decide ((k : Int) < la) = true := by simp; omega
      obtain ⟨bb, off, aw, lw, cw, y, hbb, hbl, hcell, hy, hY, hlc⟩ := (HA.out.below hBe).at_ hlt
      subst hbb
      have f2 : ∀ d os, (grow (redrawn wr d) os).cell? ⟨bb, off + k, none⟩ = some (.slice aw lw cw) := fun d os => ((below_regrown wr d os).cell (p := ⟨bb, off + k, none⟩) hbl).trans hcell
      have f4 := fun d os => conv_bys (hY.below (below_regrown wr d os)) cw
      have f5 := fun d os => conv_bys ((HB.out.below hBe).below (below_regrown wr d os)) cb
      have i1 : (0 : Int) ≤ (k : Int) := by omega
      have i2 : (k : Int) < (la : Int) := by omega
      have HY := Lib.hid hy
      have HYB := Lib.hid hY.2
      have HE := Lib.hid (str_beq HYB.out HB.out.2)
      have HBE := Lib.hid hBe
      clear hy hY hcell hlc hBe
      by_cases e : y = x
      · have hq : ((strOfNums y).toList == (strOfNums x).toList) = true := by rw [HE.out]; simpa using e
        have HS : Hid (placeS l x = k) := by rw [← e] at HK ⊢; exact placeS_first HY.out HK.out
        clear e
        go_wp2
        refine wp_region_quiet_below mixed (by kernel_rfl) ?_
        repeat (go_big_quiet_step (fail))
        refine wpQuiet_nil ?_
        rintro _ ⟨⟨dq, osq⟩, rfl⟩
        go_wp2
        go_ret
        exact ⟨by rw [HS.out]; rfl, HBE.out.trans ((below_regrown wr dq osq).mono HBE.out.size)⟩
      · have hq : ((strOfNums y).toList == (strOfNums x).toList) = false := by rw [HE.out]; simpa using e
        have HS : Hid (x ∉ l.take (k + 1)) := by
          rw [Hid, take_step HY.out, List.mem_append, List.mem_singleton]
          exact fun h => h.elim HK.out (fun e2 => e e2.symm)
        clear e
        go_wp2
        refine wp_region_quiet_below mixed (by kernel_rfl) ?_
        repeat (go_big_quiet_step (fail))
        refine wpQuiet_nil ?_
        rintro _ ⟨⟨dq, osq⟩, rfl⟩
        have hBq := HBE.out.trans ((below_regrown wr dq osq).mono HBE.out.size)
        clear f2 f4 f5
        go_wp2
        go_roundw
        case rel => exact ⟨k + 1, by omega, by go_num, HS, hBq⟩
        case measure => simp [intOf]; omega
    · obtain rfl : k = la := by omega
      have HS : Hid (placeS l x = -1) := by
        refine placeS_no ?_
        have h := HK.out
        rwa [List.take_of_length_le (by rw [HL.out]; exact Nat.le_refl _)] at h
      go_wp2
      go_ret
      exact ⟨by rw [HS.out]; rfl, hBe⟩

end Go.Proofs.Ytifcoalhkcflnaa

/- The document's tries (layer 7): one more text among others, in order; the beginnings of words: walked. -/



namespace Go.Proofs.Ytifcoalhkcflnaa
open Go.RowKit Go.Sort
set_option linter.unusedVariables false
set_option linter.unusedSimpArgs false

theorem putS_le (l : List (List Int)) (b : List Int) : (putS l b).length ≤ l.length + 1 ∧ l.length ≤ (putS l b).length := by
  induction l with
  | nil => simp [putS]
  | cons x l ih =>
    unfold putS
    split
    · simp; omega
    · split <;> simp
theorem Sl1.take {α : Type} {enc : α → Value} {w : World} {a : Option Addr} {n : Nat} {xs : List α} (h : Sl1 enc w a n xs) {m : Nat} (hm : m ≤ n) : Sl1 enc w a m (xs.take m) := by
  refine ⟨by rw [List.length_take, h.1]; omega, ?_⟩
  by_cases h0 : m = 0
  · exact .inl h0
  · right
    obtain ⟨b, off, rfl, hlt, hcell⟩ := h.2.resolve_left (by omega)
    refine ⟨b, off, rfl, hlt, fun i u hu => hcell i u ?_⟩
    rw [List.getElem?_take] at hu
    split at hu
    · exact hu
    · cases hu
theorem Sl1.rest {α : Type} {enc : α → Value} {w : World} {b : Option Addr} {lb cb n : Nat} {xs : List α} (h : Sl1 enc w b lb xs) (hn : n ≤ lb) (hcb : lb ≤ cb) : Sl1 enc w (if cb = n then b else Option.map (fun x => x.add n) b) (lb - n) (xs.drop n) := by
  split
  · have e : xs.drop n = [] := List.drop_eq_nil_of_le (by rw [h.1]; omega)
    rw [e, show lb - n = 0 by omega]
    exact ⟨rfl, .inl rfl⟩
  · have hc := h.cut (lo := n) (m := lb - n) (by omega)
    rwa [List.take_of_length_le (by rw [List.length_drop, h.1]; exact Nat.le_refl _)] at hc

theorem rows_put {P : Sv → List Int → Prop} {vs : List Sv} {l : List (List Int)} (hl : vs.length = l.length) (h : ∀ (i : Nat) (v : Sv) (x : List Int), vs[i]? = some v → l[i]? = some x → P v x) {v0 : Sv} {x0 : List Int} (h0 : P v0 x0) (k : Nat) :
    ∀ (i : Nat) (v : Sv) (x : List Int), (vs.take k ++ v0 :: vs.drop k)[i]? = some v → (l.take k ++ x0 :: l.drop k)[i]? = some x → P v x := by
  intro i v x hv hx
  have e1 : (vs.take k).length = (l.take k).length := by simp [hl]
  by_cases hi : i < (l.take k).length
  · rw [List.getElem?_append_left (by rw [e1]; exact hi)] at hv
    rw [List.getElem?_append_left hi] at hx
    have hik : i < k := by rw [List.length_take] at hi; omega
    rw [List.getElem?_take, if_pos hik] at hv hx
    exact h i v x hv hx
  · rw [List.getElem?_append_right (by rw [e1]; omega), e1] at hv
    rw [List.getElem?_append_right (by omega)] at hx
    obtain ⟨j, hj⟩ : ∃ j, i - (l.take k).length = j := ⟨_, rfl⟩
    rw [hj] at hv hx
    cases j with
    | zero => simp at hv hx; subst hv hx; exact h0
    | succ j =>
      rw [List.getElem?_cons_succ, List.getElem?_drop] at hv hx
      exact h _ v x hv hx

set_option maxRecDepth 100000 in
set_option maxHeartbeats 4000000 in
theorem rput7_any (a b : Option Addr) (la ca lb cb : Nat) (l : List (List Int)) (x : List Int) (w : World) (hA : Wds w a la l) (hB : Bys w b lb x) (hla : la ≤ 10000000) (hlb : lb ≤ 10000000) (hca : la ≤ ca) (hcb : lb ≤ cb) (hM : ∀ y ∈ l, y.length ≤ 10000000) :
    Calls Try.prog 85 #[.slice a la ca, .slice b lb cb] w fun e w' => ∃ a' c', e = .returned (.slice a' (putS l x).length c') ∧ (putS l x).length ≤ c' ∧ Wds w' a' (putS l x).length (putS l x) ∧ Below w.heap.size w w' := by
  obtain ⟨i0, hi, hz0, hz1, hz2⟩ := info_parts sl_info
  have HL := Lib.hid hA.len
  have HA := Lib.hid hA
  have HB := Lib.hid hB
  clear hA hB
  go_enter Try.func85, Try.ntmps85
  go_upto_block 0 with fail
  go_cut [5] (fun s5 wx => ∃ k : Nat, k ≤ la ∧ s5 = .int .i64 k ∧ Hid (putS l x = if l[k]? = some x then l else l.take k ++ x :: l.drop k) ∧ Below w.heap.size w wx)
  case first =>
    go_wp2_with fail
    go_loopw [5] (fun s5 wr => ∃ k : Nat, k ≤ la ∧ s5 = .int .i64 k ∧ Hid (∀ (i : Nat) (y : List Int), i < k → l[i]? = some y → ltS y x = true) ∧ Below w.heap.size w wr) (fun i _ => la - (intOf i).toNat)
    case atStart => exact ⟨0, Nat.zero_le _, rfl, (fun i y h => absurd h (Nat.not_lt_zero _)), Below.refl _ _⟩
    case round =>
      obtain ⟨k, hk, rfl, HK, hBe⟩ := hrel
      by_cases hlt : k < la
      · have hd : decide ((k : Int) < la) = true := by simp; omega
        obtain ⟨bb, off, aw, lw, cw, y, hbb, hbl, hcell, hy, hY, hlc⟩ := (HA.out.below hBe).at_ hlt
        subst hbb
        have HY := Lib.hid hy
        have i1 : (0 : Int) ≤ (k : Int) := by omega
        have i2 : (k : Int) < (la : Int) := by omega
        have HYB := Lib.hid hY
        have hBy := HB.out.below hBe
        clear hy hY
        have hlw : lw ≤ 4611686018427387904 := by
          have := hM y (List.mem_of_getElem? HY.out)
          rw [HYB.out.len] at this
          omega
        have hless := Lib.hid (rless7_any aw b lw cw lb cb y x wr HYB.out hBy hlw)
        clear HYB hBy hlw
        go_wp2_with fail
        refine hless.out.mono ?_
        rintro e w2 ⟨rfl, hb2⟩
        have hBe2 := hBe.trans (hb2.mono hBe.size)
        cases e2 : ltS y x with
        | true =>
          have HK2 : Hid (∀ (i : Nat) (y : List Int), i < k + 1 → l[i]? = some y → ltS y x = true) := fun i z hi hz => by
            by_cases h : i < k
            · exact HK.out i z h hz
            · obtain rfl : i = k := by omega
              rw [HY.out] at hz
              rw [← Option.some.inj hz]; exact e2
          go_wp2
          go_roundw
          case rel => exact ⟨k + 1, by omega, by go_num, HK2, hBe2⟩
          case measure => simp [intOf]; omega
        | false =>
          have HP : Hid (putS l x = if l[k]? = some x then l else l.take k ++ x :: l.drop k) := putS_at (by rw [HL.out]; omega) HK.out (fun z hz => by
            rw [HY.out] at hz
            rw [← Option.some.inj hz]; exact e2)
          go_wp2_with fail
          go_meet
          exact ⟨k, hk, by go_num, HP, hBe2⟩
      · obtain rfl : k = la := by omega
        have hd : decide ((k : Int) < k) = false := by simp
        have HP : Hid (putS l x = if l[k]? = some x then l else l.take k ++ x :: l.drop k) := putS_at (by rw [HL.out]; omega) HK.out (fun z hz => by
            rw [List.getElem?_eq_none (by rw [HL.out]; exact Nat.le_refl _)] at hz
            cases hz)
        go_wp2_with fail
        go_meet
        exact ⟨k, hk, by go_num, HP, hBe⟩
  case rest =>
    obtain ⟨k, hk, rfl, HP, hBe⟩ := hcut
    go_upto_region 4 with fail
    go_cut [34] (fun s34 wx => s34 = .bool (decide (l[k]? = some x)) ∧ Below w.heap.size w wx)
    case first =>
      by_cases hkl : k < la
      · have hd : decide ((k : Int) < la) = true := by simp; omega
        obtain ⟨bb, off, aw, lw, cw, y, hbb, hbl, hcell, hy, hY, hlc⟩ := (HA.out.below hBe).at_ hkl
        subst hbb
        have f2 : ∀ d os, (grow (redrawn wc d) os).cell? ⟨bb, off + k, none⟩ = some (.slice aw lw cw) := fun d os => ((below_regrown wc d os).cell (p := ⟨bb, off + k, none⟩) hbl).trans hcell
        have f4 := fun d os => conv_bys (hY.below (below_regrown wc d os)) cw
        have f5 := fun d os => conv_bys ((HB.out.below hBe).below (below_regrown wc d os)) cb
        have i1 : (0 : Int) ≤ (k : Int) := by omega
        have i2 : (k : Int) < (la : Int) := by omega
        have HY := Lib.hid hy
        have HYB := Lib.hid hY.2
        have hq := str_beq HYB.out HB.out.2
        have HBE := Lib.hid hBe
        have HS : Hid (decide (l[k]? = some x) = decide (y = x)) := by rw [Hid, HY.out]; simp
        obtain ⟨B, hB⟩ : ∃ B, decide (y = x) = B := ⟨_, rfl⟩
        rw [hB] at hq
        have HSB : Hid (decide (l[k]? = some x) = B) := by rw [Hid, HS.out, hB]
        clear hy hY hcell hlc hBe HS hB
        go_wp2
        refine wp_region_quiet_below mixed (by kernel_rfl) ?_
        repeat (go_big_quiet_step (fail))
        refine wpQuiet_nil ?_
        rintro _ ⟨⟨dq, osq⟩, rfl⟩
        have hBq := HBE.out.trans ((below_regrown wc dq osq).mono HBE.out.size)
        clear f2 f4 f5
        go_wp2_with fail
        go_meet
        exact ⟨by rw [HSB.out], hBq⟩
      · have hd : decide ((k : Int) < la) = false := by simp; omega
        have HS : Hid (decide (l[k]? = some x) = false) := by rw [Hid, List.getElem?_eq_none (by rw [HL.out]; omega)]; simp
        have HBE := Lib.hid hBe
        clear hBe
        go_wp2
        refine wp_region_quiet_below mixed (by kernel_rfl) ?_
        repeat (go_big_quiet_step (fail))
        refine wpQuiet_nil ?_
        rintro _ ⟨⟨dq, osq⟩, rfl⟩
        have hBq := HBE.out.trans ((below_regrown wc dq osq).mono HBE.out.size)
        go_wp2_with fail
        go_meet
        exact ⟨by rw [HS.out], hBq⟩
    case rest =>
      clear hBe
      obtain ⟨rfl, hBe⟩ := hcut
      by_cases hc : l[k]? = some x
      · have HS : Hid (putS l x = l) := by rw [Hid, HP.out, if_pos hc]
        rw [decide_eq_true hc]
        clear hc
        go_wp2
        go_ret
        rw [HS.out, HL.out]
        exact ⟨a, ca, rfl, hca, HA.out.below hBe, hBe⟩
      have HS : Hid (putS l x = l.take k ++ x :: l.drop k) := by rw [Hid, HP.out, if_neg hc]
      rw [decide_eq_false hc]
      clear hc
      obtain ⟨vs, hs0, hvl, hrow⟩ := HA.out
      have HV := Lib.hid hvl
      have HRW := Lib.hid hrow
      have HS0 := Lib.hid hs0
      clear hvl hrow hs0
      have hsT := (HS0.out.below hBe).take hk
      go_upto_region 8 with (at_builtin; refine wpList_append_sl1 rfl _ _ 22 rfl (enc := svV) (fun _ => rfl) w.heap.size 47 i0 (.slice none 0 0) 24 Try.underlying22 hi hz0 hz1 hz2 rfl _ _ _ rfl (World.ownsRow_nil wc w.heap.size 47 1) a k ca (vs.take k) rfl hsT (by unfold maxLen; omega) (by omega) hBe.size ?_; intro v1 w3 hown1 hgrow1 hat1)
      simp only [Nat.zero_add, List.nil_append] at hown1
      have hB3 : Below w.heap.size w w3 := hBe.grown hgrow1 hBe.size (fun j hj => by cases hj)
      have hs3 := hB3.size
      go_upto_region 9 with (at_builtin; refine wpList_append_own _ rfl _ _ 22 rfl w.heap.size 47 i0 (.slice none 0 0) 1 24 Try.underlying22 hi hz0 hz1 hz2 rfl (by decide) _ _ _ rfl (hown1.alloc _) ⟨w3.heap.size, 0, none⟩ 1 1 [svV (b, lb, cb)] rfl rfl (cells_new _ _ (by simp)) (by simp [Value.oneCell']) (by unfold maxLen; omega) (by omega) (by simp; omega) ?_; intro v2 w4 hown2 hgrow2 hnil2)
      have hB4 : Below w.heap.size w w4 := below_append (base := 0) hB3 hown1 hgrow2
      have hsR := (HS0.out.below hB4).rest hk hca
      have hs4 := hB4.size
      clear hgrow1 hgrow2 hsT
      go_wp2_with (at_builtin; refine wpList_append_sl1 rfl _ _ 22 rfl (enc := svV) (fun _ => rfl) w.heap.size 47 i0 (.slice none 0 0) 24 Try.underlying22 hi hz0 hz1 hz2 rfl _ _ _ rfl hown2 (if ca = k then a else Option.map (fun x => x.add k) a) (la - k) (ca - k) (vs.drop k) rfl hsR (by unfold maxLen; omega) (by omega) (by omega) ?_; intro v3 w5 hown3 hgrow3 hat3)
      all_goals
        have hB5 : Below w.heap.size w w5 := hB4.grown hgrow3 (by omega) (fun j hj => (hown2.lt j hj).1)
        have hown4 : w5.ownsRow w.heap.size 47 1 v3 (k + 1 + (la - k)) ((vs.take k ++ (b, lb, cb) :: vs.drop k).map svV) := by
          simpa using hown3
        obtain ⟨a', c', rfl, hc', hsl⟩ := own_sl1 (enc := svV) hown4
        have HW : Hid (Wds w5 a' (k + 1 + (la - k)) (putS l x) ∧ (putS l x).length = k + 1 + (la - k)) := by
          have hlen : (putS l x).length = k + 1 + (la - k) := by rw [HS.out, List.length_append, List.length_cons, List.length_take, List.length_drop, HL.out]; omega
          refine ⟨⟨_, hsl, ?_, ?_⟩, hlen⟩
          · rw [hlen]; exact hsl.1
          · rw [HS.out]
            refine rows_put (P := fun v x => Bys w5 v.1 v.2.1 x ∧ v.2.1 ≤ v.2.2) HV.out (fun i v x h1 h2 => ?_) ⟨HB.out.below hB5, hcb⟩ k
            obtain ⟨h3, h4⟩ := HRW.out i v x h1 h2
            exact ⟨h3.below hB5, h4⟩
        go_ret
        rw [HW.out.2]
        exact ⟨a', c', rfl, hc', HW.out.1, hB5⟩

theorem nodes_bd {wss : List (List Int)} {M : Nat} (h : ∀ x ∈ wss, x.length ≤ M) : ∀ y ∈ nodesL wss, y.length ≤ M := fun y hy => by
  rcases (mem_nodesL wss).1 hy with rfl | ⟨w, hw, k, _, _, rfl⟩
  · simp
  · have := h w hw; rw [List.length_take]; omega
theorem putW_le (l : List (List Int)) (w : List Int) : ∀ k, (putW l w k).length ≤ l.length + k
  | 0 => by simp [putW]
  | k + 1 => by
    rw [putW_succ]
    have h1 := putW_le l w k
    have h2 := (putS_le (putW l w k) (w.take (k + 1))).1
    omega
theorem nodes_le {M : Nat} (wss : List (List Int)) (h : ∀ x ∈ wss, x.length ≤ M) : (nodesL wss).length ≤ wss.length * M + 1 := by
  revert h
  refine snoc_ind (P := fun wss => (∀ x ∈ wss, x.length ≤ M) → (nodesL wss).length ≤ wss.length * M + 1) (by simp [nodesL]) (fun l w ih h => ?_) wss
  rw [nodesL_snoc]
  have h1 := putW_le (nodesL l) w w.length
  have h2 := ih fun x hx => h x (by simp [hx])
  have h3 := h w (by simp)
  rw [List.length_append, List.length_singleton, Nat.succ_mul]
  omega
theorem putW_bd {l : List (List Int)} {w : List Int} {M k : Nat} (h1 : ∀ y ∈ l, y.length ≤ M) (h2 : w.length ≤ M) : ∀ y ∈ putW l w k, y.length ≤ M := fun y hy => by
  rcases mem_putW.1 hy with h | ⟨j, _, _, rfl⟩
  · exact h1 y h
  · rw [List.length_take]; omega

set_option maxRecDepth 100000 in
set_option maxHeartbeats 4000000 in
theorem rnodes7_any (a : Option Addr) (la ca : Nat) (wss : List (List Int)) (w : World) (hA : Wds w a la wss) (hla : la ≤ 1000) (hM : ∀ x ∈ wss, x.length ≤ 1000) :
    Calls Try.prog 54 #[.slice a la ca] w fun e w' => ∃ a' c', e = .returned (.slice a' (nodesL wss).length c') ∧ (nodesL wss).length ≤ c' ∧ Wds w' a' (nodesL wss).length (nodesL wss) ∧ Below w.heap.size w w' := by
  have HL := Lib.hid hA.len
  have HA := Lib.hid hA
  clear hA
  obtain ⟨W2, hW2⟩ : ∃ W2, W2 = (w.alloc (.cells #[] 5)).alloc (.cells #[.slice (some ⟨w.heap.size, 0, none⟩) 0 0] 47) := ⟨_, rfl⟩
  have hB2 : Below w.heap.size w W2 := by rw [hW2]; exact (below_alloc _ _).alloc (by simp) _
  have hN0 : Wds W2 (some ⟨w.heap.size + 1, 0, none⟩) 1 (nodesL []) := by
    refine ⟨[(some ⟨w.heap.size, 0, none⟩, 0, 0)], ⟨rfl, .inr ⟨_, _, rfl, by rw [hW2]; simp, fun i x hx => ?_⟩⟩, by simp [nodesL], fun i v x hv hx => ?_⟩
    · have := cells_new (w := w.alloc (.cells #[] 5)) #[.slice (some ⟨w.heap.size, 0, none⟩) 0 0] 47 (n := w.heap.size + 1) (by simp) i (svV x) (by
        cases i with
        | zero => simp at hx; subst hx; rfl
        | succ i => simp at hx)
      rw [hW2]
      rw [add_plain] at this
      exact this
    · cases i with
      | zero =>
        simp [nodesL] at hv hx
        subst hv hx
        exact ⟨Bys.nil _ _, Nat.le_refl _⟩
      | succ i => simp at hv
  go_enter Try.func54, Try.ntmps54
  go_upto_region 2 with fail
  rw [← hW2]
  clear hW2
  go_wp2
  go_loopw [3, 4] (fun s3 s4 wr => ∃ (i : Nat) (aN : Option Addr) (cN : Nat) (N : List (List Int)), i ≤ la ∧ s4 = .int .i64 i ∧ s3 = .slice aN N.length cN ∧ Hid (nodesL (wss.take i) = N) ∧ N.length ≤ cN ∧ Hid (N.length ≤ i * 1000 + 1) ∧ Wds wr aN N.length N ∧ Below w.heap.size w wr) (fun _ s4 _ => la - (intOf s4).toNat)
  case atStart => exact ⟨0, _, 1, nodesL [], Nat.zero_le _, rfl, rfl, rfl, Nat.le_refl _, (by simp [Hid, nodesL]), hN0, hB2⟩
  case round =>
    clear hN0 hB2
    obtain ⟨i, aN, cN, N, hi, rfl, rfl, HN, hcN, HZ, hW, hBe⟩ := hrel
    by_cases hil : i < la
    · have hd : decide ((i : Int) < la) = true := by simp; omega
      obtain ⟨bb, off, aw, lw, cw, x, hbb, hbl, hcell, hx, hX, hlc⟩ := HA.out.at_ hil
      subst hbb
      have HX := Lib.hid hx
      have hlw : lw ≤ 1000 := by have := mem_bd hM hx; rw [hX.len] at this; exact this
      have HXB := Lib.hid hX
      have HND : Hid (∀ y ∈ N, y.length ≤ 1000) := by
        rw [Hid, ← HN.out]
        exact nodes_bd fun z hz => hM z (List.mem_of_mem_take hz)
      have HNS : Hid (nodesL (wss.take (i + 1)) = putW N x lw) := by
        rw [Hid, take_step HX.out, nodesL_snoc, HN.out, HXB.out.len]
      have i1 : (0 : Int) ≤ (i : Int) := by omega
      have i2 : (i : Int) < (la : Int) := by omega
      have hc1 : wr.cell? ⟨bb, off + i, none⟩ = some (.slice aw lw cw) := (hBe.cell (p := ⟨bb, off + i, none⟩) hbl).trans hcell
      clear hx hX
      go_wp2
      clear hc1
      go_loopw [3, 5] (fun s3 s5 wi => ∃ (k : Nat) (aM : Option Addr) (cM : Nat) (M : List (List Int)), k ≤ lw ∧ s5 = .int .i64 (k + 1) ∧ s3 = .slice aM M.length cM ∧ Hid (putW N x k = M) ∧ M.length ≤ cM ∧ Wds wi aM M.length M ∧ Below w.heap.size w wi) (fun _ s5 _ => lw + 1 - (intOf s5).toNat)
      case atStart => exact ⟨0, aN, cN, N, Nat.zero_le _, rfl, rfl, rfl, hcN, hW, hBe⟩
      case round =>
        clear hW hBe
        obtain ⟨k, aM, cM, M, hk, rfl, rfl, HM, hcM, hWM, hBe⟩ := hrel
        have hc1 : wr.cell? ⟨bb, off + i, none⟩ = some (.slice aw lw cw) := (hBe.cell (p := ⟨bb, off + i, none⟩) hbl).trans hcell
        by_cases hkl : k < lw
        · have hd2 : decide ((k : Int) + 1 ≤ (lw : Int)) = true := by simp; omega
          have hMl : M.length ≤ 10000000 := by
            have h1 := putW_le N x k
            have h2 := HZ.out
            rw [HM.out] at h1
            have : i * 1000 ≤ 1000 * 1000 := Nat.mul_le_mul_right _ (by omega)
            omega
          have hT : Bys wr aw (k + 1) (x.take (k + 1)) := (HXB.out.below hBe).take (by omega)
          have hbd : ∀ y ∈ M, y.length ≤ 10000000 := fun y hy => by
            rw [← HM.out] at hy
            have := putW_bd HND.out (w := x) (by rw [HXB.out.len]; exact hlw) y hy
            omega
          have HP := Lib.hid (rput7_any aM aw M.length cM (k + 1) cw M (x.take (k + 1)) wr hWM hT hMl (by omega) hcM (by omega) hbd)
          have HMS : Hid (putW N x (k + 1) = putS M (x.take (k + 1))) := by rw [Hid, putW_succ, HM.out]
          have i3 : (0 : Int) ≤ (k : Int) + 1 := by omega
          have i4 : (k : Int) + 1 ≤ (cw : Int) := by omega
          clear hWM hT hbd
          go_wp2_with fail
          refine HP.out.mono ?_
          rintro e w2 ⟨a', c', rfl, hc', hW', hb2⟩
          have hBe2 := hBe.trans (hb2.mono hBe.size)
          go_wp2
          go_roundw
          case rel => exact ⟨k + 1, a', c', _, by omega, by go_num, rfl, HMS, hc', hW', hBe2⟩
          case measure => simp [intOf]; omega
        · obtain rfl : k = lw := by omega
          have hd2 : decide ((k : Int) + 1 ≤ (k : Int)) = false := by simp; omega
          have HZ2 : Hid (M.length ≤ (i + 1) * 1000 + 1) := by
            have h1 := putW_le N x k
            have h2 := HZ.out
            rw [HM.out] at h1
            rw [Hid, Nat.succ_mul]
            omega
          have HNM : Hid (nodesL (wss.take (i + 1)) = M) := by rw [Hid, HNS.out, HM.out]
          go_wp2
          go_roundw
          case rel => exact ⟨i + 1, aM, cM, M, by omega, by go_num, rfl, HNM, hcM, HZ2, hWM, hBe⟩
          case measure => simp [intOf]; omega
    · obtain rfl : i = la := by omega
      have hd : decide ((i : Int) < i) = false := by simp
      have HF : Hid (nodesL wss = N) := by
        have := HN.out
        rwa [List.take_of_length_le (by rw [HL.out]; exact Nat.le_refl _)] at this
      go_wp2
      go_ret
      rw [HF.out]
      exact ⟨aN, cN, rfl, hcN, hW, hBe⟩

end Go.Proofs.Ytifcoalhkcflnaa
