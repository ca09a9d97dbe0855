/- Parts of the proof, one behind the other: K5, K6, P1, P2, O2, O3, P3. No condition but what each theorem states. -/
import Derived.Maps.AppendAt
import Derived.Test.YtifcoalhkcflnaaGreatR2
import Derived.Test.YtifcoalhkcflnaaGreatR3
import Derived.Test.YtifcoalhkcflnaaGreatR6
import Derived.Test.YtifcoalhkcflnaaGreatR9

/- Links, steps, the deepest node, chains (layer 8): walked. -/

namespace Go.Proofs.YtifcoalhkcflnaaGreat
open Go.RowKit Go.Sort
set_option linter.unusedVariables false
set_option linter.unusedSimpArgs false
attribute [local go_sem] Oper.semAt_some
attribute [local simp] wide_fn wide_depth
attribute [local go_sem] wide_fn wide_depth

set_option maxHeartbeats 2000000 in
theorem is8_any (base g : Nat) (t : TV) (ws : List (List Int)) (L : List Int) (E : Int × Int → Option Int) (node : Int) (w : World) (h : LkAt w base g t ws L E) :
    Calls Tryz.prog 70 #[.pointer (some ⟨g, 0, none⟩), .int .i64 node] w fun e w' => e = .returned (.bool (decide (0 ≤ node ∧ node < (nodesL ws).length))) ∧ w = w' := by
  obtain ⟨mb, q, nm, h1, _⟩ := h.ex
  have c5 : w.cell? ⟨g, 5, none⟩ = some (.slice (some ⟨q, 0, none⟩) (nodesL ws).length (nodesL ws).length) := by simp [World.cell?, h1]
  generalize (nodesL ws).length = n at c5 ⊢
  clear h1 h
  by_cases h0 : 0 ≤ node
  · have hd : decide ((0 : Int) ≤ node) = true := by simpa using h0
    obtain ⟨B, hB⟩ : ∃ B, decide (node < (n : Int)) = B := ⟨_, rfl⟩
    have HF : Hid (decide (0 ≤ node ∧ node < (n : Int)) = B) := by rw [Hid, ← hB]; simp [h0]
    clear h0
    have HR : ∀ (r : Ending) (w' : World), r = .returned (.bool B) ∧ w = w' → r = .returned (.bool (decide (0 ≤ node ∧ node < (n : Int)))) ∧ w = w' := fun r w' h => by rw [HF.out]; exact h
    refine Calls.mono ?_ HR
    clear HR HF
    go_enter Tryz.func70, Tryz.ntmps70
    go_wp2
    go_ret
    exact ⟨rfl, rfl⟩
  · have hd : decide ((0 : Int) ≤ node) = false := by simpa using h0
    have HF : Hid (decide (0 ≤ node ∧ node < (n : Int)) = false) := by simp [Hid]; omega
    have HR : ∀ (r : Ending) (w' : World), r = .returned (.bool false) ∧ w = w' → r = .returned (.bool (decide (0 ≤ node ∧ node < (n : Int)))) ∧ w = w' := fun r w' h => by rw [HF.out]; exact h
    refine Calls.mono ?_ HR
    clear HR HF
    go_enter Tryz.func70, Tryz.ntmps70
    go_wp2
    go_ret
    exact ⟨rfl, rfl⟩

/-- What fail.Links tells. -/
theorem links8_no (t : TV) (T : TrieT) (w : World) (hT : Tri w t T) (hb : t.un ≤ 140737488351232) (hr : readP T = none) :
    Calls Tryz.prog 29 #[.agg t.cells] w fun e w' => e = .returned (.tuple #[.slice none 0 0, .int .i64 2]) ∧ Below w.heap.size w w' := by
  obtain ⟨ua, un, uc, da, dn, dc, xa, xn, xc, ba, bn, bc⟩ := t
  have hB := below_alloc w (.cells #[.slice ua un uc, .slice da dn dc, .slice xa xn xc, .slice ba bn bc] 28)
  have HC := Lib.hid (link8_no _ T _ (hT.below hB) hb hr)
  clear hT hr
  go_enter Tryz.func29, Tryz.ntmps29
  go_wp2_with fail
  refine HC.out.mono ?_
  rintro e w1 ⟨rfl, hb1⟩
  go_wp2
  go_ret2
  exact ⟨rfl, hB.trans (hb1.mono hB.size)⟩
theorem links8_yes (t : TV) (T : TrieT) (sp ws : List (List Int)) (w : World) (hT : Tri w t T) (hb : t.un ≤ 140737488351232) (hr : readP T = some (sp, ws)) :
    Calls Tryz.prog 29 #[.agg t.cells] w fun e w' => ∃ q, e = .returned (.tuple #[.slice (some ⟨q, 0, none⟩) (nodesL ws).length (nodesL ws).length, .int .i64 0]) ∧ IntRow q (linksP ws) w' ∧ w.heap.size ≤ q ∧ Below w.heap.size w w' := by
  obtain ⟨ua, un, uc, da, dn, dc, xa, xn, xc, ba, bn, bc⟩ := t
  have hB := below_alloc w (.cells #[.slice ua un uc, .slice da dn dc, .slice xa xn xc, .slice ba bn bc] 28)
  have HC := Lib.hid (link8_yes _ T sp ws _ (hT.below hB) hb hr)
  clear hT hr
  go_enter Tryz.func29, Tryz.ntmps29
  go_wp2_with fail
  refine HC.out.mono ?_
  rintro e w1 ⟨g, rfl, hLk, hb1⟩
  obtain ⟨mb, q, nm, h1, h2, h3, h4, h5, h6, h7, _⟩ := hLk.ex
  have c5 : w1.cell? ⟨g, 5, none⟩ = some (.slice (some ⟨q, 0, none⟩) (nodesL ws).length (nodesL ws).length) := by simp [World.cell?, h1]
  simp only [World.size_alloc] at h7
  clear h1 h2 h4
  go_wp2
  go_ret2
  exact ⟨q, rfl, h3, by omega, hB.trans (hb1.mono hB.size)⟩

/-- A box that holds a row of numbers of the call's own. -/
def HoldsI (b base : Nat) (l : List Int) (W : World) : Prop := ∃ v, Boxed W b 25 v ∧ OwnI W base v l
theorem holdsI_owns {α : Type} {B b base p : Nat} (hb : base ≤ b) (hp : p < base) (f : List α → List Int) : OwnsW B (fun r => r = p) (fun s W => HoldsI b base (f s) W) := by
  rintro s W W' row ⟨v, hv, ho⟩ hg hr
  have far : ∀ {k : Nat} {cs : Array Value} {t : TypeId}, W.heap[k]? = some (.cells cs t (0, 0)) → k ≠ p → row ≠ some k := fun {k cs t} hk hkp e => by
    rcases hr k e with ⟨_, o, h1, h2⟩ | h
    · rw [hk] at h1; cases h1; cases h2
    · exact hkp h
  refine ⟨v, (hg.block b hv.lt (fun e => far hv (by omega) e.symm)).trans hv, ho.kept hg ?_⟩
  rcases ho.2 with ⟨rfl, _⟩ | ⟨g, cap, cur, rfl, hg0, hgb, _⟩
  · exact .inl rfl
  · refine .inr fun e => ?_
    have e' : row = some g := by rw [← e]; rfl
    rcases hr g e' with ⟨_, o, h1, h2⟩ | h
    · rw [hgb] at h1; cases h1; cases h2
    · omega

set_option maxRecDepth 100000 in
set_option maxHeartbeats 4000000 in
/-- What a node's chain comes to, collected. -/
theorem append8_any (g p1 p2 q n n₀ : Nat) (L : List Int) (node : Nat) (cs : Array Value) (w : World)
    (hg : w.heap[g]? = some (.cells cs 83 (0, 0))) (hcs : cs[5]? = some (.slice (some ⟨q, 0, none⟩) n n)) (hq : IntRow q L w) (hL : L.length = n) (hn : n ≤ 1000000)
    (h1 : Boxed w p1 78 (.pointer (some ⟨g, 0, none⟩))) (h2 : Boxed w p2 3 (.int .i64 (node : Int)))
    (hp : p2 ≠ g ∧ p2 ≠ q ∧ p2 ≠ p1) (hn0 : n₀ ≤ p2) (hnode : node < n) (hlk : ∀ j, 1 ≤ j → j ≤ node → ∃ k : Nat, L[j]? = some (k : Int) ∧ k < j) :
    Calls Tryz.prog 95 #[.slice none 0 0, .func (.func 96) #[] #[.pointer (some ⟨p2, 0, none⟩), .pointer (some ⟨p1, 0, none⟩)]] w fun e w' => ∃ v, e = .returned v ∧ OwnI w' w.heap.size v ((chN L node node).map fun z : Nat => (z : Int)) ∧ Below n₀ w w' := by
  obtain ⟨i0, hi, hz0, hz1, hz2⟩ := info_parts i64_info7
  obtain ⟨W1, hW⟩ : ∃ W, W = w.alloc (.cells #[.slice none 0 0] 25) := ⟨_, rfl⟩
  have hB : Below w.heap.size w W1 := by rw [hW]; exact below_alloc _ _
  have bS : Boxed W1 w.heap.size 25 (.slice none 0 0) := by rw [hW]; exact Boxed.new _ _ _
  have hs1 : W1.heap.size = w.heap.size + 1 := by rw [hW]; simp
  refine calls_of_wp_M Tryz.func95 rfl ?_
  simp only [Tryz.ntmps95, List.size_toArray, List.length_cons, List.length_nil, Nat.reduceAdd, Nat.reduceSub, Array.replicate_succ, Array.replicate_zero, List.push_toArray, List.append_toArray, List.nil_append, List.cons_append]
  go_upto_region 1 with fail
  rw [← hW]
  clear hW
  have hg1 : W1.heap[g]? = _ := (hB.block g (Array.getElem?_eq_some_iff.1 hg).1).trans hg
  have hq1 : IntRow q L W1 := (hB.block q (Array.getElem?_eq_some_iff.1 (show w.heap[q]? = _ from hq)).1).trans hq
  have h11 : Boxed W1 p1 78 _ := (hB.block _ h1.lt).trans h1
  have h21 : Boxed W1 p2 3 _ := (hB.block _ h2.lt).trans h2
  have hgl := (Array.getElem?_eq_some_iff.1 hg).1
  have hql := (Array.getElem?_eq_some_iff.1 (show w.heap[q]? = _ from hq)).1
  have hp1l := h1.lt
  have hp2l := h2.lt
  have hps := chain_stops g p1 p2 q n L node cs (fun k => k < w.heap.size) 8 W1 hg1 hcs hq1 hL hn h11 h21 ⟨hgl, hql, hp1l, hp2l⟩ (fun k hk => by omega) hp hnode hlk
  have hcl : (chN L node node).length ≤ node + 1 := (chN_len L node node).1
  clear hg hq h1 h2 hg1 hq1 h11 h21 hlk
  go_wp2
  apply rangeW rfl (enters_of Tryz.func96 (by kernel_rfl) rfl) hps (fun r hr => by rw [hr]; omega) keepOn_t (keepOn_b fun k hk => by omega) (fun _ => rfl)
    (fun pre W => HoldsI w.heap.size w.heap.size (pre.map fun z : ChP => (z.1 : Int)) W ∧ Below n₀ w W ∧ W1.heap.size ≤ W.heap.size)
    (fun _ _ _ => False)
  case hI => exact OwnsW.and (holdsI_owns (Nat.le_refl _) hp2l _) (OwnsW.and (OwnsW.below (by omega) (by omega) (fun r hr => by rw [hr]; exact hn0)) (OwnsW.size _ _ _))
  case hIx => exact fun _ _ _ _ _ hs _ _ => hs
  case h0 => exact ⟨⟨_, bS, World.ownsRow_nil _ _ _ _⟩, hB.mono (by omega), Nat.le_refl _⟩
  case hassign =>
    intro l x W K hK
    unfold chEnc
    gi_wp2
    exact hK
  case hbody =>
    rintro l pre ⟨z, hz⟩ W ⟨⟨v, hv, hown⟩, hBe, hs⟩ hlen
    dsimp only
    obtain ⟨m, hm⟩ : ∃ m, (pre.map fun z : ChP => (z.1 : Int)).length = m := ⟨_, rfl⟩
    have hml : m ≤ 1000002 := by rw [← hm, List.length_map]; omega
    unfold OwnI at hown
    rw [hm] at hown
    have HMM := Lib.hid hm
    clear hm
    obtain ⟨av, cv, rfl, hcv, _⟩ := own_sl1 (enc := Value.int .i64) hown
    have c2 := hv.cell
    have hbl := hv.lt
    gi_wp2_with (gi_at_builtin; refine wpListIn_append_own _ rfl _ _ 25 rfl w.heap.size 3 i0 (.int .i64 0) 1 8 Tryz.underlying25 hi hz0 hz1 hz2 rfl (by decide) _ _ _ rfl (hown.alloc _) ⟨W.heap.size, 0, none⟩ 1 1 [.int .i64 (z : Int)] rfl rfl (cells_new _ _ rfl) (by simp [Value.oneCell']) (by unfold maxLen; omega) (by omega) (by simp; omega) ?_; intro v' w5 hown' hgrow hnil; obtain ⟨g', cap', rfl⟩ := ownsRow_succ hown'; obtain ⟨b1, b2, b3, b4, b5⟩ := hv.appended (of_decide_eq_true (by kernel_rfl)) hown (by omega) (Nat.le_refl _) hown' hgrow; have d1 := b1.cell; have d2 := b1.frozen; have d3 := b1.lt)
    refine ⟨b4.from _, fun k hk => b5.block k hk, ⟨_, b2, ?_⟩, hBe.trans (b5.mono (by omega)), Nat.le_trans hs (by have := b5.size; simpa using this)⟩
    unfold OwnI
    rw [List.map_append, List.length_append, HMM.out, List.map_append]
    exact b3
  case hdone =>
    rintro D zs W hD hS ⟨⟨v, hv, hown⟩, hBe, hs⟩ hD2
    have HZ : Hid ((zs.map fun z : ChP => (z.1 : Int)) = (chN L node node).map fun z : Nat => (z : Int)) := by rw [Hid, ← hS, List.map_map]; rfl
    obtain ⟨m, hm⟩ : ∃ m, (zs.map fun z : ChP => (z.1 : Int)).length = m := ⟨_, rfl⟩
    unfold OwnI at hown
    rw [hm] at hown
    have HMM := Lib.hid hm
    clear hm
    obtain ⟨av, cv, rfl, hcv, _⟩ := own_sl1 (enc := Value.int .i64) hown
    have c2 := hv.cell
    have hrow := ownsRow_putObj hown (.deferred none) hD2 rfl
    clear hown
    go_wp2
    refine endM rfl hD2 (results_tmp rfl _ _ _) ⟨_, rfl, ?_, put_below hBe (by omega) (by omega) _⟩
    unfold OwnI
    rw [← HZ.out, HMM.out]
    exact hrow
  case hstop => exact fun _ _ _ _ _ _ h _ => h.elim

set_option maxHeartbeats 1000000 in
theorem collect8_any (g p1 p2 q n n₀ : Nat) (L : List Int) (node : Nat) (cs : Array Value) (w : World)
    (hg : w.heap[g]? = some (.cells cs 83 (0, 0))) (hcs : cs[5]? = some (.slice (some ⟨q, 0, none⟩) n n)) (hq : IntRow q L w) (hL : L.length = n) (hn : n ≤ 1000000)
    (h1 : Boxed w p1 78 (.pointer (some ⟨g, 0, none⟩))) (h2 : Boxed w p2 3 (.int .i64 (node : Int)))
    (hp : p2 ≠ g ∧ p2 ≠ q ∧ p2 ≠ p1) (hn0 : n₀ ≤ p2) (hnode : node < n) (hlk : ∀ j, 1 ≤ j → j ≤ node → ∃ k : Nat, L[j]? = some (k : Int) ∧ k < j) :
    Calls Tryz.prog 71 #[.func (.func 96) #[] #[.pointer (some ⟨p2, 0, none⟩), .pointer (some ⟨p1, 0, none⟩)]] w fun e w' => ∃ v, e = .returned v ∧ OwnI w' w.heap.size v ((chN L node node).map fun z : Nat => (z : Int)) ∧ Below n₀ w w' := by
  have HC := Lib.hid (append8_any g p1 p2 q n n₀ L node cs w hg hcs hq hL hn h1 h2 hp hn0 hnode hlk)
  clear hg hcs hq h1 h2 hlk
  go_enter Tryz.func71, Tryz.ntmps71
  go_wp2_with fail
  refine HC.out.mono ?_
  rintro e w1 ⟨v, rfl, hv, hb⟩
  go_wp2
  go_ret
  exact ⟨v, rfl, hv, hb⟩

/-- A node's chain by numbers; no such node: nothing. -/
def chainI (ws : List (List Int)) (node : Int) : List Int := if 0 ≤ node ∧ node < (nodesL ws).length then (chN (linksP ws) node.toNat node.toNat).map fun z : Nat => (z : Int) else []
def chainT8 (T : TrieT) (node : Int) : List Int := match readP T with | some r => chainI r.2 node | none => []

theorem links_lk (ws : List (List Int)) {n node : Nat} (hn : (nodesL ws).length = n) (h : node < n) : ∀ j, 1 ≤ j → j ≤ node → ∃ k : Nat, (linksP ws)[j]? = some (k : Int) ∧ k < j := fun j h1 h2 => by
  obtain ⟨y, hy⟩ : ∃ y, (nodesL ws)[j]? = some y := ⟨(nodesL ws)[j]'(by omega), by simp⟩
  obtain ⟨k, e1, e2, _⟩ := (linksOK ws (j + 1)).at_ (by omega) hy (by omega)
  exact ⟨k, e1, e2⟩

set_option maxRecDepth 100000 in
set_option maxHeartbeats 4000000 in
theorem fchain8_any (t : TV) (T : TrieT) (node : Int) (w : World) (hT : Tri w t T) (hb : t.un ≤ 140737488351232) :
    Calls Tryz.prog 36 #[.agg t.cells, .int .i64 node] w fun e w' => ∃ v, e = .returned v ∧ OwnI w' w.heap.size v (chainT8 T node) ∧ Below w.heap.size w w' := by
  obtain ⟨ua, un, uc, da, dn, dc, xa, xn, xc, ba, bn, bc⟩ := t
  have hB := below_alloc w (.cells #[.slice ua un uc, .slice da dn dc, .slice xa xn xc, .slice ba bn bc] 28)
  cases hr : readP T with
  | none =>
    have HC := Lib.hid (link8_no _ T _ (hT.below hB) hb hr)
    have HF : Hid (chainT8 T node = []) := by unfold Hid chainT8; rw [hr]
    clear hT hr
    go_enter Tryz.func36, Tryz.ntmps36
    go_wp2_with fail
    refine HC.out.mono ?_
    rintro e w1 ⟨rfl, hb1⟩
    go_wp2
    go_ret
    rw [HF.out]
    exact ⟨_, rfl, World.ownsRow_nil _ _ _ _, hB.trans (hb1.mono hB.size)⟩
  | some r =>
    obtain ⟨sp, ws⟩ := r
    have HC := Lib.hid (link8_yes _ T sp ws _ (hT.below hB) hb hr)
    have HF : Hid (chainT8 T node = chainI ws node) := by unfold Hid chainT8; rw [hr]
    have HN : Hid ((nodesL ws).length ≤ 400) := by
      obtain ⟨_, _, h⟩ := readP_iff.1 hr
      rw [Hid, ← h]
      exact (readP_len hr).1
    clear hT hr
    go_enter Tryz.func36, Tryz.ntmps36
    go_wp2_with fail
    refine HC.out.mono ?_
    rintro e w1 ⟨g, rfl, hLk, hb1⟩
    have hB1 := hB.trans (hb1.mono hB.size)
    have HI := Lib.hid (is8_any _ g _ ws _ _ node w1 hLk)
    obtain ⟨B, hBd⟩ : ∃ B, decide (0 ≤ node ∧ node < ((nodesL ws).length : Int)) = B := ⟨_, rfl⟩
    rw [hBd] at HI
    have HBD := Lib.hid hBd
    clear hBd
    go_wp2_with fail
    refine HI.out.mono ?_
    rintro e w2 ⟨rfl, rfl⟩
    cases B with
    | false =>
      have HZ : Hid (chainI ws node = []) := by
        unfold Hid chainI
        rw [if_neg (of_decide_eq_false HBD.out)]
      go_wp2
      go_ret
      rw [HF.out, HZ.out]
      exact ⟨_, rfl, World.ownsRow_nil _ _ _ _, hB1⟩
    | true =>
      obtain ⟨h0, h1⟩ := of_decide_eq_true HBD.out
      obtain ⟨z, rfl⟩ : ∃ z : Nat, node = z := ⟨node.toNat, by omega⟩
      have HZ : Hid (chainI ws (z : Int) = (chN (linksP ws) z z).map fun z : Nat => (z : Int)) := by
        unfold Hid chainI
        rw [if_pos ⟨h0, h1⟩, Int.toNat_natCast]
      clear h0
      go_wp2_with (go_at_call 72; refine (chain8_any g z w1).mono ?_; rintro e w' ⟨rfl, rfl⟩)
      obtain ⟨W5, hW5⟩ : ∃ W, W = (w1.alloc (.cells #[.pointer (some ⟨g, 0, none⟩)] 78)).alloc (.cells #[.int .i64 (z : Int)] 3) := ⟨_, rfl⟩
      have hB35 : Below w1.heap.size w1 W5 := by rw [hW5]; exact (below_alloc _ _).alloc (by simp) _
      have h1' : Boxed W5 w1.heap.size 78 (.pointer (some ⟨g, 0, none⟩)) := by rw [hW5]; exact (Boxed.new w1 78 _).alloc _
      have h2' : Boxed W5 (w1.heap.size + 1) 3 (.int .i64 (z : Int)) := by
        rw [hW5]
        have := Boxed.new (w1.alloc (.cells #[.pointer (some ⟨g, 0, none⟩)] 78)) 3 (.int .i64 (z : Int))
        rwa [World.size_alloc] at this
      rw [← hW5]
      clear hW5
      obtain ⟨mb, q, nm, e1, e2, e3, e4, e5, e6, e7, _⟩ := (hLk.below hB35).ex
      obtain ⟨_, q', _, f1, _, f3, _⟩ := hLk.ex
      have hgl : g < w1.heap.size := (Array.getElem?_eq_some_iff.1 f1).1
      have hql : q < w1.heap.size := by
        have h3 : W5.heap[g]? = _ := (hB35.block g hgl).trans f1
        rw [e1] at h3
        have h4 : q = q' := by
          injection h3 with h3
          injection h3 with h3
          simp at h3
          exact h3.2
        rw [h4]
        exact (Array.getElem?_eq_some_iff.1 (show w1.heap[q']? = _ from f3)).1
      have HCO := Lib.hid (collect8_any g w1.heap.size (w1.heap.size + 1) q (nodesL ws).length w1.heap.size (linksP ws) z _ W5 e1 rfl e3 e4 (by have := HN.out; omega) h1' h2' ⟨by omega, by omega, by omega⟩ (by omega) (by omega) (links_lk ws rfl (by omega)))
      have hsz5 := hB35.size
      clear e1 e2 e3 e4 e5 e6 e7 f1 f3 h1' h2' hLk
      go_wp2_with fail
      refine HCO.out.mono ?_
      rintro e w6 ⟨v, rfl, hv, hb6⟩
      have hs1 := hB1.size
      have hv2 : OwnI w6 w.heap.size v ((chN (linksP ws) z z).map fun z : Nat => (z : Int)) := Go.Joins.ownsRow_le hv (by omega)
      go_wp2
      go_ret
      rw [HF.out, HZ.out]
      exact ⟨v, rfl, hv2, (hB1.trans (hB35.mono hs1)).trans (hb6.mono (by omega))⟩

end Go.Proofs.YtifcoalhkcflnaaGreat

/- The deepest node, a step, links that are right (layer 8): walked. -/

namespace Go.Proofs.YtifcoalhkcflnaaGreat
open Go.RowKit Go.Sort
set_option linter.unusedVariables false
set_option linter.unusedSimpArgs false

def deepT (T : TrieT) (b : List Int) : Int × Bool := match readP T with | some r => (placeS (nodesL r.2) (lsf (nodesL r.2) b), true) | none => (0, false)
def stepT (T : TrieT) (node c : Int) : Int × Bool := match readP T with
  | some r => if 0 ≤ node ∧ node < (nodesL r.2).length then (placeS (nodesL r.2) (lsf (nodesL r.2) (((nodesL r.2)[node.toNat]?).getD [] ++ [c])), true) else (0, false)
  | none => (0, false)
def rightL8 (T : TrieT) (l : List Int) : Bool := match readP T with | some r => decide (linksP r.2 = l) | none => false

theorem lsf_idx (ws : List (List Int)) (b : List Int) : ∃ z : Nat, z < (nodesL ws).length ∧ (nodesL ws)[z]? = some (lsf (nodesL ws) b) ∧ placeS (nodesL ws) (lsf (nodesL ws) b) = z := by
  obtain ⟨z, hz⟩ := List.getElem?_of_mem (lsf_mem (nodes_pre ws).1 b)
  exact ⟨z, (List.getElem?_eq_some_iff.1 hz).1, hz, placeS_at (nodesL_srt ws).nodup hz⟩
theorem LkAt.step {W : World} {base g : Nat} {t : TV} {ws : List (List Int)} (h : LkAt W base g t ws (linksP ws) (edgesW ws)) {z : Nat} {x : List Int} {c : Int} (hx : (nodesL ws)[z]? = some x) (hn : (nodesL ws).length ≤ 1000000) (hc : 0 ≤ c ∧ c ≤ 255) :
    Calls Tryz.prog 69 #[.pointer (some ⟨g, 0, none⟩), .int .i64 (z : Int), .int .u8 c] W fun e w' => e = .returned (.int .i64 (placeS (nodesL ws) (lsf (nodesL ws) (x ++ [c])))) ∧ Below W.heap.size W w' := by
  obtain ⟨mb, q, nm, h1, h2, h3, h4, _⟩ := h.ex
  exact step8_any g mb q _ nm (nodesL ws).length z ws _ _ x c W h1 rfl rfl h2 h3 h4 rfl hn (linksOK ws _) (Nat.le_refl _) ((List.getElem?_eq_some_iff.1 hx).1) hx hc
theorem read_n {T : TrieT} {sp ws : List (List Int)} (hr : readP T = some (sp, ws)) : (nodesL ws).length ≤ 400 := by
  obtain ⟨_, _, h⟩ := readP_iff.1 hr
  rw [← h]
  exact (readP_len hr).1

set_option maxRecDepth 100000 in
set_option maxHeartbeats 4000000 in
theorem deep8_any (t : TV) (T : TrieT) (b : Option Addr) (lb cb : Nat) (x : List Int) (w : World) (hT : Tri w t T) (hb : t.un ≤ 140737488351232) (hX : Bys w b lb x) (hlb : lb ≤ 4611686018427387904) :
    Calls Tryz.prog 31 #[.agg t.cells, .slice b lb cb] w fun e w' => e = .returned (.tuple #[.int .i64 (deepT T x).1, .bool (deepT T x).2]) ∧ Below w.heap.size w w' := by
  obtain ⟨ua, un, uc, da, dn, dc, xa, xn, xc, ba, bn, bc⟩ := t
  have hB := below_alloc w (.cells #[.slice ua un uc, .slice da dn dc, .slice xa xn xc, .slice ba bn bc] 28)
  cases hr : readP T with
  | none =>
    have HC := Lib.hid (link8_no _ T _ (hT.below hB) hb hr)
    have HF : Hid (deepT T x = (0, false)) := by unfold Hid deepT; rw [hr]
    clear hT hr
    go_enter Tryz.func31, Tryz.ntmps31
    go_wp2_with fail
    refine HC.out.mono ?_
    rintro e w1 ⟨rfl, hb1⟩
    go_wp2
    go_ret2
    rw [HF.out]
    exact ⟨rfl, hB.trans (hb1.mono hB.size)⟩
  | some r =>
    obtain ⟨sp, ws⟩ := r
    have HC := Lib.hid (link8_yes _ T sp ws _ (hT.below hB) hb hr)
    have HF : Hid (deepT T x = (placeS (nodesL ws) (lsf (nodesL ws) x), true)) := by unfold Hid deepT; rw [hr]
    have HN : Hid ((nodesL ws).length ≤ 1000000) := by have := read_n hr; rw [Hid]; omega
    have HL := Lib.hid hX.len
    have HX := Lib.hid hX
    clear hT hr hX
    go_enter Tryz.func31, Tryz.ntmps31
    go_wp2_with fail
    refine HC.out.mono ?_
    rintro e w1 ⟨g, rfl, hLk, hb1⟩
    have hB1 := hB.trans (hb1.mono hB.size)
    have HLK := Lib.hid hLk
    clear hLk hb1
    go_wp2
    go_loopw [8, 20] (fun s8 s20 wr => ∃ i : Nat, i ≤ lb ∧ s20 = .int .i64 i ∧ s8 = .int .i64 (placeS (nodesL ws) (lsf (nodesL ws) (x.take i))) ∧ Below w1.heap.size w1 wr) (fun _ s _ => lb - (intOf s).toNat)
    case atStart => exact ⟨0, Nat.zero_le _, rfl, by rw [List.take_zero]; exact congrArg _ (placeS_at (nodesL_srt ws).nodup (nodesL_head ws)).symm, Below.refl _ _⟩
    case round =>
      obtain ⟨i, hi, rfl, rfl, hBe⟩ := hrel
      by_cases hil : i < lb
      · have hd : decide ((i : Int) < lb) = true := by simp; omega
        obtain ⟨bb, off, c, hbb, hbl, hcell, hc⟩ := sl1_at HX.out.1 hil
        subst hbb
        have hcr := HX.out.2 c (List.mem_of_getElem? hc)
        have hc1 : wr.cell? ⟨bb, off + i, none⟩ = some (.int .u8 c) := ((hB1.trans (hBe.mono hB1.size)).cell (p := ⟨bb, off + i, none⟩) hbl).trans hcell
        obtain ⟨z, hz1, hz2, hz3⟩ := lsf_idx ws (x.take i)
        have HS : Hid (placeS (nodesL ws) (lsf (nodesL ws) (x.take (i + 1))) = placeS (nodesL ws) (lsf (nodesL ws) (lsf (nodesL ws) (x.take i) ++ [c]))) := by
          rw [Hid, take_step hc, lsf_step (nodes_pre ws)]
        rw [hz3]
        have HST := Lib.hid ((HLK.out.below hBe).step hz2 HN.out hcr)
        have i1 : (0 : Int) ≤ (i : Int) := by omega
        have i2 : (i : Int) < (lb : Int) := by omega
        clear hz1 hz2 hz3 hc
        go_wp2_with fail
        refine HST.out.mono ?_
        rintro e w2 ⟨rfl, hb2⟩
        go_wp2
        go_roundw
        case rel => exact ⟨i + 1, by omega, by go_num, by rw [HS.out], hBe.trans (hb2.mono hBe.size)⟩
        case measure => simp [intOf]; omega
      · obtain rfl : i = lb := by omega
        have hd : decide ((i : Int) < i) = false := by simp
        have HZ : Hid (x.take i = x) := List.take_of_length_le (by rw [HL.out]; exact Nat.le_refl _)
        rw [HZ.out]
        go_wp2
        go_ret2
        rw [HF.out]
        exact ⟨rfl, hB1.trans (hBe.mono hB1.size)⟩

set_option maxRecDepth 100000 in
set_option maxHeartbeats 4000000 in
theorem fstep8_any (t : TV) (T : TrieT) (node c : Int) (w : World) (hT : Tri w t T) (hb : t.un ≤ 140737488351232) (hc : 0 ≤ c ∧ c ≤ 255) :
    Calls Tryz.prog 33 #[.agg t.cells, .int .i64 node, .int .u8 c] w fun e w' => e = .returned (.tuple #[.int .i64 (stepT T node c).1, .bool (stepT T node c).2]) ∧ Below w.heap.size w w' := by
  obtain ⟨ua, un, uc, da, dn, dc, xa, xn, xc, ba, bn, bc⟩ := t
  have hB := below_alloc w (.cells #[.slice ua un uc, .slice da dn dc, .slice xa xn xc, .slice ba bn bc] 28)
  cases hr : readP T with
  | none =>
    have HC := Lib.hid (link8_no _ T _ (hT.below hB) hb hr)
    have HF : Hid (stepT T node c = (0, false)) := by unfold Hid stepT; rw [hr]
    clear hT hr
    go_enter Tryz.func33, Tryz.ntmps33
    go_wp2_with fail
    refine HC.out.mono ?_
    rintro e w1 ⟨rfl, hb1⟩
    go_wp2
    go_ret2
    rw [HF.out]
    exact ⟨rfl, hB.trans (hb1.mono hB.size)⟩
  | some r =>
    obtain ⟨sp, ws⟩ := r
    have HC := Lib.hid (link8_yes _ T sp ws _ (hT.below hB) hb hr)
    have HF : Hid (stepT T node c = if 0 ≤ node ∧ node < (nodesL ws).length then (placeS (nodesL ws) (lsf (nodesL ws) (((nodesL ws)[node.toNat]?).getD [] ++ [c])), true) else (0, false)) := by unfold Hid stepT; rw [hr]
    have HN : Hid ((nodesL ws).length ≤ 1000000) := by have := read_n hr; rw [Hid]; omega
    clear hT hr
    go_enter Tryz.func33, Tryz.ntmps33
    go_wp2_with fail
    refine HC.out.mono ?_
    rintro e w1 ⟨g, rfl, hLk, hb1⟩
    have hB1 := hB.trans (hb1.mono hB.size)
    have HI := Lib.hid (is8_any _ g _ ws _ _ node w1 hLk)
    obtain ⟨B, hBd⟩ : ∃ B, decide (0 ≤ node ∧ node < ((nodesL ws).length : Int)) = B := ⟨_, rfl⟩
    rw [hBd] at HI
    have HBD := Lib.hid hBd
    clear hBd
    go_wp2_with fail
    refine HI.out.mono ?_
    rintro e w2 ⟨rfl, rfl⟩
    cases B with
    | false =>
      have HZ := HF.out
      rw [if_neg (of_decide_eq_false HBD.out)] at HZ
      have HZ := Lib.hid HZ
      go_wp2
      go_ret2
      rw [HZ.out]
      exact ⟨rfl, hB1⟩
    | true =>
      have HZ := HF.out
      rw [if_pos (of_decide_eq_true HBD.out)] at HZ
      obtain ⟨h0, h1⟩ := of_decide_eq_true HBD.out
      obtain ⟨z, rfl⟩ : ∃ z : Nat, node = z := ⟨node.toNat, by omega⟩
      obtain ⟨x, hx⟩ : ∃ x, (nodesL ws)[z]? = some x := ⟨(nodesL ws)[z]'(by omega), by simp⟩
      rw [Int.toNat_natCast, hx, Option.getD_some] at HZ
      have HZ := Lib.hid HZ
      have HST := Lib.hid (hLk.step hx HN.out hc)
      clear h0 h1 hx hLk
      go_wp2_with fail
      refine HST.out.mono ?_
      rintro e w3 ⟨rfl, hb3⟩
      go_wp2
      go_ret2
      rw [HZ.out]
      exact ⟨rfl, hB1.trans (hb3.mono hB1.size)⟩

theorem IntRow.sl1 {g : Nat} {l : List Int} {W : World} (h : IntRow g l W) : Sl1 (Value.int .i64) W (some ⟨g, 0, none⟩) l.length l :=
  ⟨rfl, .inr ⟨g, 0, rfl, (Array.getElem?_eq_some_iff.1 (show W.heap[g]? = _ from h)).1, fun i x hx => by
    rw [cell_of_row W g (0 + i) _ _ _ h]
    simp [hx]⟩⟩

set_option maxRecDepth 100000 in
set_option maxHeartbeats 4000000 in
theorem fright8_any (t : TV) (T : TrieT) (a : Option Addr) (la ca : Nat) (l : List Int) (w : World) (hT : Tri w t T) (hb : t.un ≤ 140737488351232) (hA : Sl1 (Value.int .i64) w a la l) :
    Calls Tryz.prog 38 #[.agg t.cells, .slice a la ca] w fun e w' => e = .returned (.bool (rightL8 T l)) ∧ Below w.heap.size w w' := by
  obtain ⟨ua, un, uc, da, dn, dc, xa, xn, xc, ba, bn, bc⟩ := t
  have hB := below_alloc w (.cells #[.slice ua un uc, .slice da dn dc, .slice xa xn xc, .slice ba bn bc] 28)
  cases hr : readP T with
  | none =>
    have HC := Lib.hid (links8_no _ T _ (hT.below hB) hb hr)
    have HF : Hid (rightL8 T l = false) := by unfold Hid rightL8; rw [hr]
    clear hT hr
    go_enter Tryz.func38, Tryz.ntmps38
    go_wp2_with fail
    refine HC.out.mono ?_
    rintro e w1 ⟨rfl, hb1⟩
    go_wp2
    go_ret
    rw [HF.out]
    exact ⟨rfl, hB.trans (hb1.mono hB.size)⟩
  | some r =>
    obtain ⟨sp, ws⟩ := r
    have HC := Lib.hid (links8_yes _ T sp ws _ (hT.below hB) hb hr)
    have HF : Hid (rightL8 T l = decide (linksP ws = l)) := by unfold Hid rightL8; rw [hr]
    have HN : Hid ((nodesL ws).length ≤ 1000000) := by have := read_n hr; rw [Hid]; omega
    clear hT hr
    go_enter Tryz.func38, Tryz.ntmps38
    go_wp2_with fail
    refine HC.out.mono ?_
    rintro e w1 ⟨q, rfl, hq, hql, hb1⟩
    have hB1 := hB.trans (hb1.mono hB.size)
    have hS := hq.sl1
    rw [linksP_len] at hS
    have HE := Lib.hid (eqI_any (some ⟨q, 0, none⟩) a (nodesL ws).length (nodesL ws).length la ca (linksP ws) l w1 hS (hA.below hB1) (by have := HN.out; omega))
    clear hS hq
    go_wp2_with fail
    refine HE.out.mono ?_
    rintro e w2 ⟨rfl, hb2⟩
    go_wp2
    go_ret
    rw [HF.out]
    exact ⟨rfl, hB1.trans (hb2.mono hB1.size)⟩

end Go.Proofs.YtifcoalhkcflnaaGreat

/- Next nodes (layer 9): walked. -/


namespace Go.Proofs.YtifcoalhkcflnaaGreat
open Go.RowKit Go.Sort
set_option linter.unusedVariables false
set_option linter.unusedSimpArgs false

/-- A row that is filled in one by one. -/
def nTo (P : List Int) (n j : Nat) : List Int := P.take j ++ List.replicate (n - j) 0
theorem nTo_len {P : List Int} {n j : Nat} (hn : P.length = n) (hj : j ≤ n) : (nTo P n j).length = n := by
  unfold nTo
  rw [List.length_append, List.length_take, List.length_replicate]
  omega
theorem nTo_at {P : List Int} {n j i : Nat} (hi : i < j) (hj : j ≤ n) (hn : P.length = n) : (nTo P n j)[i]? = P[i]? := by
  unfold nTo
  rw [List.getElem?_append_left (by rw [List.length_take]; omega), List.getElem?_take, if_pos hi]
theorem nTo_one {P : List Int} {n : Nat} (h1 : 1 ≤ n) (h0 : P[0]? = some 0) : nTo P n 1 = List.replicate n 0 := by
  obtain ⟨m, rfl⟩ : ∃ m, n = m + 1 := ⟨n - 1, by omega⟩
  have hs := take_step h0
  unfold nTo
  rw [hs, List.replicate_succ]
  simp
theorem nTo_set {P : List Int} {n j : Nat} {v : Int} (hn : P.length = n) (hj : j < n) (hv : P[j]? = some v) : (nTo P n j).set j v = nTo P n (j + 1) := by
  unfold nTo
  obtain ⟨m, hm⟩ : ∃ m, n - j = m + 1 := ⟨n - j - 1, by omega⟩
  have hl : (P.take j).length = j := by rw [List.length_take]; omega
  rw [List.set_append_right _ _ (by omega), hl, Nat.sub_self, hm, List.replicate_succ, List.set_cons_zero, take_step hv, show n - (j + 1) = m by omega, List.append_assoc]
  rfl
theorem nTo_all {P : List Int} {n : Nat} (hn : P.length = n) : nTo P n n = P := by
  unfold nTo
  rw [Nat.sub_self, List.replicate_zero, List.append_nil, List.take_of_length_le (by omega)]

/-- A trie with its next nodes, in memory of a call's own. -/
structure AlAt (W : World) (base g : Nat) (t : TV) (ws : List (List Int)) : Prop where
  ex : ∃ q : Nat, W.heap[g]? = some (.cells #[.slice t.ua t.un t.uc, .slice t.da t.dn t.dc, .slice t.xa t.xn t.xc, .slice t.ba t.bn t.bc, .slice (some ⟨q, 0, none⟩) (nodesL ws).length (nodesL ws).length] 95 (0, 0)) ∧ IntRow q (nextsP ws) W ∧ base ≤ g ∧ base ≤ q
theorem AlAt.below {W V : World} {base g : Nat} {t : TV} {ws : List (List Int)} (h : AlAt W base g t ws) (hb : Below W.heap.size W V) : AlAt V base g t ws := by
  obtain ⟨q, h1, h2, h3⟩ := h.ex
  exact ⟨q, (hb.block g (Array.getElem?_eq_some_iff.1 h1).1).trans h1, (hb.block q (Array.getElem?_eq_some_iff.1 (show W.heap[q]? = _ from h2)).1).trans h2, h3⟩

set_option maxRecDepth 100000 in
set_option maxHeartbeats 4000000 in
theorem read9_no (t : TV) (T : TrieT) (w : World) (hT : Tri w t T) (hb : t.un ≤ 140737488351232) (hr : readP T = none) :
    Calls Tryz.prog 73 #[.agg t.cells] w fun e w' => e = .returned (.tuple #[.pointer none, .bool false]) ∧ Below w.heap.size w w' := by
  obtain ⟨ua, un, uc, da, dn, dc, xa, xn, xc, ba, bn, bc⟩ := t
  have hB := below_alloc w (.cells #[.slice ua un uc, .slice da dn dc, .slice xa xn xc, .slice ba bn bc] 28)
  have HC := Lib.hid (links8_no _ T _ (hT.below hB) hb hr)
  clear hT hr
  go_enter Tryz.func73, Tryz.ntmps73
  go_wp2_with fail
  refine HC.out.mono ?_
  rintro e w1 ⟨rfl, hb1⟩
  go_wp2
  go_ret2
  exact ⟨rfl, hB.trans (hb1.mono hB.size)⟩

set_option maxRecDepth 100000 in
set_option maxHeartbeats 8000000 in
theorem read9_yes (t : TV) (T : TrieT) (sp ws : List (List Int)) (w : World) (hT : Tri w t T) (hb : t.un ≤ 140737488351232) (hr : readP T = some (sp, ws)) :
    Calls Tryz.prog 73 #[.agg t.cells] w fun e w' => ∃ g, e = .returned (.tuple #[.pointer (some ⟨g, 0, none⟩), .bool true]) ∧ AlAt w' w.heap.size g t ws ∧ Below w.heap.size w w' := by
  have hn400 := read_n hr
  obtain ⟨_, hTe, _⟩ := readP_iff.1 hr
  obtain ⟨ua, un, uc, da, dn, dc, xa, xn, xc, ba, bn, bc⟩ := t
  have hxn : xn = (nodesL ws).length := by have := hT.wrd.1; rw [hTe] at this; simp [trieP] at this; exact this.symm
  have HXN := Lib.hid hxn
  clear hxn
  have hn0 : 1 ≤ (nodesL ws).length := by
    have := nodesL_ne ws
    have : (nodesL ws).length ≠ 0 := fun e => this (List.eq_nil_of_length_eq_zero e)
    omega
  obtain ⟨W, hW⟩ : ∃ W, W = w.alloc (.cells #[.slice ua un uc, .slice da dn dc, .slice xa xn xc, .slice ba bn bc] 28) := ⟨_, rfl⟩
  have hB : Below w.heap.size w W := by rw [hW]; exact below_alloc _ _
  have hQ : W.heap[w.heap.size]? = some (.cells #[.slice ua un uc, .slice da dn dc, .slice xa xn xc, .slice ba bn bc] 28 (0, 0)) := by rw [hW]; exact World.alloc_heap_new _ _
  have c0 : W.cell? ⟨w.heap.size, 0, none⟩ = some (.slice ua un uc) := by simp [World.cell?, hQ]
  have c1 : W.cell? ⟨w.heap.size, 1, none⟩ = some (.slice da dn dc) := by simp [World.cell?, hQ]
  have c2 : W.cell? ⟨w.heap.size, 2, none⟩ = some (.slice xa xn xc) := by simp [World.cell?, hQ]
  have c3 : W.cell? ⟨w.heap.size, 3, none⟩ = some (.slice ba bn bc) := by simp [World.cell?, hQ]
  have HC := Lib.hid (links8_yes _ T sp ws W (hT.below hB) hb hr)
  have HWD : Hid (Sl1 (Value.int .i64) w xa xn (trieP ws).wrd) := by rw [Hid, ← hTe]; exact hT.wrd
  clear hT hr hTe
  go_enter Tryz.func73, Tryz.ntmps73
  go_upto_region 1 with fail
  rw [← hW]
  clear hW
  go_wp2_with fail
  refine HC.out.mono ?_
  rintro e A ⟨q0, rfl, hq0, hql0, hbA⟩
  have hBA := hB.trans (hbA.mono hB.size)
  have hQA : A.heap[w.heap.size]? = _ := (hbA.block _ (Array.getElem?_eq_some_iff.1 hQ).1).trans hQ
  clear c0 c1 c2 c3 hQ HC hB hbA
  have HWA := Lib.hid (HWD.out.below hBA)
  have HQA := Lib.hid hQA
  obtain ⟨n, hnn⟩ : ∃ n, (nodesL ws).length = n := ⟨_, rfl⟩
  have HNN := Lib.hid hnn
  have hxn := HXN.out
  rw [hnn] at hn400 hn0 hxn ⊢
  clear HXN
  replace hxn := hxn.symm
  subst hxn
  have hmk : ∀ V : World, (Instr.makeSlice 25 (.int .i64 n) (.int .i64 n)).run Tryz.prog V = .ok (.slice (some ⟨V.heap.size, 0, none⟩) n n) (V.alloc (.cells (intsNil n) 3)) := fun V => by
    obtain ⟨i0, hi, hz0, hz1, hz2⟩ := info_parts i64_info7
    have h := run_makeSlice (P := Tryz.prog) (w := V) 25 3 i0 (.int .i64 0) Tryz.underlying25 hi hz0 .i64 .i64 (n : Int) (n : Int) (by omega) (by omega) (by rw [hz1]; omega) (by rw [hz2]; omega) (by omega)
    rw [hz1] at h
    have e1 : (n : Int).toNat * 1 = n := by omega
    rw [e1, made_ints, Int.toNat_natCast] at h
    exact h
  clear hnn
  have hlt0 : w.heap.size < A.heap.size := (Array.getElem?_eq_some_iff.1 hQA).1
  have hne0 : w.heap.size ≠ A.heap.size := by omega
  have hlt1 : w.heap.size < A.heap.size + 1 := by omega
  have c0 : A.cell? ⟨w.heap.size, 0, none⟩ = some (.slice ua un uc) := by simp [World.cell?, hQA]
  have c1 : A.cell? ⟨w.heap.size, 1, none⟩ = some (.slice da dn dc) := by simp [World.cell?, hQA]
  have c2 : A.cell? ⟨w.heap.size, 2, none⟩ = some (.slice xa n xc) := by simp [World.cell?, hQA]
  have c3 : A.cell? ⟨w.heap.size, 3, none⟩ = some (.slice ba bn bc) := by simp [World.cell?, hQA]
  go_upto_region 4 with fail
  go_cut [6] (fun s6 wx => ∃ g q : Nat, s6 = .pointer (some ⟨g, 0, none⟩) ∧ wx.heap[g]? = some (.cells #[.slice ua un uc, .slice da dn dc, .slice xa n xc, .slice ba bn bc, .slice (some ⟨q, 0, none⟩) n n] 95 (0, 0)) ∧ IntRow q (List.replicate n 0) wx ∧ g ≠ q ∧ A.heap.size ≤ g ∧ A.heap.size ≤ q ∧ Below A.heap.size A wx)
  case first =>
    go_region
    all_goals
      go_wp2_with fail
      go_meet
      refine ⟨A.heap.size + 1, A.heap.size, rfl, alloc_at (by simp) _, ?_, by omega, by omega, by omega, ?_⟩
      · exact (Below.heap_alloc _ _ _ (by simp)).trans (IntRow.new A n)
      · exact ((below_alloc A _).alloc (by simp) _).trans ⟨rfl, rfl, rfl, Nat.le_refl _, fun _ _ => rfl⟩
  case rest =>
    obtain ⟨g, q, rfl, hg, hq, hgq, hgA, hqA, hBe⟩ := hcut
    clear c0 c1 c2 c3 hmk hne0 hlt1 hQA
    have hBq : ∀ V : World, Below A.heap.size A V → IntRow q0 (linksP ws) V := fun V hV => (hV.block q0 (Array.getElem?_eq_some_iff.1 (show A.heap[q0]? = _ from hq0)).1).trans hq0
    have HBQ := Lib.hid hBq
    have HP0 : Hid ((nextsP ws)[0]? = some 0) := by rw [Hid, nextsP_at (by rw [HNN.out]; omega), nx_zero]; rfl
    have HPL : Hid ((nextsP ws).length = n) := by rw [Hid, nextsP_len, HNN.out]
    have hq1 : IntRow q (nTo (nextsP ws) n 1) wc := by rw [nTo_one hn0 HP0.out]; exact hq
    clear hBq hq hq0
    go_wp2
    go_loopw [7] (fun s7 wr => ∃ j : Nat, 1 ≤ j ∧ j ≤ n ∧ s7 = .int .i64 j ∧ wr.heap[g]? = some (.cells #[.slice ua un uc, .slice da dn dc, .slice xa n xc, .slice ba bn bc, .slice (some ⟨q, 0, none⟩) n n] 95 (0, 0)) ∧ IntRow q (nTo (nextsP ws) n j) wr ∧ Below A.heap.size A wr) (fun s _ => n - (intOf s).toNat)
    case atStart => exact ⟨1, Nat.le_refl _, hn0, rfl, hg, hq1, hBe⟩
    case round =>
      clear hg hq1 hBe
      obtain ⟨j, hj1, hjn, rfl, hg, hq, hBe⟩ := hrel
      by_cases hjl : j < n
      · have hd : decide ((j : Int) < n) = true := by simp; omega
        obtain ⟨x, hx⟩ : ∃ x, (nodesL ws)[j]? = some x := ⟨(nodesL ws)[j]'(by have := HNN.out; omega), by simp⟩
        obtain ⟨k, hk1, _, hk3, hk4⟩ := links_num hx
        have hkj := hk3 (by omega)
        obtain ⟨b0, o0, v, e0, hl0, cv, hv⟩ := sl1_at HWA.out (show k < n by omega)
        have hrec := nx_rec (by omega) (by rw [HNN.out]; exact hjl) hk1 hv
        have hPj := nextsP_at (ws := ws) (z := j) (by rw [HNN.out]; exact hjl)
        rw [hrec] at hPj
        have hlk : wr.cell? ⟨q0, j, none⟩ = some (.int .i64 (k : Int)) := by
          rw [cell_of_row wr q0 j _ _ _ (HBQ.out wr hBe)]
          simp [hk1]
        have hQr : wr.heap[w.heap.size]? = _ := (hBe.block _ hlt0).trans HQA.out
        have x2 : wr.cell? ⟨w.heap.size, 2, none⟩ = some (.slice xa n xc) := by simp [World.cell?, hQr]
        subst e0
        have cvr : wr.cell? ⟨b0, o0 + k, none⟩ = some (.int .i64 v) := (hBe.cell (p := ⟨b0, o0 + k, none⟩) hl0).trans cv
        have g4 : wr.cell? ⟨g, 4, none⟩ = some (.slice (some ⟨q, 0, none⟩) n n) := by simp [World.cell?, hg]
        have hrl := nTo_len (P := nextsP ws) HPL.out hjn
        have rowc : ∀ (i : Nat) (y : Int), (nTo (nextsP ws) n j)[i]? = some y → wr.cell? ⟨q, i, none⟩ = some (.int .i64 y) := fun i y hy => by
          rw [cell_of_row wr q i _ _ _ hq]
          simp [hy]
        have hfz : wr.frozen? ⟨q, j, none⟩ = false := by simp [World.frozen?, show wr.heap[q]? = _ from hq]
        obtain ⟨y0, hy0⟩ : ∃ y, (nTo (nextsP ws) n j)[j]? = some y := ⟨(nTo (nextsP ws) n j)[j]'(by omega), by simp⟩
        have cj := rowc j y0 hy0
        have ck := rowc k (nx ws k) (by rw [nTo_at hkj hjn HPL.out]; exact nextsP_at (by rw [HNN.out]; omega))
        have hgl : g < wr.heap.size := (Array.getElem?_eq_some_iff.1 hg).1
        have hql : q < wr.heap.size := (Array.getElem?_eq_some_iff.1 (show wr.heap[q]? = _ from hq)).1
        have fin : ∀ z : Int, (nextsP ws)[j]? = some z → IntRow q (nTo (nextsP ws) n (j + 1)) (wr.setCell ⟨q, j, none⟩ (.int .i64 z)) ∧ (wr.setCell ⟨q, j, none⟩ (.int .i64 z)).heap[g]? = some (.cells #[.slice ua un uc, .slice da dn dc, .slice (some ⟨b0, o0, none⟩) n xc, .slice ba bn bc, .slice (some ⟨q, 0, none⟩) n n] 95 (0, 0)) ∧ Below A.heap.size A (wr.setCell ⟨q, j, none⟩ (.int .i64 z)) := fun z hz =>
          ⟨by have := hq.set (j := j) z; rwa [nTo_set HPL.out hjl hz] at this, (Below.heap_setCell _ _ _ _ (by show g ≠ q; exact hgq)).trans hg, hBe.setCell hqA _⟩
        have FIN := Lib.hid fin
        have j1 : (0 : Int) ≤ (j : Int) := by omega
        have j2 : (j : Int) < (n : Int) := by omega
        have k1 : (0 : Int) ≤ (k : Int) := by omega
        have k2 : (k : Int) < (n : Int) := by omega
        clear fin hx hk1 hk3 hk4 hv hrec hQr rowc hy0 hrl
        by_cases hv0 : 0 ≤ v
        · have dv : decide ((0 : Int) ≤ v) = true := by simpa using hv0
          rw [if_pos hv0] at hPj
          obtain ⟨f1, f2, f3⟩ := FIN.out _ hPj
          clear hPj hv0
          go_wp2
          go_roundw
          case rel => exact ⟨j + 1, by omega, by omega, by go_num, f2, f1, f3⟩
          case measure => simp [intOf]; omega
        · have dv : decide ((0 : Int) ≤ v) = false := by simpa using hv0
          rw [if_neg hv0] at hPj
          clear hv0
          go_upto_region 11 with fail
          refine region_drawn_tail 13 mixed (by kernel_rfl) ?_
          dsimp only [List.take_succ_cons, List.take_zero, List.drop_succ_cons, List.drop_zero]
          repeat (go_big_quiet_step (fail))
          refine wpQuiet_nil ?_
          rintro _ ⟨nq, rfl⟩
          obtain ⟨f1, f2, f3⟩ := FIN.out _ hPj
          have hdn : ((wr.drewN nq).setCell ⟨q, j, none⟩ (.int .i64 (nx ws k : Int))).heap = (wr.setCell ⟨q, j, none⟩ (.int .i64 (nx ws k : Int))).heap := rfl
          have f1' : IntRow q (nTo (nextsP ws) n (j + 1)) ((wr.drewN nq).setCell ⟨q, j, none⟩ (.int .i64 (nx ws k : Int))) := f1
          have f2' : ((wr.drewN nq).setCell ⟨q, j, none⟩ (.int .i64 (nx ws k : Int))).heap[g]? = some (.cells #[.slice ua un uc, .slice da dn dc, .slice (some ⟨b0, o0, none⟩) n xc, .slice ba bn bc, .slice (some ⟨q, 0, none⟩) n n] 95 (0, 0)) := f2
          have f3' : Below A.heap.size A ((wr.drewN nq).setCell ⟨q, j, none⟩ (.int .i64 (nx ws k : Int))) := (hBe.trans ((bel_drewN wr nq).mono hBe.size)).setCell hqA _
          have cj' : (wr.drewN nq).cell? ⟨q, j, none⟩ = some (.int .i64 y0) := cj
          have fz' : (wr.drewN nq).frozen? ⟨q, j, none⟩ = false := hfz
          have ql' : q < (wr.drewN nq).heap.size := hql
          clear f1 f2 f3 hdn hPj
          go_wp2
          go_roundw
          case rel => exact ⟨j + 1, by omega, by omega, by go_num, f2', f1', f3'⟩
          case measure => simp [intOf]; omega
      · obtain rfl : j = n := by omega
        have hd : decide ((j : Int) < j) = false := by simp
        rw [nTo_all HPL.out] at hq
        have hBf := hBA.trans (hBe.mono hBA.size)
        have hs := hBA.size
        go_wp2
        go_ret2
        exact ⟨g, rfl, ⟨⟨q, by rw [HNN.out]; exact hg, hq, by omega, by omega⟩⟩, hBf⟩

end Go.Proofs.YtifcoalhkcflnaaGreat

/- A node's words' nodes (layer 9): the iterator, walked. -/

namespace Go.Proofs.YtifcoalhkcflnaaGreat
open Go.RowKit Go.Sort
set_option linter.unusedVariables false
set_option linter.unusedSimpArgs false
attribute [local go_sem] Oper.semAt_some
attribute [local simp] wide_fn wide_depth
attribute [local go_sem] wide_fn wide_depth

abbrev NdP (n : Nat) := { z : Nat // z < n }
def ndEnc {n : Nat} (z : NdP n) : Array Value := #[.int .i64 (z.1 : Int)]

theorem endsc_any (g : Nat) (node : Int) (w : World) :
    Calls Tryz.prog 77 #[.pointer (some ⟨g, 0, none⟩), .int .i64 node] w fun e w' => e = .returned (.func (.func 97) #[] #[.pointer (some ⟨w.heap.size + 1, 0, none⟩), .pointer (some ⟨w.heap.size, 0, none⟩)]) ∧
      w' = (w.alloc (.cells #[.pointer (some ⟨g, 0, none⟩)] 91)).alloc (.cells #[.int .i64 node] 3) := by
  go_enter Tryz.func77, Tryz.ntmps77
  go_wp2
  go_ret
  exact ⟨rfl, rfl⟩

set_option maxRecDepth 100000 in
set_option maxHeartbeats 4000000 in
theorem ends_stops (ws : List (List Int)) (g p1 p2 q n b0 o0 xc : Nat) (z0 : Nat) (s0 s1 s3 : Value) (S : Nat → Prop) (m : Nat) (w : World)
    (hg : w.heap[g]? = some (.cells #[s0, s1, .slice (some ⟨b0, o0, none⟩) n xc, s3, .slice (some ⟨q, 0, none⟩) n n] 95 (0, 0))) (hq : IntRow q (nextsP ws) w) (hN : (nodesL ws).length = n) (hn : n ≤ 1000000)
    (hW : ∀ (i : Nat) (v : Int), (trieP ws).wrd[i]? = some v → w.cell? ⟨b0, o0 + i, none⟩ = some (.int .i64 v))
    (h1 : Boxed w p1 91 (.pointer (some ⟨g, 0, none⟩))) (h2 : Boxed w p2 3 (.int .i64 (z0 : Int)))
    (hS : S g ∧ S q ∧ S p1 ∧ S p2 ∧ S b0) (hSw : ∀ k, S k → k < w.heap.size) (hz0 : z0 < n) :
    SeqStopsK Fence.wide m Tryz.prog 97 #[.pointer (some ⟨p2, 0, none⟩), .pointer (some ⟨p1, 0, none⟩)] ndEnc (keepOn S) (fun zs : List (NdP n) => zs.map Subtype.val = ends9 ws z0) (fun pre => ∃ r, ends9 ws z0 = pre.map Subtype.val ++ r) (z0 + 1) w := by
  intro l J Jx W hWb hJ hJx hY h0
  obtain ⟨s11, s12, s13, s14, s15⟩ := hS
  have cells : ∀ v : World, keepOn S w v → v.cell? ⟨p1, 0, none⟩ = some (.pointer (some ⟨g, 0, none⟩)) ∧ v.cell? ⟨p2, 0, none⟩ = some (.int .i64 (z0 : Int)) ∧ v.cell? ⟨g, 2, none⟩ = some (.slice (some ⟨b0, o0, none⟩) n xc) ∧ v.cell? ⟨g, 4, none⟩ = some (.slice (some ⟨q, 0, none⟩) n n) ∧
      (∀ (j : Nat) (x : Int), (nextsP ws)[j]? = some x → v.cell? ⟨q, j, none⟩ = some (.int .i64 x)) ∧ (∀ (j : Nat) (x : Int), (trieP ws).wrd[j]? = some x → v.cell? ⟨b0, o0 + j, none⟩ = some (.int .i64 x)) := by
    intro v hv
    have e1 : v.heap[p1]? = some (.cells #[.pointer (some ⟨g, 0, none⟩)] 91 (0, 0)) := (hv p1 s13).trans h1
    have e2 : v.heap[g]? = _ := (hv g s11).trans hg
    have e3 : v.heap[q]? = some (.cells ((nextsP ws).map (Value.int .i64)).toArray 3 (0, 0)) := (hv q s12).trans hq
    have e4 : v.heap[p2]? = some (.cells #[.int .i64 (z0 : Int)] 3 (0, 0)) := (hv p2 s14).trans h2
    refine ⟨by simp [World.cell?, e1], by simp [World.cell?, e4], by simp [World.cell?, e2], by simp [World.cell?, e2], fun j x hx => ?_, fun j x hx => ?_⟩
    · rw [cell_of_row v q j _ _ _ e3]
      simp [hx]
    · rw [← hW j x hx]
      exact World.cell?_of_block (hv b0 s15)
  have HC := Lib.hid cells
  have hkW : keepOn S w W := keepOn_of_below hWb hSw
  have HNN := Lib.hid hN
  have HSW := Lib.hid hSw
  clear hg hq h1 h2 cells hW hN hSw
  obtain ⟨c1, c2, _, _, _, _⟩ := HC.out W hkW
  refine callsIn_of_wp Tryz.func97 rfl trivial ?_ rfl
  simp only [Tryz.ntmps97, List.size_toArray, List.length_cons, List.length_nil, Nat.reduceAdd, Nat.reduceSub, Array.replicate_succ, Array.replicate_zero, List.push_toArray, List.append_toArray, List.nil_append, List.cons_append]
  gi_wp2
  clear c1 c2
  gi_loopw [4] (fun s4 wr => ∃ (z f : Nat) (pre : List (NdP n)), z ≤ f ∧ z ≤ z0 ∧ s4 = .int .i64 (z : Int) ∧ Hid (ends9 ws z0 = pre.map Subtype.val ++ endsN (nextsP ws) (trieP ws).wrd f z) ∧ J pre wr ∧ keepOn S w wr) (fun s _ => (intOf s).toNat)
  case atStart => exact ⟨z0, z0, [], Nat.le_refl _, Nat.le_refl _, rfl, rfl, h0, hkW⟩
  case round =>
    clear hkW
    obtain ⟨z, f, pre, hzf, hzn, rfl, HP, hj, hk⟩ := hrel
    obtain ⟨c1, c2, c3, c4, c5, c6⟩ := HC.out wr hk
    by_cases hz : z = 0
    · subst hz
      have HF : Hid (pre.map Subtype.val = ends9 ws z0) := by rw [Hid, HP.out, endsN_zero, List.append_nil]
      gi_wp2
      go_end0
      exact ⟨⟨_, rfl⟩, .inl ⟨pre, HF.out, hj⟩⟩
    · obtain ⟨f, rfl⟩ : ∃ f', f = f' + 1 := ⟨f - 1, by omega⟩
      obtain ⟨v, hv⟩ : ∃ v, (trieP ws).wrd[z]? = some v := ⟨(trieP ws).wrd[z]'(by rw [(wrd_len ws).1, HNN.out]; omega), by simp⟩
      have hnx := nextsP_at (ws := ws) (z := z) (by rw [HNN.out]; omega)
      have hlt := nexts_lt (ws := ws) (z := z) (by omega) (by rw [HNN.out]; omega)
      have hst := HP.out
      rw [endsN_succ, if_neg hz, hv, Option.getD_some] at hst
      rw [hnx, Option.getD_some, Int.toNat_natCast] at hst hlt
      have cw := c6 z v hv
      have cn := c5 z _ hnx
      have hne : ((z : Int) != 0) = true := by simp; omega
      have i1 : (0 : Int) ≤ (z : Int) := by omega
      have i2 : (z : Int) < (n : Int) := by omega
      have hzm : z < n := by omega
      by_cases hv0 : 0 ≤ v
      · have dv : decide ((0 : Int) ≤ v) = true := by simpa using hv0
        rw [if_pos hv0] at hst
        have HF : Hid (ends9 ws z0 = (pre ++ [(⟨z, hzm⟩ : NdP n)]).map Subtype.val ++ endsN (nextsP ws) (trieP ws).wrd f (nx ws z)) := by rw [Hid, hst]; simp
        have hlen : pre.length < z0 + 1 := by
          have h1 := congrArg List.length hst
          have h2 := endsN_len (nextsP ws) (trieP ws).wrd z0 z0
          unfold ends9 at h1
          rw [List.length_append, List.length_append, List.length_map, List.length_singleton] at h1
          omega
        obtain ⟨fn, tmps, assign, body, hyl, hRo⟩ := hY pre ⟨z, hzm⟩ wr hj hlen
        dsimp only [ndEnc] at hyl
        clear hst hv hnx
        gi_wp2
        refine hRo.mono ?_
        rintro e W4 (⟨rfl, hJ4, hk4⟩ | ⟨rfl, hJx4⟩)
        · have hk5 := keepOn_t hk hk4
          obtain ⟨d1, d2, d3, d4, d5, d6⟩ := HC.out W4 hk5
          have dn := (hk4 q s12)
          have cn4 : W4.cell? ⟨q, z, none⟩ = some (.int .i64 (nx ws z : Int)) := d5 z _ (nextsP_at (by rw [HNN.out]; omega))
          clear c1 c2 c3 c4 c5 c6 cw cn d5 d6 hRo hyl dn
          gi_wp2
          go_roundw
          case rel => exact ⟨nx ws z, f, _, by omega, by omega, rfl, HF, hJ4, hk5⟩
          case measure => simp [intOf]; omega
        · have HG : Hid (∃ r, ends9 ws z0 = (pre ++ [(⟨z, hzm⟩ : NdP n)]).map Subtype.val ++ r) := ⟨_, HF.out⟩
          gi_wp2
          refine bodyPost_ret (results_none rfl _ _ _) rfl ?_
          exact ⟨⟨_, rfl⟩, .inr ⟨_, HG.out, hJx4⟩⟩
      · have dv : decide ((0 : Int) ≤ v) = false := by simpa using hv0
        rw [if_neg hv0, List.nil_append] at hst
        have HF := Lib.hid hst
        clear hst hv hnx c5 c6
        gi_wp2
        go_roundw
        case rel => exact ⟨nx ws z, f, pre, by omega, by omega, rfl, HF, hj, hk⟩
        case measure => simp [intOf]; omega

end Go.Proofs.YtifcoalhkcflnaaGreat

/- Where words stand in a text (layer 6): the test and the iterator, walked. -/


namespace Go.Proofs.YtifcoalhkcflnaaGreat
open Go.RowKit Go.Sort
set_option linter.unusedVariables false
attribute [local go_sem] Oper.semAt_some
attribute [local simp] wide_fn wide_depth
attribute [local go_sem] wide_fn wide_depth

theorem stands_is {fold : Bool} {wss : List (List Int)} {text : List Int} {p k : Nat} {x : List Int} (hx : wss[k]? = some x) : stands fold wss text p k = atL fold text (p : Int) x := by
  unfold stands
  rw [hx, Option.getD_some]

abbrev StP := { p : Nat × Nat // p.1 ≤ 1000000 ∧ p.2 ≤ 1000000 }
def stEnc (p : StP) : Array Value := #[.int .i64 p.1.1, .int .i64 p.1.2]
/-- What the caller's rounds keep: blocks, and the two cells of the set. -/
def keepG (S : Nat → Prop) (g : Nat) (W W' : World) : Prop := keepOn S W W' ∧ W'.cell? ⟨g, 0, none⟩ = W.cell? ⟨g, 0, none⟩ ∧ W'.cell? ⟨g, 1, none⟩ = W.cell? ⟨g, 1, none⟩ ∧ W.heap.size ≤ W'.heap.size
theorem keepG_t {S : Nat → Prop} {g : Nat} {A B C : World} (h : keepG S g A B) (k : keepG S g B C) : keepG S g A C := ⟨keepOn_t h.1 k.1, k.2.1.trans h.2.1, k.2.2.1.trans h.2.2.1, Nat.le_trans h.2.2.2 k.2.2.2⟩
theorem keepG_b {S : Nat → Prop} {g : Nat} {w : World} (hb : ∀ k, S k → k < w.heap.size) (hg : g < w.heap.size) (W : World) (l : Nat) (o o' : Obj) (hl : w.heap.size ≤ l) (h1 : W.heap[l]? = some o) (h2 : o.isCells = false) (h3 : o.isWalk = false) : keepG S g W (W.putObj l o') :=
  ⟨keepOn_b hb W l o o' hl h1 h2 h3, World.cell?_of_block (World.putObj_heap_other (by show g ≠ l; omega)), World.cell?_of_block (World.putObj_heap_other (by show g ≠ l; omega)), by simp [World.putObj]⟩
theorem keepG_below {S : Nat → Prop} {g : Nat} {w w' : World} (h : Below w.heap.size w w') (hS : ∀ k, S k → k < w.heap.size) (hg : g < w.heap.size) : keepG S g w w' := ⟨keepOn_of_below h hS, h.cell (p := ⟨g, 0, none⟩) hg, h.cell (p := ⟨g, 1, none⟩) hg, h.size⟩

/-- Some places' words. -/
def rowTo (fold : Bool) (wss : List (List Int)) (text : List Int) (p j : Nat) : List (Nat × Nat) := ((List.range j).filter fun k => stands fold wss text p k).map fun k => (p, k)
theorem rowTo_succ (fold : Bool) (wss : List (List Int)) (text : List Int) (p j : Nat) : rowTo fold wss text p (j + 1) = if stands fold wss text p j then rowTo fold wss text p j ++ [(p, j)] else rowTo fold wss text p j := by
  unfold rowTo
  rw [List.range_succ, List.filter_append]
  cases e : stands fold wss text p j <;> simp [e]
theorem rawTo_succ (fold : Bool) (wss : List (List Int)) (text : List Int) (n : Nat) : rawTo fold wss text (n + 1) = rawTo fold wss text n ++ rowTo fold wss text n wss.length := by
  simp [rawTo, rowTo, List.range_succ]
theorem rowTo_length (fold : Bool) (wss : List (List Int)) (text : List Int) (p j : Nat) : (rowTo fold wss text p j).length ≤ j := by
  unfold rowTo
  rw [List.length_map]
  have := List.length_filter_le (fun k => stands fold wss text p k) (List.range j)
  simpa using this
theorem rawTo_length (fold : Bool) (wss : List (List Int)) (text : List Int) : ∀ n, (rawTo fold wss text n).length ≤ n * wss.length
  | 0 => by simp [rawTo]
  | n + 1 => by
    have h1 := rawTo_length fold wss text n
    have h2 := rowTo_length fold wss text n wss.length
    rw [rawTo_succ, List.length_append, Nat.add_mul]
    omega

theorem rowTo_pre (fold : Bool) (wss : List (List Int)) (text : List Int) (p j : Nat) : ∀ m, j ≤ m → rowTo fold wss text p j <+: rowTo fold wss text p m := by
  intro m
  induction m with
  | zero => intro h; rw [show j = 0 by omega]; exact List.prefix_refl _
  | succ m ih =>
    intro h
    by_cases e : j = m + 1
    · rw [e]; exact List.prefix_refl _
    · refine (ih (by omega)).trans ?_
      rw [rowTo_succ]
      split
      · exact List.prefix_append _ _
      · exact List.prefix_refl _
theorem rawTo_pre (fold : Bool) (wss : List (List Int)) (text : List Int) (n : Nat) : ∀ m, n ≤ m → rawTo fold wss text n <+: rawTo fold wss text m := by
  intro m
  induction m with
  | zero => intro h; rw [show n = 0 by omega]; exact List.prefix_refl _
  | succ m ih =>
    intro h
    by_cases e : n = m + 1
    · rw [e]; exact List.prefix_refl _
    · refine (ih (by omega)).trans ?_
      rw [rawTo_succ]
      exact List.prefix_append _ _
theorem rawTo_part {fold : Bool} {wss : List (List Int)} {text : List Int} {p j n : Nat} (hp : p < n) (hj : j ≤ wss.length) : rawTo fold wss text p ++ rowTo fold wss text p j <+: rawTo fold wss text n := by
  refine List.IsPrefix.trans ?_ (rawTo_pre fold wss text (p + 1) n hp)
  rw [rawTo_succ]
  exact (List.prefix_append_right_inj _).2 (rowTo_pre fold wss text p j _ hj)

end Go.Proofs.YtifcoalhkcflnaaGreat

/- Slices of cells, slices of hits; append of them (layer 6). -/




namespace Go.Proofs.YtifcoalhkcflnaaGreat
open Go.RowKit Go.Sort
set_option linter.unusedVariables false

/-- A slice whose elements have some cells each: what they hold. -/
def SlK (size : Nat) (w : World) (a : Option Addr) (len : Nat) (cs : List Value) : Prop :=
  cs.length = len * size ∧ (len = 0 ∨ ∃ b off, a = some ⟨b, off, none⟩ ∧ b < w.heap.size ∧ ∀ (i : Nat) (u : Value), cs[i]? = some u → w.cell? ⟨b, off + i, none⟩ = some u)
theorem SlK.below {size : Nat} {w w' : World} {a : Option Addr} {len : Nat} {cs : List Value} (h : SlK size w a len cs) (hb : Below w.heap.size w w') : SlK size w' a len cs := by
  obtain ⟨h1, h2 | ⟨b, off, e, hlt, hc⟩⟩ := h
  · exact ⟨h1, .inl h2⟩
  · exact ⟨h1, .inr ⟨b, off, e, Nat.lt_of_lt_of_le hlt hb.size, fun i u hu => (hb.cell (p := ⟨b, off + i, none⟩) hlt).trans (hc i u hu)⟩⟩
theorem SlK.kept {size : Nat} {w w' : World} {a : Option Addr} {len : Nat} {cs : List Value} (h : SlK size w a len cs) (hk : kept w w') (hs : w.heap.size ≤ w'.heap.size) : SlK size w' a len cs := by
  obtain ⟨h1, h2 | ⟨b, off, e, hlt, hc⟩⟩ := h
  · exact ⟨h1, .inl h2⟩
  · exact ⟨h1, .inr ⟨b, off, e, Nat.lt_of_lt_of_le hlt hs, fun i u hu => (kept_cell hk (p := ⟨b, off + i, none⟩) hlt).trans (hc i u hu)⟩⟩
theorem SlK.news {size : Nat} {w : World} {ad : Addr} {m : Nat} {cs : List Value} (h : SlK size w (some ad) m cs) : ∀ j u, cs[j]? = some u → w.cell? (ad.add j) = some u := by
  intro j u hu
  obtain ⟨h1, h2⟩ := h
  have hj := (List.getElem?_eq_some_iff.1 hu).1
  have h0 : m ≠ 0 := by
    intro e
    subst e
    rw [h1, Nat.zero_mul] at hj
    omega
  obtain ⟨b, off, e, hlt, hc⟩ := h2.resolve_left h0
  obtain rfl := Option.some.inj e
  rw [add_plain]
  exact hc j u hu
theorem SlK.own {size base n : Nat} {w : World} {e : TypeId} {v : Value} {cs : List Value} (h : w.ownsRow base e size v n cs) : ∃ a c, v = .slice a n c ∧ n ≤ c ∧ SlK size w a n cs := by
  have hl := h.1
  rcases h.2 with ⟨rfl, rfl⟩ | ⟨g, cap, cur, rfl, hg, hh, hn, _, _, hc⟩
  · exact ⟨none, 0, rfl, Nat.le_refl _, hl, .inl rfl⟩
  · refine ⟨_, cap, rfl, hn, hl, .inr ⟨g, 0, rfl, (Array.getElem?_eq_some_iff.1 hh).1, fun i x hx => ?_⟩⟩
    have := h.cells (g := g) rfl i x hx
    rwa [add_plain] at this

theorem run_append_slK {P : Program} (w : World) (base : Nat) (t ty e : TypeId) (i : TypeInfo) (z : Value) (size bytes : Nat) (ht : P.underlying t = some (.slice e)) (hi : P.info? e = some i) (hz : i.zero = some z)
    (hsize : i.size = size) (hby : i.bytes = bytes) (hzs : z.cells.size = size) (hsz : 0 < size) (v : Value) (n : Nat) (xs : List Value) (hown : w.ownsRow base e size v n xs)
    (A : Option Addr) (m c : Nat) (cs : List Value) (hs : SlK size w A m cs) (hone : ∀ u ∈ cs, u.oneCell' = true) (h63 : n + m ≤ maxLen) (hbytes : (n + m) * bytes ≤ 140737488355328) (hbase : base ≤ w.heap.size) :
    ∃ v' w', (Builtin.append_ #[t, t] ty #[v, .slice A m c]).run P w = .ok v' w' ∧ w'.ownsRow base e size v' (n + m) (xs ++ cs) ∧ w.grownBy w' v.ownBlock ∧
      (v'.ownBlock = v.ownBlock ∨ v'.ownBlock = some w.heap.size) := by
  cases A with
  | some ad =>
    obtain ⟨v', w', hr, h2, h3, _, h5⟩ := run_append_own_at (P := P) w base t ty e i z size bytes ht hi hz hsize hby hzs hsz v n xs hown ad m c cs hs.1 hs.news hone h63 hbytes hbase
    exact ⟨v', w', hr, h2, h3, h5⟩
  | none =>
    have hm : m = 0 := hs.2.elim id fun ⟨b, off, e, _⟩ => by cases e
    subst hm
    have hy : cs = [] := List.eq_nil_of_length_eq_zero (by rw [hs.1, Nat.zero_mul])
    subst hy
    refine ⟨v, w, ?_, by simpa using hown, World.grownBy.refl w _, .inl rfl⟩
    rcases hown.2 with ⟨rfl, rfl⟩ | ⟨g, cap, cur, rfl, _, _, hnc, _⟩
    · simp [Builtin.append_, run_underlying ht, sizeOf, typeInfo, hi, Builtin.lenOf, Builtin.firstCells]
    · simp [Builtin.append_, run_underlying ht, sizeOf, typeInfo, hi, Builtin.lenOf, Builtin.firstCells, hnc, storeCells]

theorem wpList_append_slK {P : Program} {w : World} {ops : Array Oper} {rest : List Oper} {o : Oper} {a : Act} {Q : Exit → Act → World → Prop} (hgd : o.guard = none) (s x : Operand) (t : TypeId)
    (ho : o.op = .call { callee := .builtin .append, args := #[s, x], argTypes := #[t, t] })
    (base : Nat) (e : TypeId) (i : TypeInfo) (z : Value) (size bytes : Nat) (ht : P.underlying t = some (.slice e)) (hi : P.info? e = some i) (hz : i.zero = some z) (hsize : i.size = size) (hby : i.bytes = bytes) (hzs : z.cells.size = size) (hsz : 0 < size)
    (v : Value) (n : Nat) (xs : List Value) (hs : a.eval s = v) (hown : w.ownsRow base e size v n xs) (A : Option Addr) (m c : Nat) (cs : List Value) (hx : a.eval x = .slice A m c) (hsl : SlK size w A m cs) (hone : ∀ u ∈ cs, u.oneCell' = true)
    (h63 : n + m ≤ maxLen) (hbytes : (n + m) * bytes ≤ 140737488355328) (hbase : base ≤ w.heap.size)
    (h : ∀ v' w', w'.ownsRow base e size v' (n + m) (xs ++ cs) → w.grownBy w' v.ownBlock → (v'.ownBlock = v.ownBlock ∨ v'.ownBlock = some w.heap.size) → wpList P ops Q rest (a.put o.dst v') w') : wpList P ops Q (o :: rest) a w := by
  refine wpList_plain hgd fun K hK => ?_
  obtain ⟨v', w', hr, h2, h3, h4⟩ := run_append_slK (P := P) w base t o.type e i z size bytes ht hi hz hsize hby hzs hsz v n xs hown A m c cs hsl hone h63 hbytes hbase
  unfold Oper.wp execOp
  simp only [ho, resolve, invoke, builtin, Sem.run_bind, Sem.run_pure, Result.andThen_ok, List.map_toArray, List.map_cons, List.map_nil, hs, hx, hr]
  exact hK _ _ (h v' w' h2 h3 h4)

theorem wpListIn_append_slK {F : Fence} {k : Nat} {P : Program} (w : World) {ops : Array Oper} {rest : List Oper} {o : Oper} {a : Act} {Q : Exit → Act → World → Prop} (hgd : o.guard = none) (s x : Operand) (t : TypeId)
    (hop : o.op = .call { callee := .builtin .append, args := #[s, x], argTypes := #[t, t] })
    (base : Nat) (e : TypeId) (i : TypeInfo) (z : Value) (size bytes : Nat) (ht : P.underlying t = some (.slice e)) (hi : P.info? e = some i) (hz : i.zero = some z) (hsize : i.size = size) (hby : i.bytes = bytes) (hzs : z.cells.size = size) (hsz : 0 < size)
    (v : Value) (n : Nat) (xs : List Value) (hs : a.eval s = v) (hown : w.ownsRow base e size v n xs) (A : Option Addr) (m c : Nat) (cs : List Value) (hx : a.eval x = .slice A m c) (hsl : SlK size w A m cs) (hone : ∀ u ∈ cs, u.oneCell' = true)
    (h63 : n + m ≤ maxLen) (hbytes : (n + m) * bytes ≤ 140737488355328) (hbase : base ≤ w.heap.size)
    (h : ∀ v' w', w'.ownsRow base e size v' (n + m) (xs ++ cs) → w.grownBy w' v.ownBlock → (v'.ownBlock = v.ownBlock ∨ v'.ownBlock = some w.heap.size) → wpListIn F k P ops Q rest (a.put o.dst v') w') : wpListIn F k P ops Q (o :: rest) a w := by
  refine wpListIn_plain hgd fun K hK' => ?_
  obtain ⟨v', w', hrun, r1, r2, r3⟩ := run_append_slK (P := P) w base t o.type e i z size bytes ht hi hz hsize hby hzs hsz v n xs hown A m c cs hsl hone h63 hbytes hbase
  unfold Oper.wpIn
  refine ⟨?_, ?_⟩
  · simp [Oper.about, hop, resolve, Target.leads, Sem.run_pure]
  · rw [Oper.semAt_plain F _ _ (by rw [hop]; intro c hc'; cases hc')]
    simp [execOp, hop, resolve, invoke, builtin, hs, hx, hrun, Result.andThen]
    exact hK' _ _ (h v' w' r1 r2 r3)

/-! ### hits -/
def I64 (n : Int) : Prop := -9223372036854775808 ≤ n ∧ n ≤ 9223372036854775807
def hitE (h : HitP) : List Value := [.int .i64 h.1, .int .i64 h.2]
abbrev hitV (h : HitP) : Value := .agg #[.int .i64 h.1, .int .i64 h.2]
def hcells (l : List HitP) : List Value := l.flatMap hitE
theorem hcells_snoc (l : List HitP) (h : HitP) : hcells (l ++ [h]) = hcells l ++ [.int .i64 h.1, .int .i64 h.2] := by simp [hcells, hitE]
theorem hcells_append (l m : List HitP) : hcells (l ++ m) = hcells l ++ hcells m := by simp [hcells]
theorem hcells_length : ∀ (l : List HitP), (hcells l).length = l.length * 2
  | [] => rfl
  | h :: l => by
    have := hcells_length l
    simp only [hcells, hitE, List.flatMap_cons, List.length_append, List.length_cons, List.length_nil] at this ⊢
    omega
theorem hcells_at : ∀ {l : List HitP} {i : Nat} {h : HitP}, l[i]? = some h → (hcells l)[i * 2]? = some (.int .i64 h.1) ∧ (hcells l)[i * 2 + 1]? = some (.int .i64 h.2)
  | [], i, h, e => by simp at e
  | x :: l, 0, h, e => by
    simp at e
    subst e
    exact ⟨rfl, rfl⟩
  | x :: l, i + 1, h, e => by
    have ih := hcells_at (l := l) (i := i) (h := h) (by simpa using e)
    have hc : hcells (x :: l) = .int .i64 x.1 :: .int .i64 x.2 :: hcells l := rfl
    rw [hc, show (i + 1) * 2 = i * 2 + 1 + 1 by omega, show i * 2 + 1 + 1 + 1 = (i * 2 + 1) + 1 + 1 by omega]
    simpa using ih
theorem hcells_one (l : List HitP) : ∀ u ∈ hcells l, u.oneCell' = true := by
  intro u hu
  simp only [hcells, List.mem_flatMap, hitE] at hu
  obtain ⟨h, _, hu⟩ := hu
  simp at hu
  rcases hu with rfl | rfl <;> rfl

def Hts (w : World) (a : Option Addr) (len : Nat) (l : List HitP) : Prop := SlK 2 w a len (hcells l) ∧ ∀ h ∈ l, I64 h.1 ∧ I64 h.2
theorem Hts.below {w w' : World} {a : Option Addr} {len : Nat} {l : List HitP} (h : Hts w a len l) (hb : Below w.heap.size w w') : Hts w' a len l := ⟨h.1.below hb, h.2⟩
theorem Hts.len {w : World} {a : Option Addr} {len : Nat} {l : List HitP} (h : Hts w a len l) : l.length = len := by
  have := h.1.1
  rw [hcells_length] at this
  omega
theorem Hts.at_ {w : World} {a : Option Addr} {len : Nat} {l : List HitP} (h : Hts w a len l) {k : Nat} (hk : k < len) :
    ∃ b off x, a = some ⟨b, off, none⟩ ∧ b < w.heap.size ∧ w.cell? ⟨b, off + k * 2, none⟩ = some (.int .i64 x.1) ∧ w.cell? ⟨b, off + k * 2 + 1, none⟩ = some (.int .i64 x.2) ∧ l[k]? = some x ∧ I64 x.1 ∧ I64 x.2 := by
  have hl := h.len
  obtain ⟨b, off, e, hlt, hc⟩ := h.1.2.resolve_left (by omega)
  obtain ⟨x, hx⟩ : ∃ x, l[k]? = some x := ⟨l[k]'(by omega), by simp⟩
  obtain ⟨c0, c1⟩ := hcells_at hx
  exact ⟨b, off, x, e, hlt, hc _ _ c0, by rw [Nat.add_assoc]; exact hc _ _ c1, hx, (h.2 x (List.mem_of_getElem? hx)).1, (h.2 x (List.mem_of_getElem? hx)).2⟩
theorem Hts.cut {w : World} {a : Option Addr} {n : Nat} {l : List HitP} (h : Hts w a n l) {lo m : Nat} (hm : lo + m ≤ n) : Hts w (a.map (·.add (lo * 2))) m ((l.drop lo).take m) := by
  have hl := h.len
  refine ⟨⟨by rw [hcells_length]; simp; omega, ?_⟩, fun x hx => h.2 x (List.mem_of_mem_drop (List.mem_of_mem_take hx))⟩
  by_cases h0 : m = 0
  · exact .inl h0
  · right
    obtain ⟨b, off, rfl, hlt, hcell⟩ := h.1.2.resolve_left (by omega)
    refine ⟨b, off + lo * 2, by simp [add_plain], hlt, fun i u hu => ?_⟩
    have hi := (List.getElem?_eq_some_iff.1 hu).1
    rw [hcells_length] at hi
    simp at hi
    rw [Nat.add_assoc]
    refine hcell _ u ?_
    have e1 : hcells l = hcells (l.take lo) ++ (hcells ((l.drop lo).take m) ++ hcells ((l.drop lo).drop m)) := by
      rw [← hcells_append, ← hcells_append, List.take_append_drop, List.take_append_drop]
    rw [e1, List.getElem?_append_right (by rw [hcells_length]; simp; omega), hcells_length, List.length_take, Nat.min_eq_left (by omega), Nat.add_sub_cancel_left, List.getElem?_append_left (by rw [hcells_length]; simp; omega)]
    exact hu
theorem Hts.cut0 {w : World} {a : Option Addr} {l : List HitP} {lo m : Nat} (hm : m = 0) (hb : ∀ h ∈ l, I64 h.1 ∧ I64 h.2) : Hts w a m ((l.drop lo).take m) := by
  subst hm
  exact ⟨⟨rfl, .inl rfl⟩, fun x hx => by simp at hx⟩

end Go.Proofs.YtifcoalhkcflnaaGreat

/- Nodes' words (layer 9): is, Next, Chain, walked. -/


namespace Go.Proofs.YtifcoalhkcflnaaGreat
open Go.RowKit Go.Sort
set_option linter.unusedVariables false
set_option linter.unusedSimpArgs false
attribute [local go_sem] Oper.semAt_some
attribute [local simp] wide_fn wide_depth
attribute [local go_sem] wide_fn wide_depth

/-- A box that holds a row of numbers of the call's own, which lies in none of some blocks. -/
def HoldsX (b base : Nat) (ps : Nat → Prop) (l : List Int) (W : World) : Prop := ∃ v, Boxed W b 25 v ∧ OwnI W base v l ∧ ∀ k, ps k → v.ownBlock ≠ some k
theorem holdsX_own {α : Type} {B b base : Nat} {ps : Nat → Prop} (f : α → List Int) : OwnFrom B (fun s W => HoldsX b base ps (f s) W) := by
  rintro s W W' row ⟨v, hv, ho, hp⟩ hg hr
  have far : ∀ {k : Nat} {cs : Array Value} {t : TypeId}, W.heap[k]? = some (.cells cs t (0, 0)) → row ≠ some k := fun {k cs t} hk e => by
    obtain ⟨_, o, h1, h2⟩ := hr k e
    rw [hk] at h1; cases h1; cases h2
  refine ⟨v, (hg.block b hv.lt (fun e => far hv e.symm)).trans hv, ho.kept hg ?_, hp⟩
  rcases ho.2 with ⟨rfl, _⟩ | ⟨g, cap, cur, rfl, hg0, hgb, _⟩
  · exact .inl rfl
  · refine .inr fun e => ?_
    have e' : row = some g := by rw [← e]; rfl
    exact far hgb e'
theorem slk_new (W : World) (z : Int) : SlK 1 (W.alloc (.cells #[.int .i64 z] 3)) (some ⟨W.heap.size, 0, none⟩) 1 [.int .i64 z] :=
  ⟨rfl, .inr ⟨_, _, rfl, by simp, fun i u hu => by
    have := cells_new (w := W) #[.int .i64 z] 3 rfl i u (by simpa using hu)
    rwa [add_plain] at this⟩⟩
theorem HoldsX.app {W w6 : World} {b base : Nat} {ps : Nat → Prop} {l : List Int} {z : Int} {v v' : Value} {tmp : Obj} (hv : Boxed W b 25 v) (hown : OwnI W base v l) (hps : ∀ k, ps k → v.ownBlock ≠ some k) (hpl : ∀ k, ps k → k < W.heap.size) (hb : b < base) (hbW : base ≤ W.heap.size)
    (hown' : w6.ownsRow base 3 1 v' (l.length + 1) (l.map (Value.int .i64) ++ [.int .i64 z])) (hgrow : (W.alloc tmp).grownBy w6 v.ownBlock) (hat : v'.ownBlock = v.ownBlock ∨ v'.ownBlock = some (W.alloc tmp).heap.size) :
    Boxed w6 b 25 v ∧ HoldsX b base ps (l ++ [z]) (w6.setCell ⟨b, 0, none⟩ v') ∧ KeepsOthers W (w6.setCell ⟨b, 0, none⟩ v') ∧ (∀ k, k < W.heap.size → k ≠ b → v.ownBlock ≠ some k → (w6.setCell ⟨b, 0, none⟩ v').heap[k]? = W.heap[k]?) ∧ Below b W (w6.setCell ⟨b, 0, none⟩ v') := by
  have hte : 25 ≠ 3 := of_decide_eq_true (by kernel_rfl)
  have hv1 : Boxed w6 b 25 v := (hv.alloc tmp).kept hgrow (hv.not_row hte hown)
  have hlt := hv.lt
  refine ⟨hv1, ⟨v', hv1.set v', ?_, fun k hk => ?_⟩, ?_, fun k hk hkb hkv => ?_, ?_⟩
  · have := World.ownsRow.kept hown' (grownBy_setCell' w6 b v') (.inr (hv1.not_row hte hown').symm)
    unfold OwnI
    rw [List.length_append, List.map_append]
    exact this
  · rcases hat with e | e
    · rw [e]; exact hps k hk
    · rw [e]
      intro h
      injection h with h
      have := hpl k hk
      simp at h
      omega
  · refine ((KeepsOthers.alloc W tmp).trans (KeepsOthers.of_grownBy hgrow fun j o ej hj => ?_)).trans (KeepsOthers.setCell _ _ _)
    rcases (World.ownsRow.alloc hown tmp).2 with ⟨rfl, _⟩ | ⟨g, cap, cur, rfl, _, hgb, _⟩
    · simp [Value.ownBlock] at ej
    · obtain rfl : g = j := by simpa [Value.ownBlock] using ej
      rw [hgb] at hj; cases hj; rfl
  · exact (Below.heap_setCell _ _ _ _ (by show k ≠ b; exact hkb)).trans ((hgrow.block k (by simp; omega) (fun e => hkv e.symm)).trans (Below.heap_alloc _ _ _ hk))
  · refine (((Below.refl b W).alloc (by omega) tmp).grown hgrow (by simp; omega) fun j ej => ?_).setCell (p := ⟨b, 0, none⟩) (Nat.le_refl _) v'
    have := (row_lt hown j ej).1
    omega

set_option maxHeartbeats 2000000 in
theorem is9_any (base g : Nat) (t : TV) (ws : List (List Int)) (node : Int) (w : World) (h : AlAt w base g t ws) :
    Calls Tryz.prog 78 #[.pointer (some ⟨g, 0, none⟩), .int .i64 node] w fun e w' => e = .returned (.bool (decide (0 ≤ node ∧ node < (nodesL ws).length))) ∧ w = w' := by
  obtain ⟨q, h1, _⟩ := h.ex
  have c5 : w.cell? ⟨g, 4, none⟩ = some (.slice (some ⟨q, 0, none⟩) (nodesL ws).length (nodesL ws).length) := by simp [World.cell?, h1]
  generalize (nodesL ws).length = n at c5 ⊢
  clear h1 h
  by_cases h0 : 0 ≤ node
  · have hd : decide ((0 : Int) ≤ node) = true := by simpa using h0
    obtain ⟨B, hB⟩ : ∃ B, decide (node < (n : Int)) = B := ⟨_, rfl⟩
    have HF : Hid (decide (0 ≤ node ∧ node < (n : Int)) = B) := by rw [Hid, ← hB]; simp [h0]
    clear h0
    have HR : ∀ (r : Ending) (w' : World), r = .returned (.bool B) ∧ w = w' → r = .returned (.bool (decide (0 ≤ node ∧ node < (n : Int)))) ∧ w = w' := fun r w' h => by rw [HF.out]; exact h
    refine Calls.mono ?_ HR
    clear HR HF
    go_enter Tryz.func78, Tryz.ntmps78
    go_wp2
    go_ret
    exact ⟨rfl, rfl⟩
  · have hd : decide ((0 : Int) ≤ node) = false := by simpa using h0
    have HF : Hid (decide (0 ≤ node ∧ node < (n : Int)) = false) := by simp [Hid]; omega
    have HR : ∀ (r : Ending) (w' : World), r = .returned (.bool false) ∧ w = w' → r = .returned (.bool (decide (0 ≤ node ∧ node < (n : Int)))) ∧ w = w' := fun r w' h => by rw [HF.out]; exact h
    refine Calls.mono ?_ HR
    clear HR HF
    go_enter Tryz.func78, Tryz.ntmps78
    go_wp2
    go_ret
    exact ⟨rfl, rfl⟩

theorem next9_no (t : TV) (T : TrieT) (w : World) (hT : Tri w t T) (hb : t.un ≤ 140737488351232) (hr : readP T = none) :
    Calls Tryz.prog 41 #[.agg t.cells] w fun e w' => e = .returned (.tuple #[.slice none 0 0, .int .i64 2]) ∧ Below w.heap.size w w' := by
  obtain ⟨ua, un, uc, da, dn, dc, xa, xn, xc, ba, bn, bc⟩ := t
  have hB := below_alloc w (.cells #[.slice ua un uc, .slice da dn dc, .slice xa xn xc, .slice ba bn bc] 28)
  have HC := Lib.hid (read9_no _ T _ (hT.below hB) hb hr)
  clear hT hr
  go_enter Tryz.func41, Tryz.ntmps41
  go_wp2_with fail
  refine HC.out.mono ?_
  rintro e w1 ⟨rfl, hb1⟩
  go_wp2
  go_ret2
  exact ⟨rfl, hB.trans (hb1.mono hB.size)⟩
theorem next9_yes (t : TV) (T : TrieT) (sp ws : List (List Int)) (w : World) (hT : Tri w t T) (hb : t.un ≤ 140737488351232) (hr : readP T = some (sp, ws)) :
    Calls Tryz.prog 41 #[.agg t.cells] w fun e w' => ∃ q, e = .returned (.tuple #[.slice (some ⟨q, 0, none⟩) (nodesL ws).length (nodesL ws).length, .int .i64 0]) ∧ IntRow q (nextsP ws) w' ∧ w.heap.size ≤ q ∧ Below w.heap.size w w' := by
  obtain ⟨ua, un, uc, da, dn, dc, xa, xn, xc, ba, bn, bc⟩ := t
  have hB := below_alloc w (.cells #[.slice ua un uc, .slice da dn dc, .slice xa xn xc, .slice ba bn bc] 28)
  have HC := Lib.hid (read9_yes _ T sp ws _ (hT.below hB) hb hr)
  clear hT hr
  go_enter Tryz.func41, Tryz.ntmps41
  go_wp2_with fail
  refine HC.out.mono ?_
  rintro e w1 ⟨g, rfl, hLk, hb1⟩
  obtain ⟨q, h1, h3, h6, h7⟩ := hLk.ex
  have c5 : w1.cell? ⟨g, 4, none⟩ = some (.slice (some ⟨q, 0, none⟩) (nodesL ws).length (nodesL ws).length) := by simp [World.cell?, h1]
  simp only [World.size_alloc] at h7
  clear h1
  go_wp2
  go_ret2
  exact ⟨q, rfl, h3, by omega, hB.trans (hb1.mono hB.size)⟩

end Go.Proofs.YtifcoalhkcflnaaGreat
