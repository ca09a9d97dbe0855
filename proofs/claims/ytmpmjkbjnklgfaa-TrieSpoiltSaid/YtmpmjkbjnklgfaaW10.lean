/- Parts of the proof, one behind the other: O7, JH, O8. No condition but what each theorem states. -/
import Derived.Lib.SlBytesConst
import Derived.Test.YtmpmjkbjnklgfaaW7
import Derived.Test.YtmpmjkbjnklgfaaW9

/- All hits of a text (layer 6), walked, over the sort of hits. -/

namespace Go.Proofs.Ytmpmjkbjnklgfaa
open Go.RowKit Go.Sort
set_option linter.unusedVariables false
attribute [local go_sem] Oper.semAt_some
attribute [local simp] wide_fn wide_depth
attribute [local go_sem] wide_fn wide_depth

/-- The sort of so many hits by a method that compares. -/
def SortOK (n : Nat) : Prop := ∀ (cf : FuncId) (rv : Value) (ord : HitP → HitP → Int) (S : HitP → Prop) (C : World → Prop) (g cap cc : Nat) (l : List HitP) (w : World), CmpB cf rv ord S C g →
    (∀ a b, ord a b < 0 → 0 ≤ ord b a) → (∀ a b d, 0 ≤ ord a b → 0 ≤ ord b d → 0 ≤ ord a d) → (∀ h ∈ l, S h) → l.length = n → C w → RowAt w g cap l →
    Calls Try.prog 72 #[.slice (some ⟨g, 0, none⟩) n cc, .func (.func cf) #[rv] #[]] w fun e w' => e = .returned (.tuple #[]) ∧
      ∃ l' : List HitP, l'.Perm l ∧ SrtTo (fun a b => ord a b < 0) l' n ∧ RowAt w' g cap l' ∧ C w' ∧ w.grownBy w' (some g)
theorem sortOK_small (n : Nat) (h : n ≤ 12) : SortOK n := fun cf rv ord S C g cap cc l w hB ha hn hl hln hC hR =>
  sortSmall_any _ n cc _ w h (insSort_any cf rv ord S C g n cap cc l w hB ha hn hl hln (by omega) hC hR)

theorem OwnH.row {w : World} {base g n cap : Nat} {l : List HitP} (h : OwnH w base (.slice (some ⟨g, 0, none⟩) n cap) l) : RowAt w g cap l ∧ base ≤ g ∧ cap ≤ maxLen ∧ n = l.length := by
  rcases h.2 with ⟨e, _⟩ | ⟨g', cap', cur, e, hg, hh, hn, hm, hs, hc⟩
  · cases e
  · injection e with e1 e2 e3
    injection e1 with e1
    injection e1 with e1
    subst e1 e3
    refine ⟨⟨cur, hh, hs, hn, fun k hk => ?_⟩, hg, hm, e2⟩
    have hx : l[k]? = some (nth l k) := by unfold nth; rw [List.getD_eq_getElem?_getD, List.getElem?_eq_getElem hk, Option.getD_some]
    obtain ⟨c0, c1⟩ := hcells_at hx
    rw [← hc, List.getElem?_take] at c0 c1
    rw [if_pos (by omega)] at c0 c1
    exact ⟨by simpa using c0, by simpa using c1⟩
theorem RowAt.own {w : World} {base g cap : Nat} {l : List HitP} (h : RowAt w g cap l) (hb : base ≤ g) (hm : cap ≤ maxLen) : OwnH w base (.slice (some ⟨g, 0, none⟩) l.length cap) l := by
  obtain ⟨cur, h1, h2, h3, h4⟩ := h
  refine ⟨hcells_length l, .inr ⟨g, cap, cur, rfl, hb, h1, h3, hm, h2, ?_⟩⟩
  apply List.ext_getElem?
  intro i
  by_cases hi : i < l.length * 2
  · rw [List.getElem?_take, if_pos hi]
    obtain ⟨q, hq⟩ : ∃ q, i = q * 2 ∨ i = q * 2 + 1 := ⟨i / 2, by omega⟩
    have hk : q < l.length := by omega
    obtain ⟨c0, c1⟩ := h4 q hk
    have hx : l[q]? = some (nth l q) := by unfold nth; rw [List.getD_eq_getElem?_getD, List.getElem?_eq_getElem hk, Option.getD_some]
    obtain ⟨d0, d1⟩ := hcells_at hx
    rcases hq with rfl | rfl
    · rw [d0]
      simpa using c0
    · rw [d1]
      simpa using c1
  · rw [List.getElem?_eq_none (by rw [List.length_take]; omega), List.getElem?_eq_none (by rw [hcells_length]; omega)]

def toHit (frm : Int) (q : Nat × Nat) : HitP := (frm + (q.1 : Int), (q.2 : Int))
theorem gath_own {β : Type} (n₀ B : Nat) (fold : Bool) (a : Option Addr) (la ca : Nat) (frm : Int) (f : β → List HitP) :
    Own (fun s W => ∃ v, W.heap[B]? = some (.cells (gathV fold a la ca frm v) 94 (0, 0)) ∧ OwnH W n₀ v (f s)) := by
  rintro s X Y row ⟨v, hv, hr⟩ hg hrow
  refine ⟨v, (hg.block _ (Array.getElem?_eq_some_iff.1 hv).1 (fun e' => ?_)).trans hv, hr.kept hg ?_⟩
  · obtain ⟨o, ho, hc⟩ := hrow B e'.symm
    rw [hv] at ho; cases ho; cases hc
  · rcases hr.2 with ⟨rfl, _⟩ | ⟨g, cap, cur, rfl, _, hgb, _⟩
    · exact .inl rfl
    · refine .inr fun e' => ?_
      obtain ⟨o, ho, hc⟩ := hrow g (by simpa [Value.ownBlock] using e'.symm)
      rw [hgb] at ho; cases ho; cases hc

set_option maxHeartbeats 1000000 in
theorem occ_no (fold : Bool) (a b : Option Addr) (la ca lb cb : Nat) (frm : Int) (text : List Int) (wss : List (List Int)) (w : World) (hA : Wds w a la wss) (hla : la ≤ 1000000) (hM : ∀ x ∈ wss, x.length ≤ 1000000) (hT : (begL fold wss).length ≤ 1000000) (hm : mayP fold wss frm = false) :
    Calls Try.prog 28 #[.agg (setV fold a la ca), .int .i64 frm, .slice b lb cb] w fun e w' => e = .returned (.tuple #[.slice none 0 0, .int .i64 2]) ∧ Below w.heap.size w w' := by
  have hB0 : Below w.heap.size w (w.alloc (.cells (setV fold a la ca) 39)) := (Below.refl _ _).alloc (Nat.le_refl _) _
  refine calls_of_wp_M Try.func28 rfl ?_
  simp only [Try.ntmps28, List.size_toArray, List.length_cons, List.length_nil, Nat.reduceAdd, Nat.reduceSub, Array.replicate_succ, Array.replicate_zero, List.push_toArray, List.append_toArray, List.nil_append, List.cons_append]
  have HM := Lib.hid hm
  clear hm
  go_wp2_with fail
  refine (may_any fold a la ca frm wss _ (hA.below hB0) hla hM hT).mono ?_
  rintro e w1 ⟨rfl, hb⟩
  rw [HM.out]
  go_wp2
  exact endN rfl (results_tmp2 rfl _ _ _) ⟨rfl, hB0.trans (hb.mono (by simp))⟩

theorem ordH_asym {wss : List (List Int)} {a b : HitP} (h : ordH wss a b < 0) : 0 ≤ ordH wss b a := by
  have h1 : lessH wss a b = true := decide_eq_true h
  have h2 := lessH_asymm h1
  exact Int.not_lt.1 (of_decide_eq_false h2)
theorem ordH_ntrans {wss : List (List Int)} {a b d : HitP} (h1 : 0 ≤ ordH wss a b) (h2 : 0 ≤ ordH wss b d) : 0 ≤ ordH wss a d := by
  have g1 : lessH wss a b = false := decide_eq_false (Int.not_lt.2 h1)
  have g2 : lessH wss b d = false := decide_eq_false (Int.not_lt.2 h2)
  exact Int.not_lt.1 (of_decide_eq_false (lessH_ntrans g1 g2))
theorem gath_cmp {w0 : World} {a : Option Addr} {la ca gb g : Nat} {wss : List (List Int)} (hA : Wds w0 a la wss) (hla : la ≤ 1000000) (hg : w0.heap.size ≤ g) (hne : gb ≠ g) :
    CmpB 73 (.pointer (some ⟨gb, 0, none⟩)) (ordH wss) (fun _ => True) (fun V => Below w0.heap.size w0 V ∧ V.cell? ⟨gb, 1, none⟩ = some (.slice a la ca) ∧ gb < V.heap.size) g where
  enters := fun args w => enters_of Try.func73 (by kernel_rfl) rfl args w
  below := fun W W' ⟨h1, h2, h3⟩ hb => ⟨h1.trans (hb.mono h1.size), (hb.cell (p := ⟨gb, 1, none⟩) h3).trans h2, Nat.lt_of_lt_of_le h3 hb.size⟩
  store := fun W i v ⟨h1, h2, h3⟩ => ⟨h1.setCell (by exact hg) v, (World.cell?_of_block (Below.heap_setCell W ⟨g, i, none⟩ v gb hne)).trans h2, by simpa using h3⟩
  calls := fun x y W _ _ ⟨h1, h2, h3⟩ => orderB_any gb x y a la ca wss W h3 h2 (hA.below h1) hla
theorem rowTo_nodup (fold : Bool) (wss : List (List Int)) (text : List Int) (p j : Nat) : (rowTo fold wss text p j).Nodup := by
  unfold rowTo
  rw [List.nodup_iff_pairwise_ne, List.pairwise_map]
  refine ((List.nodup_range (n := j)).filter _).imp fun h e => h ?_
  simpa using e
theorem rawTo_nodup (fold : Bool) (wss : List (List Int)) (text : List Int) : ∀ n, (rawTo fold wss text n).Nodup
  | 0 => by simp [rawTo]
  | n + 1 => by
    rw [rawTo_succ, List.nodup_append]
    refine ⟨rawTo_nodup fold wss text n, rowTo_nodup _ _ _ _ _, fun x hx y hy e => ?_⟩
    subst e
    have h1 := (mem_rawTo.1 hx).1
    unfold rowTo at hy
    rw [List.mem_map] at hy
    obtain ⟨k, _, rfl⟩ := hy
    simp at h1
theorem occ_sorted {fold : Bool} {wss : List (List Int)} {frm : Int} {text : List Int} {l : List HitP} (h1 : l.Perm ((rawTo fold wss text (text.length + 1)).map (toHit frm))) (h2 : SrtTo (fun a b => ordH wss a b < 0) l l.length) : l = occD fold wss frm text := by
  refine occ_unique h1 ?_
  have hnd : l.Nodup := by
    rw [h1.nodup_iff, List.nodup_iff_pairwise_ne, List.pairwise_map]
    refine (rawTo_nodup fold wss text _).imp fun h e => h ?_
    unfold toHit at e
    simp only [Prod.mk.injEq] at e
    exact Prod.ext (by omega) (by omega)
  rw [List.pairwise_iff_getElem]
  intro i j hi hj hij
  have hs := h2 i j hij hj
  have hni : nth l i = l[i] := by unfold nth; rw [List.getD_eq_getElem?_getD, List.getElem?_eq_getElem hi, Option.getD_some]
  have hnj : nth l j = l[j] := by unfold nth; rw [List.getD_eq_getElem?_getD, List.getElem?_eq_getElem hj, Option.getD_some]
  rw [hni, hnj] at hs
  cases e : lessH wss l[i] l[j] with
  | true => rfl
  | false =>
    exfalso
    have := lessH_total e (decide_eq_false hs)
    have := (List.getElem_inj hnd).1 this
    omega

set_option maxRecDepth 100000 in
set_option maxHeartbeats 4000000 in
theorem occ_yes (fold : Bool) (a b : Option Addr) (la ca lb cb : Nat) (frm : Int) (text : List Int) (wss : List (List Int)) (w : World) (hA : Wds w a la wss) (hL : Bys w b lb text) (hla : la ≤ 1000) (hlb : lb ≤ 1000000) (hcb : lb ≤ cb) (hM : ∀ x ∈ wss, x.length ≤ 1000000) (hT : (begL fold wss).length ≤ 1000000) (hm : mayP fold wss frm = true)
    (hS : SortOK (rawTo fold wss text (lb + 1)).length) :
    Calls Try.prog 28 #[.agg (setV fold a la ca), .int .i64 frm, .slice b lb cb] w fun e w' => ∃ v, e = .returned (.tuple #[v, .int .i64 0]) ∧ OwnH w' w.heap.size v (occD fold wss frm text) ∧ Below w.heap.size w w' := by
  have hB0 : Below w.heap.size w (w.alloc (.cells (setV fold a la ca) 39)) := (Below.refl _ _).alloc (Nat.le_refl _) _
  have hfr := mayP_frm hm
  have hrl : (rawTo fold wss text (lb + 1)).length ≤ 1000001 * 1000 := by
    have h1 := rawTo_length fold wss text (lb + 1)
    have h2 : (lb + 1) * wss.length ≤ 1000001 * 1000 := Nat.mul_le_mul (by omega) (by rw [hA.len]; exact hla)
    omega
  have HSO := Lib.hid hS
  have HTL := Lib.hid hL.len
  clear hS
  obtain ⟨i0, hi, hz0, hz1, hz2⟩ := info_parts hit_info
  refine calls_of_wp_M Try.func28 rfl ?_
  simp only [Try.ntmps28, List.size_toArray, List.length_cons, List.length_nil, Nat.reduceAdd, Nat.reduceSub, Array.replicate_succ, Array.replicate_zero, List.push_toArray, List.append_toArray, List.nil_append, List.cons_append]
  have HM := Lib.hid hm
  clear hm
  go_wp2_with fail
  refine (may_any fold a la ca frm wss _ (hA.below hB0) (by omega) hM hT).mono ?_
  rintro e w1 ⟨rfl, hb⟩
  rw [HM.out]
  have hB1 : Below w.heap.size w w1 := hB0.trans (hb.mono (by simp))
  have n0 : w1.heap[w.heap.size]? = some (.cells (setV fold a la ca) 39 (0, 0)) := (hb.block _ (by simp)).trans (World.alloc_heap_new _ _)
  have hlt1 : w.heap.size < w1.heap.size := (Array.getElem?_eq_some_iff.1 n0).1
  have c0 : w1.cell? ⟨w.heap.size, 0, none⟩ = some (.bool fold) := by simp [World.cell?, n0]
  have c1 : w1.cell? ⟨w.heap.size, 1, none⟩ = some (.slice a la ca) := by simp [World.cell?, n0]
  go_wp2_with (go_at_call 71; refine (standing_any _ _ _ _ _).mono ?_; rintro e w' ⟨rfl, rfl⟩)
  obtain ⟨W3, hW3⟩ : ∃ W3, W3 = ((w1.alloc (.cells (gathV fold a la ca frm (.slice none 0 0)) 94)).alloc (.cells #[.pointer (some ⟨w1.heap.size, 0, none⟩)] 141)).alloc (.cells #[.slice b lb cb] 40) := ⟨_, rfl⟩
  rw [← hW3]
  have g3 : W3.heap[w1.heap.size]? = some (.cells (gathV fold a la ca frm (.slice none 0 0)) 94 (0, 0)) := by
    rw [hW3]
    exact (Below.heap_alloc _ _ _ (by simp; omega)).trans ((Below.heap_alloc _ _ _ (by simp)).trans (World.alloc_heap_new _ _))
  have b2 : Boxed W3 (w1.heap.size + 1) 141 (.pointer (some ⟨w1.heap.size, 0, none⟩)) := by
    rw [hW3]
    exact (new_at (by simp) _ _).alloc _
  have b1 : Boxed W3 (w1.heap.size + 1 + 1) 40 (.slice b lb cb) := by
    rw [hW3]
    exact new_at (by simp) _ _
  have hB3 : Below w.heap.size w W3 := by
    rw [hW3]
    exact ((hB1.alloc hB1.size _).alloc (by have := hB1.size; simp; omega) _).alloc (by have := hB1.size; simp; omega) _
  have hs3 : W3.heap.size = w1.heap.size + 1 + 1 + 1 := by rw [hW3]; simp
  have hw1 := hB1.size
  clear hW3 c0 c1 n0
  have e0 : W3.cell? ⟨w1.heap.size, 0, none⟩ = some (.bool fold) := by simp [World.cell?, g3]
  have e1 : W3.cell? ⟨w1.heap.size, 1, none⟩ = some (.slice a la ca) := by simp [World.cell?, g3]
  have hps := standing_stops fold a b la ca lb cb w1.heap.size (w1.heap.size + 1 + 1) (w1.heap.size + 1) wss text 8 w W3 (fun k => k < W3.heap.size ∧ k ≠ w1.heap.size) hA hL hB3 (fun k hk => ⟨by have := hB3.size; omega, by omega⟩) ⟨by omega, by omega⟩ ⟨by omega, by omega⟩ (fun k hk => hk.1) (by omega) (by omega) hlb hcb b1 b2 e0 e1
  clear e0 e1
  have hnd : w1.heap.size < W3.heap.size := by omega
  obtain ⟨gb, hgb⟩ : ∃ gb, w1.heap.size = gb := ⟨_, rfl⟩
  rw [hgb] at g3 b1 b2 hps hs3 hnd ⊢
  have hgw : w.heap.size < gb := by omega
  clear hgb hw1 hlt1
  apply rangeF rfl (enters_of Try.func106 (by kernel_rfl) rfl) hps keepG_t (keepG_b (fun k hk => hk.1) hnd) (fun _ => rfl)
    (fun pre W => (∃ v, W.heap[gb]? = some (.cells (gathV fold a la ca frm v) 94 (0, 0)) ∧ OwnH W W3.heap.size v (pre.map fun q => toHit frm q.1)) ∧ Below w.heap.size w W ∧ W3.heap.size ≤ W.heap.size)
    (fun _ _ _ => False)
  case hI => exact OwnFrom.and (Own.from (gath_own _ _ fold a la ca frm _) _) (OwnFrom.and (ownFrom_below (Nat.le_refl _) (by omega)) (own_size _ _))
  case hIx => exact fun _ _ _ _ _ hs _ _ => hs
  case h0 => exact ⟨⟨_, g3, World.ownsRow_nil _ _ _ _⟩, hB3, Nat.le_refl _⟩
  case hassign =>
    intro l x W K hK
    unfold stEnc
    gi_wp2
    exact hK
  case hbody =>
    rintro l pre ⟨⟨p, k⟩, hp, hk⟩ W ⟨⟨v, hv, hown⟩, hB, hs⟩ hlen
    dsimp only at hp hk ⊢
    obtain ⟨m, hm⟩ : ∃ m, (pre.map fun q => toHit frm q.1).length = m := ⟨_, rfl⟩
    have hml : m ≤ 1000001 * 1000 := by rw [← hm, List.length_map]; omega
    unfold OwnH at hown
    rw [hm] at hown
    have HMM := Lib.hid hm
    clear hm
    obtain ⟨av, cv, rfl, hcv, hsl⟩ := SlK.own hown
    have c2 : W.cell? ⟨gb, 2, none⟩ = some (.int .i64 frm) := by simp [World.cell?, hv]
    have c3 : W.cell? ⟨gb, 3, none⟩ = some (.slice av m cv) := by simp [World.cell?, hv]
    have hgl : gb < W.heap.size := (Array.getElem?_eq_some_iff.1 hv).1
    have hne := own_far hown hv (of_decide_eq_true (by kernel_rfl))
    gi_wp2_with (gi_at_builtin; refine wpListIn_append_own _ rfl _ _ 41 rfl W3.heap.size 43 i0 (.agg #[.int .i64 0, .int .i64 0]) 2 16 Try.underlying41 hi hz0 hz1 hz2 rfl (by decide) _ _ _ rfl (hown.alloc _) ⟨W.heap.size, 0, none⟩ 1 1 [.int .i64 (frm + (p : Int)), .int .i64 (k : Int)] rfl rfl (cells_new _ _ rfl) (by simp [Value.oneCell']) (by unfold maxLen; omega) (by omega) (by simp; omega) ?_; intro v' w5 hown' hgrow hnil; obtain ⟨g', cap', rfl⟩ := ownsRow_succ hown'; have hv5 : w5.heap[gb]? = some (.cells (gathV fold a la ca frm (.slice av m cv)) 94 (0, 0)) := (hgrow.block _ (by simp; omega) (Ne.symm hne)).trans ((Below.heap_alloc _ _ _ hgl).trans hv); have q3 : w5.cell? ⟨gb, 3, none⟩ = some (.slice av m cv) := (by simp [World.cell?, hv5]); have u3 : w5.frozen? ⟨gb, 3, none⟩ = false := (by simp [World.frozen?, hv5]))
    have hB5 : RowKit.Below w.heap.size w w5 := (hB.alloc hB.size _).grown hgrow (by have := hB.size; simp; omega) (fun j hj => Nat.le_trans hB3.size (hown.lt j hj).1)
    have kf : KeepsFrom W3.heap.size W w5 := (((KeepsOthers.alloc W _).trans (KeepsOthers.of_grownBy hgrow fun j o ej hj => by
      obtain ⟨c', f', hc'⟩ := Lib.ownsRow_kind (hown.alloc (.cells #[.int .i64 (frm + (p : Int)), .int .i64 (k : Int)] 43)) j ej
      rw [hc'] at hj
      cases hj
      rfl)).from _)
    refine ⟨kf.trans ((KeepsOthers.setCell _ _ _).from _), ?_, ⟨_, set_at (i := 3) hv5 _, ?_⟩, hB5.setCell (by show w.heap.size ≤ gb; omega) _, ?_⟩
    · refine ⟨fun j hj => ?_, ?_, ?_, ?_⟩
      · exact (Below.heap_setCell w5 ⟨gb, 3, none⟩ _ _ (by show j ≠ gb; exact hj.2)).trans ((hgrow.block _ (by simp; omega) (fun e => by have := (hown.lt j e.symm).1; omega)).trans (Below.heap_alloc _ _ _ (by omega)))
      · have := set_at (i := 3) hv5 (.slice (some ⟨g', 0, none⟩) (m + 1) cap')
        simp [World.cell?, this, hv]
      · have := set_at (i := 3) hv5 (.slice (some ⟨g', 0, none⟩) (m + 1) cap')
        simp [World.cell?, this, hv]
      · have := hgrow.size; simp at this ⊢; omega
    · unfold OwnH
      rw [List.map_append, List.length_append, HMM.out, hcells_append]
      exact hown'.kept (grown_set2 w5 gb 3 _) (.inr (own_far hown' hv5 (of_decide_eq_true (by kernel_rfl))))
    · have := hgrow.size; simp at this ⊢; omega
  case hdone =>
    rintro D zs W hD hZ ⟨⟨v, hv, hown⟩, hB, hs⟩ hK
    have hH : (zs.map fun q => toHit frm q.1) = (rawTo fold wss text (lb + 1)).map (toHit frm) := by
      rw [← hZ, List.map_map]
      rfl
    rw [hH] at hown
    obtain ⟨H, hHe⟩ : ∃ H, (rawTo fold wss text (lb + 1)).map (toHit frm) = H := ⟨_, rfl⟩
    rw [hHe] at hown
    have hHl : H.length = (rawTo fold wss text (lb + 1)).length := by rw [← hHe, List.length_map]
    rw [← hHl] at HSO
    have HHE := Lib.hid hHe
    clear hHe hHl hH hZ hrl
    have hgl : gb < W.heap.size := (Array.getElem?_eq_some_iff.1 hv).1
    have hdl : D < W.heap.size := (Array.getElem?_eq_some_iff.1 hK).1
    have c1 : W.cell? ⟨gb, 1, none⟩ = some (.slice a la ca) := by simp [World.cell?, hv]
    rcases hown.2 with ⟨rfl, h0⟩ | ⟨g, cap, cur, rfl, hgb, hgc, _, hcm, _, _⟩
    · have c3 : W.cell? ⟨gb, 3, none⟩ = some (.slice none 0 0) := by simp [World.cell?, hv]
      have hocc : Hid (occD fold wss frm text = []) := by
        have hn : H = [] := List.eq_nil_of_length_eq_zero h0
        have := HHE.out
        rw [hn] at this
        refine (occ_sorted (l := []) ?_ (fun p q h1 h2 => by simp at h2)).symm
        rw [HTL.out, this]
      go_wp2_with fail
      refine (sortSmall_any (R := fun w' => W = w') _ 0 0 none W (by omega) (insNone_any _ 0 none W)).mono ?_
      rintro e w2 ⟨rfl, rfl⟩
      go_wp2
      refine endM rfl hK (results_tmp2 rfl _ _ _) ⟨_, rfl, ?_, put_below hB (by have := hB3.size; omega) (Nat.le_refl _) _⟩
      unfold OwnH
      rw [hocc.out]
      exact World.ownsRow_nil _ _ _ _
    · have c3 : W.cell? ⟨gb, 3, none⟩ = some (.slice (some ⟨g, 0, none⟩) H.length cap) := by simp [World.cell?, hv]
      have hngb : gb ≠ g := by omega
      have hrow := hown.row
      have hB3s := hB3.size
      have hcall := HSO.out 73 (.pointer (some ⟨gb, 0, none⟩)) (ordH wss) (fun _ => True) _ g cap cap H W (gath_cmp (w0 := w) (gb := gb) (g := g) (ca := ca) hA (by omega) (by omega) hngb) (fun _ _ h => ordH_asym h) (fun _ _ _ h1 h2 => ordH_ntrans h1 h2) (fun _ _ => trivial) rfl ⟨hB, c1, hgl⟩ hrow.1
      have HC := Lib.hid hcall
      clear hcall
      have hDg : D ≠ g := by
        intro e
        rw [e, hgc] at hK
        cases hK
      go_wp2_with fail
      refine HC.out.mono ?_
      rintro e w2 ⟨rfl, l', hp, hs', hr', _, hgr⟩
      have hv2 : w2.heap[gb]? = _ := (hgr.block gb hgl (by intro e; injection e with e; exact hngb e)).trans hv
      have hK2 : w2.heap[D]? = _ := (hgr.block D hdl (by intro e; injection e with e; exact hDg e)).trans hK
      have d3 : w2.cell? ⟨gb, 3, none⟩ = some (.slice (some ⟨g, 0, none⟩) H.length cap) := by simp [World.cell?, hv2]
      have hlen : l'.length = H.length := hp.length_eq
      have hocc : Hid (occD fold wss frm text = l') := (occ_sorted (by rw [HTL.out, HHE.out]; exact hp) (by rw [hlen]; exact hs')).symm
      have hB2 : RowKit.Below w.heap.size w w2 := hB.grown hgr hB.size (fun k e => by injection e with e; omega)
      have HLE := Lib.hid hlen
      have HPP := Lib.hid hp
      clear hlen hp hs' hK
      go_wp2
      refine endM rfl hK2 (results_tmp2 rfl _ _ _) ⟨_, rfl, ?_, put_below hB2 (by omega) (Nat.le_refl _) _⟩
      rw [hocc.out]
      have ho := hr'.own (base := w.heap.size) (by omega) hrow.2.2.1
      unfold OwnH at ho
      rw [HLE.out] at ho
      unfold OwnH
      rw [HLE.out]
      exact ownsRow_putObj ho _ hK2 rfl
  case hstop => exact fun _ _ _ _ _ _ h _ => h.elim

end Go.Proofs.Ytmpmjkbjnklgfaa

/- The sort of hits by a method that compares, of any number: walked. -/


namespace Go.Proofs.Ytmpmjkbjnklgfaa
open Go.RowKit Go.Sort
set_option linter.unusedVariables false

set_option maxHeartbeats 1000000 in
theorem sortOK (n : Nat) (h : n ≤ 1000000000000) : SortOK n := by
  intro cf rv ord S C g cap cc l w hB ha hn hl hln hC hR
  have hO : Ord (ltO ord) := ⟨fun a b h => Int.not_lt.2 (ha a b h), fun a b d h1 h2 => Int.not_lt.2 (hn a b d (Int.not_lt.1 h1) (Int.not_lt.1 h2))⟩
  have hlow : Low (ltO ord) l 0 n := fun p q h1 _ _ => absurd h1 (Nat.not_lt_zero _)
  have hbl : Lib.bitLen n ≤ 64 := Lib.bitLen_le n 64 (Nat.le_refl _) (by omega)
  have H := Lib.hid (pdq_any cf rv ord S C g n cap cc w hB hO h n 0 n (Lib.bitLen n) l w (by omega) (by omega) (Nat.le_refl _) hbl hl hln hlow (SSt.start hR hC))
  have HL := Lib.hid hln
  have wr : IntKind.u64.wrap (n : Int) = n := by simp [IntKind.wrap, IntKind.bits, IntKind.signed]; omega
  clear hB ha hn hl hln hC hR hO hlow hbl
  go_enter Try.func72, Try.ntmps72
  go_wp2_with fail
  refine (bitsLen_any n w h).mono ?_
  rintro e w1 ⟨rfl, rfl⟩
  go_wp2_with fail
  refine H.out.mono ?_
  rintro e w1 ⟨rfl, c', hs, hsr, hst⟩
  have HF : Hid (c'.Perm l ∧ SrtTo (fun a b => ord a b < 0) c' n) := ⟨hs.perm (by rw [HL.out]; exact Nat.le_refl _), fun p q h1 h2 => hsr p q (Nat.zero_le _) h1 h2⟩
  clear hs hsr H
  go_wp2
  go_end0
  exact ⟨rfl, c', HF.out.1, HF.out.2, hst.row, hst.ctx, hst.grown⟩

end Go.Proofs.Ytmpmjkbjnklgfaa

/- What the document says of usher (layer 6): walked. -/


namespace Go.Proofs.Ytmpmjkbjnklgfaa
open Go.RowKit Go.Sort
set_option linter.unusedVariables false

def heW : List (List Int) := [[104, 101], [115, 104, 101], [104, 101, 114]]
def usherT : List Int := [117, 115, 104, 101, 114]
def usherH : List HitP := [(14, 1), (14, 0), (15, 2)]
theorem he_may : mayP false heW 10 = true := by decide +kernel
theorem he_none : mayP false [] 0 = false := by decide +kernel
theorem he_occ : occD false heW 10 usherT = usherH := by decide +kernel
theorem he_raw : (rawTo false heW usherT 6).length = 3 := by decide +kernel
theorem he_beg : (begL false heW).length ≤ 1000000 := by decide +kernel
theorem he_len : ∀ x ∈ heW, x.length ≤ 1000000 := by decide +kernel
theorem he_st1 : (mayP false heW 10 && standsH false heW 10 usherT (15, 2)) = true := by decide +kernel
theorem he_st2 : (mayP false heW 10 && standsH false heW 10 usherT (15, 0)) = false := by decide +kernel
theorem he_ls1 : lessH heW (14, 1) (14, 0) = true := by decide +kernel
theorem he_ls2 : lessH heW (14, 0) (14, 1) = false := by decide +kernel
theorem he_ri1 : riseH heW usherH = true := by decide +kernel
theorem he_ri2 : riseH heW [(14, 1), (14, 1)] = false := by decide +kernel
theorem he_bt : betwH 14 15 usherH = [(15, 2)] := by decide +kernel

set_option maxHeartbeats 1000000 in
theorem bys_lay {w : World} {n : Nat} (xs : List Int) (hx : ∀ x ∈ xs, 0 ≤ x ∧ x ≤ 255) (t : TypeId) (fr : Nat × Nat) (h : w.heap.size = n) : Bys (w.alloc (.cells (xs.map (Value.int .u8)).toArray t fr)) (some ⟨n, 0, none⟩) xs.length xs := by
  subst h
  refine ⟨⟨rfl, .inr ⟨w.heap.size, 0, rfl, by simp, fun i x hx => ?_⟩⟩, hx⟩
  have hn := World.alloc_heap_new w (.cells (xs.map (Value.int .u8)).toArray t fr)
  unfold World.cell?
  dsimp only
  rw [hn]
  simp [hx]
theorem below_alloc (w : World) (o : Obj) : Below w.heap.size w (w.alloc o) := (Below.refl _ _).alloc (Nat.le_refl _) _
theorem wds3 {w : World} {a : Option Addr} {v1 v2 v3 : Option Addr × Nat × Nat} {x1 x2 x3 : List Int} (h : Sl1 (fun v : Option Addr × Nat × Nat => Value.slice v.1 v.2.1 v.2.2) w a 3 [v1, v2, v3]) (h1 : Bys w v1.1 v1.2.1 x1) (h2 : Bys w v2.1 v2.2.1 x2) (h3 : Bys w v3.1 v3.2.1 x3)
    (c1 : v1.2.1 ≤ v1.2.2) (c2 : v2.2.1 ≤ v2.2.2) (c3 : v3.2.1 ≤ v3.2.2) : Wds w a 3 [x1, x2, x3] := by
  refine ⟨_, h, rfl, fun i v xs hv hx => ?_⟩
  match i with
  | 0 => simp at hv hx; subst hv hx; exact ⟨h1, c1⟩
  | 1 => simp at hv hx; subst hv hx; exact ⟨h2, c2⟩
  | 2 => simp at hv hx; subst hv hx; exact ⟨h3, c3⟩
  | n + 3 => simp at hv

theorem conv_lit (w : World) (C : Array Value) (n c k : Nat) (h : w.heap.size = k) : (convert 40 40 (.slice (some ⟨k, 0, none⟩) n c)).run Try.prog (w.alloc (.cells C 5)) = .ok (.slice (some ⟨k, 0, none⟩) n c) (w.alloc (.cells C 5 (C.size, C.size + 1))) := by
  subst h
  exact Lib.run_convert_bytes_const (P := Try.prog) w 40 5 C n c Try.underlying40 Try.underlying5
set_option maxRecDepth 100000 in
set_option maxHeartbeats 1000000 in
theorem she_any (w : World) : Calls Try.prog 69 #[] w fun e w' => ∃ a, e = .returned (.agg (setV false (some a) 3 3)) ∧ Wds w' (some a) 3 heW ∧ Below w.heap.size w w' := by
  have kc := conv_lit
  go_enter Try.func69, Try.ntmps69
  go_wp2
  obtain ⟨A1, hA1⟩ : ∃ A1, A1 = w.alloc (.cells #[.bool false, .slice (some ⟨w.heap.size + 1 + 1 + 1 + 1, 0, none⟩) 3 3] 39) := ⟨_, rfl⟩
  rw [← hA1]
  have z1 : A1.heap.size = w.heap.size + 1 := by rw [hA1]; simp
  have n1 : A1.heap[w.heap.size]? = some (.cells #[.bool false, .slice (some ⟨w.heap.size + 1 + 1 + 1 + 1, 0, none⟩) 3 3] 39 (0, 0)) := by rw [hA1]; exact World.alloc_heap_new _ _
  have B1 : Below w.heap.size w A1 := by rw [hA1]; exact below_alloc _ _
  clear hA1
  obtain ⟨A2, hA2⟩ : ∃ A2, A2 = A1.alloc (.cells #[.int .u8 104, .int .u8 101] 5 (2, 3)) := ⟨_, rfl⟩
  rw [← hA2]
  have z2 : A2.heap.size = w.heap.size + 1 + 1 := by rw [hA2]; simp [z1]
  have y1 : Bys A2 (some ⟨w.heap.size + 1, 0, none⟩) 2 [104, 101] := by rw [hA2]; exact bys_lay [104, 101] (by simp) _ _ z1
  have B2 : Below A1.heap.size A1 A2 := by rw [hA2]; exact below_alloc _ _
  clear hA2
  obtain ⟨A3, hA3⟩ : ∃ A3, A3 = A2.alloc (.cells #[.int .u8 115, .int .u8 104, .int .u8 101] 5 (3, 4)) := ⟨_, rfl⟩
  rw [← hA3]
  have z3 : A3.heap.size = w.heap.size + 1 + 1 + 1 := by rw [hA3]; simp [z2]
  have y2 : Bys A3 (some ⟨w.heap.size + 1 + 1, 0, none⟩) 3 [115, 104, 101] := by rw [hA3]; exact bys_lay [115, 104, 101] (by simp) _ _ z2
  have B3 : Below A2.heap.size A2 A3 := by rw [hA3]; exact below_alloc _ _
  clear hA3
  obtain ⟨A4, hA4⟩ : ∃ A4, A4 = A3.alloc (.cells #[.int .u8 104, .int .u8 101, .int .u8 114] 5 (3, 4)) := ⟨_, rfl⟩
  rw [← hA4]
  have z4 : A4.heap.size = w.heap.size + 1 + 1 + 1 + 1 := by rw [hA4]; simp [z3]
  have y3 : Bys A4 (some ⟨w.heap.size + 1 + 1 + 1, 0, none⟩) 3 [104, 101, 114] := by rw [hA4]; exact bys_lay [104, 101, 114] (by simp) _ _ z3
  have B4 : Below A3.heap.size A3 A4 := by rw [hA4]; exact below_alloc _ _
  clear hA4
  obtain ⟨A5, hA5⟩ : ∃ A5, A5 = A4.alloc (.cells #[.slice (some ⟨w.heap.size + 1, 0, none⟩) 2 2, .slice (some ⟨w.heap.size + 1 + 1, 0, none⟩) 3 3, .slice (some ⟨w.heap.size + 1 + 1 + 1, 0, none⟩) 3 3] 40) := ⟨_, rfl⟩
  rw [← hA5]
  have y4 : Sl1 (fun v : Option Addr × Nat × Nat => Value.slice v.1 v.2.1 v.2.2) A5 (some ⟨w.heap.size + 1 + 1 + 1 + 1, 0, none⟩) 3 [(some ⟨w.heap.size + 1, 0, none⟩, 2, 2), (some ⟨w.heap.size + 1 + 1, 0, none⟩, 3, 3), (some ⟨w.heap.size + 1 + 1 + 1, 0, none⟩, 3, 3)] := by
    rw [hA5]
    exact Sl1.lay (α := Option Addr × Nat × Nat) _ A4 [(some ⟨w.heap.size + 1, 0, none⟩, 2, 2), (some ⟨w.heap.size + 1 + 1, 0, none⟩, 3, 3), (some ⟨w.heap.size + 1 + 1 + 1, 0, none⟩, 3, 3)] _ _ z4
  have B5 : Below A4.heap.size A4 A5 := by rw [hA5]; exact below_alloc _ _
  clear hA5
  have n5 : A5.heap[w.heap.size]? = _ := (B5.block _ (by omega)).trans ((B4.block _ (by omega)).trans ((B3.block _ (by omega)).trans ((B2.block _ (by omega)).trans n1)))
  refine bodyPost_ret (results_cell_row rfl _ _ w.heap.size _ _ _ _ rfl n5 Try.underlying39 rfl (by kernel_rfl)) rfl ⟨_, rfl, ?_, ?_⟩
  · exact wds3 y4 (((y1.below B3).below B4).below B5) ((y2.below B4).below B5) (y3.below B5) (Nat.le_refl _) (Nat.le_refl _) (Nat.le_refl _)
  · exact B1.trans ((B2.trans ((B3.trans ((B4.trans (B5.mono (by omega))).mono (by omega))).mono (by omega))).mono (by omega))

end Go.Proofs.Ytmpmjkbjnklgfaa
