/- The law of the order of hits (layer 6), walked. -/
import Derived.Test.YtmpmjkbjnklgfaaO9
import Derived.Test.YtmpmjkbjnklgfaaD7
import Derived.Test.YtmpmjkbjnklgfaaOq
import Derived.Lib.MinMax
import Derived.Deep.DeepCutAuto
namespace Go.Proofs.Ytmpmjkbjnklgfaa
open Go.RowKit Go.Sort
set_option linter.unusedVariables false
set_option linter.unusedSimpArgs false

theorem great_bd {wss : List (List Int)} (h : greatP wss = false) (fold : Bool) : wss.length ≤ 80 ∧ (∀ x ∈ wss, x.length ≤ 3000) ∧ (begL fold wss).length ≤ 3000 := by
  unfold greatP at h
  have h := of_decide_eq_false h
  have h1 : wss.length ≤ 80 := by omega
  have h2 : gsum wss ≤ 3000 := by omega
  have key : ∀ (l : List (List Int)), gsum l ≤ 3000 → (∀ x ∈ l, x.length ≤ 3000) ∧ ((begL fold l).length : Int) = gsum l := by
    intro l
    induction l with
    | nil => intro _; exact ⟨by simp, by simp [begL, gsum]⟩
    | cons x l ih =>
      intro hg
      have e : gsum (x :: l) = min (x.length : Int) 4000 + gsum l := by simp [gsum]
      have hn := gsum_nonneg l
      rw [e] at hg ⊢
      obtain ⟨i1, i2⟩ := ih (by omega)
      refine ⟨fun y hy => ?_, ?_⟩
      · rcases List.mem_cons.1 hy with rfl | hy
        · omega
        · exact i1 y hy
      · have e2 : begL fold (x :: l) = begW (foldL fold x) ++ begL fold l := by simp [begL]
        rw [e2, List.length_append, begW_length, foldL_length]
        omega
  obtain ⟨k1, k2⟩ := key wss h2
  exact ⟨h1, k1, by omega⟩

theorem Hts.take {w : World} {a : Option Addr} {n : Nat} {l : List HitP} (h : Hts w a n l) {m : Nat} (hm : m ≤ n) : Hts w a m (l.take m) := by
  have hl := h.len
  refine ⟨⟨by rw [hcells_length]; simp; omega, ?_⟩, fun x hx => h.2 x (List.mem_of_mem_take hx)⟩
  by_cases h0 : m = 0
  · exact .inl h0
  · right
    obtain ⟨b, off, rfl, hlt, hcell⟩ := h.1.2.resolve_left (by omega)
    refine ⟨b, off, rfl, hlt, fun i u hu => hcell i u ?_⟩
    have e1 : hcells l = hcells (l.take m) ++ hcells (l.drop m) := by rw [← hcells_append, List.take_append_drop]
    rw [e1, List.getElem?_append_left (List.getElem?_eq_some_iff.1 hu).1]
    exact hu
theorem Hts.drop {w : World} {a : Option Addr} {n : Nat} {l : List HitP} (h : Hts w a n l) {m : Nat} (hm : m ≤ n) : Hts w (a.map (·.add (m * 2))) (n - m) (l.drop m) := by
  have hc := h.cut (lo := m) (m := n - m) (by omega)
  rwa [List.take_of_length_le (by rw [List.length_drop, h.len]; exact Nat.le_refl _)] at hc
theorem Hts.none_ {w : World} {a : Option Addr} {n : Nat} {l : List HitP} (hb : ∀ h ∈ l, I64 h.1 ∧ I64 h.2) (hl : l.length = n) {m : Nat} (hm : m = n) : Hts w a (n - m) (l.drop m) := by
  have : l.drop m = [] := List.drop_eq_nil_of_le (by omega)
  rw [this, show n - m = 0 by omega]
  exact ⟨⟨rfl, .inl rfl⟩, by simp⟩

/-- What lies in boxes: a set, three hits. -/
structure OOc (n : Nat) (fold : Bool) (a : Option Addr) (la ca : Nat) (x y z : HitP) (W : World) : Prop where
  b0 : W.heap[n]? = some (.cells (setV fold a la ca) 39 (0, 0))
  b1 : W.heap[n + 1]? = some (.cells #[.int .i64 x.1, .int .i64 x.2] 43 (0, 0))
  b2 : W.heap[n + 1 + 1]? = some (.cells #[.int .i64 y.1, .int .i64 y.2] 43 (0, 0))
  b3 : W.heap[n + 1 + 1 + 1]? = some (.cells #[.int .i64 z.1, .int .i64 z.2] 43 (0, 0))
theorem OOc.lt {n : Nat} {fold : Bool} {a : Option Addr} {la ca : Nat} {x y z : HitP} {W : World} (h : OOc n fold a la ca x y z W) : n + 1 + 1 + 1 < W.heap.size := (Array.getElem?_eq_some_iff.1 h.b3).1
theorem OOc.below {n : Nat} {fold : Bool} {a : Option Addr} {la ca : Nat} {x y z : HitP} {W W' : World} (h : OOc n fold a la ca x y z W) (hb : Below W.heap.size W W') : OOc n fold a la ca x y z W' :=
  have hl := h.lt
  ⟨(hb.block _ (by omega)).trans h.b0, (hb.block _ (by omega)).trans h.b1, (hb.block _ (by omega)).trans h.b2, (hb.block _ (by omega)).trans h.b3⟩
theorem OOc.cells {n : Nat} {fold : Bool} {a : Option Addr} {la ca : Nat} {x y z : HitP} {W : World} (h : OOc n fold a la ca x y z W) :
    (W.cell? ⟨n, 0, none⟩ = some (.bool fold) ∧ W.cell? ⟨n, 1, none⟩ = some (.slice a la ca)) ∧ (W.cell? ⟨n + 1, 0, none⟩ = some (.int .i64 x.1) ∧ W.cell? ⟨n + 1, 1, none⟩ = some (.int .i64 x.2)) ∧
    (W.cell? ⟨n + 1 + 1, 0, none⟩ = some (.int .i64 y.1) ∧ W.cell? ⟨n + 1 + 1, 1, none⟩ = some (.int .i64 y.2)) ∧ (W.cell? ⟨n + 1 + 1 + 1, 0, none⟩ = some (.int .i64 z.1) ∧ W.cell? ⟨n + 1 + 1 + 1, 1, none⟩ = some (.int .i64 z.2)) := by
  refine ⟨⟨?_, ?_⟩, ⟨?_, ?_⟩, ⟨?_, ?_⟩, ⟨?_, ?_⟩⟩ <;> simp [World.cell?, h.b0, h.b1, h.b2, h.b3]

theorem rise_cut (wss : List (List Int)) {l : List HitP} {m : Nat} {u v : HitP} (hu : l[m]? = some u) (hv : l[m + 1]? = some v) : riseH wss l = ((riseH wss (l.take (m + 1)) && riseH wss (l.drop (m + 1))) && lessH wss u v) := by
  have hl := (List.getElem?_eq_some_iff.1 hv).1
  have h := rise_append (wss := wss) (l := l.take (m + 1)) (m := l.drop (m + 1))
  rw [List.take_append_drop] at h
  rw [h]
  have h1 : (l.take (m + 1)).getLast? = some u := by rw [take_step hu]; simp
  have h2 : (l.drop (m + 1)).head? = some v := by rw [List.head?_drop, hv]
  rw [h1, h2]
theorem rise_cut0 (wss : List (List Int)) {l : List HitP} {n : Nat} (h : n = 0 ∨ l.length ≤ n) : riseH wss l = (riseH wss (l.take n) && riseH wss (l.drop n)) := by
  rcases h with rfl | h
  · simp [riseH]
  · rw [List.take_of_length_le h, List.drop_eq_nil_of_le h]
    simp [riseH]

/-- The condition of the law's first test never holds. -/
theorem order_four {wss : List (List Int)} (x y z : HitP) :
    (lessH wss x y = true ∧ lessH wss y x = false ∧ decide (x = y) = false ∧ (lessH wss y z = true → lessH wss x z = true)) ∨ (lessH wss x y = false ∧ lessH wss y x = true ∧ decide (x = y) = false) ∨ (lessH wss x y = false ∧ lessH wss y x = false ∧ decide (x = y) = true) := by
  cases h1 : lessH wss x y with
  | true =>
    left
    refine ⟨rfl, lessH_asymm h1, ?_, fun h => lessH_trans h1 h⟩
    rw [decide_eq_false_iff_not]
    intro e
    rw [e, lessH_irrefl] at h1
    cases h1
  | false =>
    right
    cases h2 : lessH wss y x with
    | true =>
      left
      refine ⟨rfl, rfl, ?_⟩
      rw [decide_eq_false_iff_not]
      intro e
      rw [e, lessH_irrefl] at h2
      cases h2
    | false => exact .inr ⟨rfl, rfl, decide_eq_true (lessH_total h1 h2)⟩

/-- What lies there in the last test. -/
def SO (w : World) (fold : Bool) (a : Option Addr) (la ca : Nat) (x y z : HitP) (V : World) : Prop :=
  (V.cell? ⟨w.heap.size, 0, none⟩ = some (.bool fold) ∧ V.cell? ⟨w.heap.size, 1, none⟩ = some (.slice a la ca)) ∧ OOc w.heap.size fold a la ca x y z V ∧ RowKit.Below w.heap.size w V
section
variable {w : World} {fold : Bool} {a : Option Addr} {la ca : Nat} {x y z : HitP} {V V' : World}
theorem SO.of (h : OOc w.heap.size fold a la ca x y z V) (hb : RowKit.Below w.heap.size w V) : SO w fold a la ca x y z V := ⟨h.cells.1, h, hb⟩
theorem SO.below (h : SO w fold a la ca x y z V) (hb : RowKit.Below V.heap.size V V') : SO w fold a la ca x y z V' := SO.of (h.2.1.below hb) (h.2.2.trans (hb.mono h.2.2.size))
theorem SO.drew (h : SO w fold a la ca x y z V) : SO w fold a la ca x y z V.drew := h.below (below_drew V)
theorem SO.alloc (h : SO w fold a la ca x y z V) (o : Obj) : SO w fold a la ca x y z (V.alloc o) := h.below (below_alloc _ _)
theorem SO.bel (h : SO w fold a la ca x y z V) : RowKit.Below w.heap.size w V := h.2.2
variable {wss : List (List Int)} {b : Option Addr} {lb cb : Nat} {l : List HitP}
theorem ri_O (h : SO w fold a la ca x y z V) (hA : Wds w a la wss) (hL : Hts w b lb l) (hla : la ≤ 1000000) (hlb : lb ≤ 60) :
    Calls Try.prog 35 #[.agg #[.bool fold, .slice a la ca], .slice b lb cb] V fun e' w' => e' = .returned (.bool (riseH wss l)) ∧ SO w fold a la ca x y z w' :=
  (orise_any fold a b la ca lb cb l wss V (hA.below h.2.2) (hL.below h.2.2) hla (by omega)).mono fun _ _ ⟨h1, h2⟩ => ⟨h1, h.below h2⟩
theorem jn_O (h : SO w fold a la ca x y z V) (q : Option Addr) (n : Nat) (hn : n ≤ lb) (hll : l.length = lb) (hlb : lb ≤ 60) (hb : ∀ h ∈ l, I64 h.1 ∧ I64 h.2) (hq : Hss V q 2 [l.take n, l.drop n]) :
    Calls Try.prog 39 #[.slice q 2 2] V fun e' w' => ∃ b' d, e' = .returned (.slice b' lb d) ∧ Hts w' b' lb l ∧ SO w fold a la ca x y z w' :=
  (join_h q 2 2 _ V hq (by decide) (by simp; omega)).mono fun _ _ ⟨v, h1, h2, h3⟩ => by
    have e : [l.take n, l.drop n].flatten = l := by simp
    rw [e] at h2
    obtain ⟨b', d, e, _, h4⟩ := OwnH.hts h2 hb
    exact ⟨b', d, by rw [h1, e, hll], by rw [← hll]; exact h4, h.below h3⟩
theorem hss2 {V : World} {b1 b2 : Option Addr} {n1 c1 n2 c2 : Nat} {l1 l2 : List HitP} (t : TypeId) (h1 : Hts V b1 n1 l1) (h2 : Hts V b2 n2 l2) : Hss (V.alloc (.cells #[.slice b1 n1 c1, .slice b2 n2 c2] t)) (some ⟨V.heap.size, 0, none⟩) 2 [l1, l2] := by
  have hb := below_alloc V (.cells #[.slice b1 n1 c1, .slice b2 n2 c2] t)
  refine ⟨[(b1, n1, c1), (b2, n2, c2)], Sl1.lay (α := Option Addr × Nat × Nat) _ V [(b1, n1, c1), (b2, n2, c2)] t _ rfl, rfl, fun i v l hv hl => ?_⟩
  match i with
  | 0 => simp at hv hl; subst hv hl; exact h1.below hb
  | 1 => simp at hv hl; subst hv hl; exact h2.below hb
  | n + 2 => simp at hv
theorem Hts.rest {V : World} {b : Option Addr} {lb cb n : Nat} {l : List HitP} (h : Hts V b lb l) (hn : n ≤ lb) (hcb : lb ≤ cb) : Hts V (if cb = n then b else Option.map (fun x => x.add (n * 2)) b) (lb - n) (l.drop n) := by
  split
  · exact Hts.none_ h.2 h.len (by omega)
  · exact h.drop hn
theorem sm_O (h : SO w fold a la ca x y z V) (hL : Hts w b lb l) (hlb : lb ≤ 60) (q : Option Addr) (d : Nat) (hq : Hts V q lb l) :
    Calls Try.prog 40 #[.slice q lb d, .slice b lb cb] V fun e' w' => e' = .returned (.bool true) ∧ SO w fold a la ca x y z w' :=
  (osame_any q b lb d lb cb l l V hq (hL.below h.2.2) (by omega)).mono fun _ _ ⟨h1, h2⟩ => ⟨by rw [h1]; simp, h.below h2⟩
theorem wk_O (h : SO w fold a la ca x y z V) : Calls Try.prog 27 #[] V fun e' w' => e' = .returned (.bool true) ∧ SO w fold a la ca x y z w' :=
  (wakes6 V).mono fun _ _ ⟨h1, h2⟩ => ⟨h1, h.below h2⟩
end

set_option maxRecDepth 100000 in
set_option maxHeartbeats 2000000 in
theorem occOrder_walk (fold : Bool) (a b : Option Addr) (la ca lb cb : Nat) (x y z : HitP) (l : List HitP) (at_ : Int) (wss : List (List Int)) (w : World) (hA : Wds w a la wss) (hL : Hts w b lb l) (hcb : lb ≤ cb) (hcb2 : cb ≤ 9223372036854775807) (ha : -9223372036854775808 ≤ at_ ∧ at_ ≤ 9223372036854775807) :
    Calls Try.prog 8 #[.agg (setV fold a la ca), hitV x, hitV y, hitV z, .slice b lb cb, .int .i64 at_] w fun e w' => e = .returned (.bool true) ∧ Below w.heap.size w w' := by
  obtain ⟨W4, hW4⟩ : ∃ W4, W4 = (((w.alloc (.cells (setV fold a la ca) 39)).alloc (.cells #[.int .i64 x.1, .int .i64 x.2] 43)).alloc (.cells #[.int .i64 y.1, .int .i64 y.2] 43)).alloc (.cells #[.int .i64 z.1, .int .i64 z.2] 43) := ⟨_, rfl⟩
  have hB4 : Below w.heap.size w W4 := by
    rw [hW4]
    exact ((((Below.refl _ _).alloc (Nat.le_refl _) _).alloc (by simp) _).alloc (by simp; omega) _).alloc (by simp; omega) _
  have hO4 : OOc w.heap.size fold a la ca x y z W4 := by
    rw [hW4]
    refine ⟨(Below.heap_alloc _ _ _ (by simp; omega)).trans ((Below.heap_alloc _ _ _ (by simp; omega)).trans ((Below.heap_alloc _ _ _ (by simp)).trans (World.alloc_heap_new _ _))), (Below.heap_alloc _ _ _ (by simp)).trans ((Below.heap_alloc _ _ _ (by simp)).trans ?_), (Below.heap_alloc _ _ _ (by simp)).trans ?_, ?_⟩
    · have := World.alloc_heap_new (w.alloc (.cells (setV fold a la ca) 39)) (.cells #[.int .i64 x.1, .int .i64 x.2] 43)
      rwa [World.size_alloc] at this
    · have := World.alloc_heap_new ((w.alloc (.cells (setV fold a la ca) 39)).alloc (.cells #[.int .i64 x.1, .int .i64 x.2] 43)) (.cells #[.int .i64 y.1, .int .i64 y.2] 43)
      rwa [World.size_alloc, World.size_alloc] at this
    · have := World.alloc_heap_new (((w.alloc (.cells (setV fold a la ca) 39)).alloc (.cells #[.int .i64 x.1, .int .i64 x.2] 43)).alloc (.cells #[.int .i64 y.1, .int .i64 y.2] 43)) (.cells #[.int .i64 z.1, .int .i64 z.2] 43)
      rwa [World.size_alloc, World.size_alloc, World.size_alloc] at this
  have hcall := great5_any fold a la ca wss W4 (hA.below hB4)
  have HGC := Lib.hid hcall
  clear hcall
  obtain ⟨⟨c0, c1⟩, ⟨x0, x1⟩, ⟨y0, y1⟩, ⟨z0, z1⟩⟩ := hO4.cells
  have HLN := Lib.hid hL.len
  cases hg : greatP wss with
  | true =>
    have HG := Lib.hid hg
    clear hg
    go_enter Try.func8, Try.ntmps8
    go_wp2_with fail
    rw [← hW4]
    refine HGC.out.mono ?_
    rintro e w5 ⟨rfl, hb5⟩
    rw [HG.out]
    have hB5 : RowKit.Below w.heap.size w w5 := hB4.trans (hb5.mono hB4.size)
    clear c0 c1 x0 x1 y0 y1 z0 z1
    go_wp2_with fail
    refine (wakes6 w5).mono ?_
    rintro e w6 ⟨rfl, hb6⟩
    go_wp2
    go_ret
    exact ⟨rfl, hB5.trans (hb6.mono hB5.size)⟩
  | false =>
    obtain ⟨g1, g2, g3⟩ := great_bd hg fold
    have HG := Lib.hid hg
    clear hg
    by_cases h60 : lb ≤ 60
    · have H4 := Lib.hid (order_four (wss := wss) x y z)
      go_enter Try.func8, Try.ntmps8
      go_wp2_with fail
      rw [← hW4]
      refine HGC.out.mono ?_
      rintro e w5 ⟨rfl, hb5⟩
      rw [HG.out]
      have hB5 : RowKit.Below w.heap.size w w5 := hB4.trans (hb5.mono hB4.size)
      have hO5 := hO4.below hb5
      have hA5 := hA.below hB5
      have hla : la ≤ 1000000 := by rw [← hA.len]; omega
      have G0 : ∀ d os, (grow (redrawn w5 d) os).cell? ⟨w.heap.size, 0, none⟩ = some (.bool fold) := fun d os => (hO5.below (below_regrown w5 d os)).cells.1.1
      have G1 : ∀ d os, (grow (redrawn w5 d) os).cell? ⟨w.heap.size, 1, none⟩ = some (.slice a la ca) := fun d os => (hO5.below (below_regrown w5 d os)).cells.1.2
      have X0 : ∀ d os, (grow (redrawn w5 d) os).cell? ⟨w.heap.size + 1, 0, none⟩ = some (.int .i64 x.1) := fun d os => (hO5.below (below_regrown w5 d os)).cells.2.1.1
      have X1 : ∀ d os, (grow (redrawn w5 d) os).cell? ⟨w.heap.size + 1, 1, none⟩ = some (.int .i64 x.2) := fun d os => (hO5.below (below_regrown w5 d os)).cells.2.1.2
      have Y0 : ∀ d os, (grow (redrawn w5 d) os).cell? ⟨w.heap.size + 1 + 1, 0, none⟩ = some (.int .i64 y.1) := fun d os => (hO5.below (below_regrown w5 d os)).cells.2.2.1.1
      have Y1 : ∀ d os, (grow (redrawn w5 d) os).cell? ⟨w.heap.size + 1 + 1, 1, none⟩ = some (.int .i64 y.2) := fun d os => (hO5.below (below_regrown w5 d os)).cells.2.2.1.2
      have hA6 : ∀ d os, Wds (grow (redrawn w5 d) os) a la wss := fun d os => hA5.below (below_regrown w5 d os)
      clear c0 c1 x0 x1 y0 y1 z0 z1
      go_wp2_with fail
      refine wp_region_quiet_below mixed (by kernel_rfl) ?_
      repeat (go_big_quiet_step (exact grown_below (less_any fold a la ca _ _ wss _ (hA6 _ _) hla)))
      refine wpQuiet_nil ?_
      rintro _ ⟨⟨dq, osq⟩, rfl⟩
      clear G0 G1 X0 X1 Y0 Y1 hA6
      dsimp only
      have hbq := below_regrown w5 dq osq
      have hB6 : RowKit.Below w.heap.size w (grow (redrawn w5 dq) osq) := hB5.trans (hbq.mono hB5.size)
      have hO6 := hO5.below hbq
      have hA6 := hA.below hB6
      clear hb5 hO5 hA5 hbq hB5
      obtain ⟨W6, hW6⟩ : ∃ W6, W6 = grow (redrawn w5 dq) osq := ⟨_, rfl⟩
      rw [← hW6] at hB6 hO6 hA6 ⊢
      clear hW6
      go_upto_region 4 with fail
      go_cut [13, 14, 69] (fun s13 s14 s69 wx => s69 = .bool false ∧ RowKit.Below w.heap.size w wx ∧ OOc w.heap.size fold a la ca x y z wx)
      case first =>
        obtain ⟨⟨c0, c1⟩, ⟨x0, x1⟩, ⟨y0, y1⟩, ⟨z0, z1⟩⟩ := hO6.cells
        have heq := fun W => eql_hit x y W
        have hne := fun W => neq_hit x y W
        have hgt := hit_guard
        rcases H4.out with ⟨p1, p2, p3, p4⟩ | ⟨p1, p2, p3⟩ | ⟨p1, p2, p3⟩
        · rw [p1, p2]
          simp only [p3, Bool.not_true, Bool.not_false] at heq hne
          clear p1 p2 p3
          go_wp2_with fail
          refine (less_any fold a la ca y z wss _ hA6 hla).mono ?_
          rintro e w7 ⟨rfl, hb7⟩
          have hB7 : RowKit.Below w.heap.size w w7 := hB6.trans (hb7.mono hB6.size)
          have hO7 := hO6.below hb7
          clear c0 c1 x0 x1 y0 y1 z0 z1
          obtain ⟨⟨c0, c1⟩, ⟨x0, x1⟩, ⟨y0, y1⟩, ⟨z0, z1⟩⟩ := hO7.cells
          cases e2 : lessH wss y z with
          | false =>
            go_wp2_with fail
            go_meet
            exact ⟨rfl, hB7, hO7⟩
          | true =>
            have p5 := p4 e2
            go_wp2_with fail
            refine (less_any fold a la ca x z wss _ (hA.below hB7) hla).mono ?_
            rintro e w9 ⟨rfl, hb9⟩
            rw [p5]
            have hB9 : RowKit.Below w.heap.size w w9 := hB7.trans (hb9.mono hB7.size)
            have hO9 := hO7.below hb9
            clear c0 c1 x0 x1 y0 y1 z0 z1
            go_wp2_with fail
            go_meet
            exact ⟨rfl, hB9, hO9⟩
        · rw [p1, p2]
          simp only [p3, Bool.not_true, Bool.not_false] at heq hne
          clear p1 p2 p3
          go_wp2_with fail
          go_meet
          exact ⟨rfl, hB6, hO6⟩
        · rw [p1, p2]
          simp only [p3, Bool.not_true, Bool.not_false] at heq hne
          clear p1 p2 p3
          go_wp2_with fail
          go_meet
          exact ⟨rfl, hB6, hO6⟩
      case rest =>
        obtain ⟨rfl, hB9, hO9⟩ := hcut
        go_upto_region 7 with fail
        obtain ⟨n, hn, hnl⟩ : ∃ n : Nat, min (max at_ 0) (lb : Int) = n ∧ n ≤ lb := ⟨(min (max at_ 0) (lb : Int)).toNat, by omega, by omega⟩
        rw [hn]
        clear hn
        have hn0 : (0 : Int) ≤ n := by omega
        have hncb : (n : Int) ≤ cb := by omega
        have hnlb : (n : Int) ≤ lb := by omega
        have hncN : n ≤ cb := by omega
        go_cut [15] (fun s15 wx => s15 = .bool (riseH wss (l.take n) && riseH wss (l.drop n)) ∧ RowKit.Below w.heap.size w wx ∧ OOc w.heap.size fold a la ca x y z wx)
        case first =>
          obtain ⟨w9, hw9⟩ : ∃ w9, w9 = wc := ⟨_, rfl⟩
          rw [← hw9] at hB9 hO9 ⊢
          clear hw9
          have hA9 := hA.below hB9
          have hL9 := hL.below hB9
          have G0 : ∀ d os, (grow (redrawn w9 d) os).cell? ⟨w.heap.size, 0, none⟩ = some (.bool fold) := fun d os => (hO9.below (below_regrown w9 d os)).cells.1.1
          have G1 : ∀ d os, (grow (redrawn w9 d) os).cell? ⟨w.heap.size, 1, none⟩ = some (.slice a la ca) := fun d os => (hO9.below (below_regrown w9 d os)).cells.1.2
          have hAg : ∀ d os, Wds (grow (redrawn w9 d) os) a la wss := fun d os => hA9.below (below_regrown w9 d os)
          have hr1 : ∀ d os, Calls Try.prog 35 #[.agg (setV fold a la ca), .slice b n cb] (grow (redrawn w9 d) os) fun e w' => e = .returned (.bool (riseH wss (l.take n))) ∧ RowKit.Below (grow (redrawn w9 d) os).heap.size (grow (redrawn w9 d) os) w' :=
            fun d os => orise_any fold a b la ca n cb (l.take n) wss _ (hAg d os) ((hL9.take hnl).below (below_regrown w9 d os)) hla (by omega)
          have hr2 : ∀ d os, Calls Try.prog 35 #[.agg (setV fold a la ca), .slice (if cb = n then b else Option.map (fun x => x.add (n * 2)) b) (lb - n) (cb - n)] (grow (redrawn w9 d) os) fun e w' => e = .returned (.bool (riseH wss (l.drop n))) ∧ RowKit.Below (grow (redrawn w9 d) os).heap.size (grow (redrawn w9 d) os) w' := by
            intro d os
            have hts : Hts w9 (if cb = n then b else Option.map (fun x => x.add (n * 2)) b) (lb - n) (l.drop n) := by
              split
              · exact Hts.none_ hL.2 HLN.out (by omega)
              · exact hL9.drop hnl
            exact orise_any fold a _ la ca (lb - n) (cb - n) (l.drop n) wss _ (hAg d os) (hts.below (below_regrown w9 d os)) hla (by omega)
          cases rA : riseH wss (l.take n)
          · rw [rA] at hr1
            refine wp_region_quiet_below mixed (by kernel_rfl) ?_
            iterate 4 (go_big_quiet_step (fail))
            go_big_quiet_step (exact grown_below (hr1 _ _))
            iterate 8 (go_big_quiet_step (fail))
            refine wpQuiet_nil ?_
            rintro _ ⟨⟨dq, osq⟩, rfl⟩
            go_wp2_with fail
            go_meet
            exact ⟨by rw [rA]; rfl, hB9.trans ((below_regrown w9 dq osq).mono hB9.size), hO9.below (below_regrown w9 dq osq)⟩
          · rw [rA] at hr1
            refine wp_region_quiet_below mixed (by kernel_rfl) ?_
            iterate 4 (go_big_quiet_step (fail))
            go_big_quiet_step (exact grown_below (hr1 _ _))
            iterate 5 (go_big_quiet_step (fail))
            go_big_quiet_step (exact grown_below (hr2 _ _))
            iterate 2 (go_big_quiet_step (fail))
            refine wpQuiet_nil ?_
            rintro _ ⟨⟨dq, osq⟩, rfl⟩
            generalize (if cb = n then b else Option.map (fun x => x.add (n * 2)) b) = ad
            have rB : (riseH wss (l.take n) && riseH wss (l.drop n)) = riseH wss (l.drop n) := by rw [rA, Bool.true_and]
            have RB := Lib.hid rB
            clear rB rA hr1 hr2 G0 G1 hAg
            go_wp2_with fail
            go_meet
            exact ⟨by rw [RB.out], hB9.trans ((below_regrown w9 dq osq).mono hB9.size), hO9.below (below_regrown w9 dq osq)⟩
        case rest =>
          clear hB9 hO9
          obtain ⟨rfl, hB10, hO10⟩ := hcut
          go_upto_region 8 with fail
          go_cut [94] (fun s94 wx => s94 = .bool (decide (0 < n ∧ n < lb)) ∧ wx = wc)
          case first =>
            by_cases q1 : 0 < n
            · by_cases q2 : n < lb
              · have d1 : decide ((0 : Int) < n) = true := by simp; omega
                have d2 : decide ((n : Int) < lb) = true := by simp; omega
                go_wp2_with fail
                go_meet
                exact ⟨by simp [q1, q2], rfl⟩
              · have d1 : decide ((0 : Int) < n) = true := by simp; omega
                have d2 : decide ((n : Int) < lb) = false := by simp; omega
                go_wp2_with fail
                go_meet
                exact ⟨by simp [q1, q2], rfl⟩
            · have d1 : decide ((0 : Int) < n) = false := by simp; omega
              go_wp2_with fail
              go_meet
              exact ⟨by simp [q1], rfl⟩
          case rest =>
            obtain ⟨rfl, rfl⟩ := hcut
            go_upto_if 94 with fail
            go_cut [15] (fun s15 wx => s15 = .bool (riseH wss l) ∧ RowKit.Below w.heap.size w wx ∧ OOc w.heap.size fold a la ca x y z wx)
            case first =>
              have hA10 := hA.below hB10
              have hL10 := hL.below hB10
              by_cases q : 0 < n ∧ n < lb
              · obtain ⟨m, rfl⟩ : ∃ m, n = m + 1 := ⟨n - 1, by omega⟩
                obtain ⟨bb, off, u, rfl, hbl, cu0, cu1, hu, _, _⟩ := hL10.at_ (show m < lb by omega)
                obtain ⟨_, _, v, e, _, cv0, cv1, hv, _, _⟩ := hL10.at_ (show m + 1 < lb by omega)
                injection e with e
                injection e with e1 e2
                subst e1 e2
                have hriseN := rise_cut wss hu hv
                have HRN := Lib.hid hriseN
                have dq : decide (0 < m + 1 ∧ m + 1 < lb) = true := by simp; omega
                rw [dq]
                obtain ⟨w9, hw9⟩ : ∃ w9, w9 = wc := ⟨_, rfl⟩
                rw [← hw9] at hB10 hO10 hA10 cu0 cu1 cv0 cv1 hbl ⊢
                clear hw9 hriseN hu hv dq
                have G0 : ∀ d os, (grow (redrawn w9 d) os).cell? ⟨w.heap.size, 0, none⟩ = some (.bool fold) := fun d os => (hO10.below (below_regrown w9 d os)).cells.1.1
                have G1 : ∀ d os, (grow (redrawn w9 d) os).cell? ⟨w.heap.size, 1, none⟩ = some (.slice a la ca) := fun d os => (hO10.below (below_regrown w9 d os)).cells.1.2
                have U0 : ∀ d os, (grow (redrawn w9 d) os).cell? ⟨bb, off + m * 2, none⟩ = some (.int .i64 u.1) := fun d os => ((below_regrown w9 d os).cell (p := ⟨bb, off + m * 2, none⟩) hbl).trans cu0
                have U1 : ∀ d os, (grow (redrawn w9 d) os).cell? ⟨bb, off + m * 2 + 1, none⟩ = some (.int .i64 u.2) := fun d os => ((below_regrown w9 d os).cell (p := ⟨bb, off + m * 2 + 1, none⟩) hbl).trans cu1
                have V0 : ∀ d os, (grow (redrawn w9 d) os).cell? ⟨bb, off + (m + 1) * 2, none⟩ = some (.int .i64 v.1) := fun d os => ((below_regrown w9 d os).cell (p := ⟨bb, off + (m + 1) * 2, none⟩) hbl).trans cv0
                have V1 : ∀ d os, (grow (redrawn w9 d) os).cell? ⟨bb, off + (m + 1) * 2 + 1, none⟩ = some (.int .i64 v.2) := fun d os => ((below_regrown w9 d os).cell (p := ⟨bb, off + (m + 1) * 2 + 1, none⟩) hbl).trans cv1
                have hr1 : ∀ d os, Calls Try.prog 33 #[.agg (setV fold a la ca), .agg #[.int .i64 u.1, .int .i64 u.2], .agg #[.int .i64 v.1, .int .i64 v.2]] (grow (redrawn w9 d) os) fun e w' => e = .returned (.bool (lessH wss u v)) ∧ RowKit.Below (grow (redrawn w9 d) os).heap.size (grow (redrawn w9 d) os) w' :=
                  fun d os => less_any fold a la ca u v wss _ (hA10.below (below_regrown w9 d os)) hla
                clear cu0 cu1 cv0 cv1
                cases rA : (riseH wss (l.take (m + 1)) && riseH wss (l.drop (m + 1)))
                · have HE : Hid (riseH wss l = false) := by rw [Hid, HRN.out, rA, Bool.false_and]
                  clear rA
                  go_wp2_with fail
                  refine wp_region_quiet_below mixed (by kernel_rfl) ?_
                  iterate 15 (go_big_quiet_step (fail))
                  refine wpQuiet_nil ?_
                  rintro _ ⟨⟨dq, osq⟩, rfl⟩
                  go_wp2_with fail
                  go_meet
                  exact ⟨by rw [HE.out], hB10.trans ((below_regrown w9 dq osq).mono hB10.size), hO10.below (below_regrown w9 dq osq)⟩
                · have HE : Hid (riseH wss l = lessH wss u v) := by rw [Hid, HRN.out, rA, Bool.true_and]
                  clear rA
                  go_wp2_with fail
                  refine wp_region_quiet_below mixed (by kernel_rfl) ?_
                  iterate 12 (go_big_quiet_step (fail))
                  go_big_quiet_step (exact grown_below (hr1 _ _))
                  iterate 2 (go_big_quiet_step (fail))
                  refine wpQuiet_nil ?_
                  rintro _ ⟨⟨dq, osq⟩, rfl⟩
                  go_wp2_with fail
                  go_meet
                  exact ⟨by rw [HE.out], hB10.trans ((below_regrown w9 dq osq).mono hB10.size), hO10.below (below_regrown w9 dq osq)⟩
              · have dq : decide (0 < n ∧ n < lb) = false := by simp; omega
                rw [dq]
                have HE := Lib.hid (rise_cut0 wss (l := l) (n := n) (by rw [HLN.out]; omega))
                go_wp2_with fail
                go_meet
                exact ⟨by rw [HE.out], hB10, hO10⟩
            case rest =>
              clear hB10 hO10
              obtain ⟨rfl, hB11, hO11⟩ := hcut
              go_upto_region 10 with fail
              have hS := SO.of hO11 hB11
              have hrr : (riseH wss l == riseH wss l) = true := by simp
              have hdt : decide ((lb : Int) ≤ 60) = true := by simp; omega
              refine wp_region_noPanic ?_
              refine wp_region_held_drew (S := SO w fold a la ca x y z) (by kernel_rfl) ?_ (fun hHeld => ?_)
              · (first | assumption | (refine SO.drew (w := w) (x := x) (y := y) (z := z) ?_; assumption) | (refine SO.alloc (w := w) (x := x) (y := y) (z := z) ?_ _; assumption) | (refine SO.drew (w := w) (x := x) (y := y) (z := z) (SO.alloc ?_ _); assumption))
              refine wpAnyH_take (i := 0) (v := ?_) (by simp only [List.getElem?_toArray, List.getElem?_cons_zero, List.getElem?_cons_succ]; rfl) (by kernel_rfl) (by kernel_rfl) (by kernel_rfl) (fun _ _ _ h => h) (Or.inl ⟨by rfl, ?_⟩) (by assumption) ?_
              rotate_left
              · intro V hV
                obtain ⟨k0, k1⟩ := hV.1
                first | (go_simp; done) | (go_simp; with_reducible rfl)
              try simp only [Act.put, List.setIfInBounds_toArray, List.set_cons_zero, List.set_cons_succ]
              refine wpAnyH_take (i := 1) (v := ?_) (by simp only [List.getElem?_toArray, List.getElem?_cons_zero, List.getElem?_cons_succ]; rfl) (by kernel_rfl) (by kernel_rfl) (by kernel_rfl) (fun _ _ _ h => h) (Or.inl ⟨by rfl, ?_⟩) (by assumption) ?_
              rotate_left
              · intro V hV
                obtain ⟨k0, k1⟩ := hV.1
                first | (go_simp; done) | (go_simp; with_reducible rfl)
              try simp only [Act.put, List.setIfInBounds_toArray, List.set_cons_zero, List.set_cons_succ]
              refine wpAnyH_take (i := 3) (v := ?_) (by simp only [List.getElem?_toArray, List.getElem?_cons_zero, List.getElem?_cons_succ]; rfl) (by kernel_rfl) (by kernel_rfl) (by kernel_rfl) (fun _ _ _ h => h) (Or.inl ⟨by rfl, ?_⟩) (by assumption) ?_
              rotate_left
              · intro V hV
                obtain ⟨k0, k1⟩ := hV.1
                first | (go_simp; done) | (go_simp; with_reducible rfl)
              try simp only [Act.put, List.setIfInBounds_toArray, List.set_cons_zero, List.set_cons_succ]
              refine wpAnyH_ready (rs := [2]) (by kernel_rfl) (by simp) ?_
              refine AllReadyH.cons (by simp only [List.getElem?_toArray, List.getElem?_cons_zero, List.getElem?_cons_succ]; rfl) (fun K hK => ?_) AllReadyH.nil
              have hOld := hHeld
              go_simp
              go_at_call 35; refine (ri_O (w := w) (x := x) (y := y) (z := z) (wss := wss) (l := l) ?_ hA hL hla h60).mono ?_; (assumption); rintro e w' ⟨rfl, hS2⟩
              refine hK.out _ _ ?_ (fun hNew => ?_)
              · (first | assumption | (refine SO.drew (w := w) (x := x) (y := y) (z := z) ?_; assumption) | (refine SO.alloc (w := w) (x := x) (y := y) (z := z) ?_ _; assumption) | (refine SO.drew (w := w) (x := x) (y := y) (z := z) (SO.alloc ?_ _); assumption))
              clear hK K hHeld hOld
              have hHeld := hNew
              clear hNew
              try simp only [Act.put, List.setIfInBounds_toArray, List.set_cons_zero, List.set_cons_succ]
              refine wpAnyH_take (i := 4) (v := ?_) (by simp only [List.getElem?_toArray, List.getElem?_cons_zero, List.getElem?_cons_succ]; rfl) (by kernel_rfl) (by kernel_rfl) (by kernel_rfl) (fun _ _ _ h => h) (Or.inl ⟨by rfl, ?_⟩) (by assumption) ?_
              rotate_left
              · intro V hV
                obtain ⟨k0, k1⟩ := hV.1
                first | (go_simp; done) | (go_simp; with_reducible rfl)
              try simp only [Act.put, List.setIfInBounds_toArray, List.set_cons_zero, List.set_cons_succ]
              refine wpAnyH_take (i := 5) (v := ?_) (by simp only [List.getElem?_toArray, List.getElem?_cons_zero, List.getElem?_cons_succ]; rfl) (by kernel_rfl) (by kernel_rfl) (by kernel_rfl) (fun _ _ _ h => h) (Or.inl ⟨by rfl, ?_⟩) (by assumption) ?_
              rotate_left
              · intro V hV
                obtain ⟨k0, k1⟩ := hV.1
                first | (go_simp; done) | (go_simp; with_reducible rfl)
              try simp only [Act.put, List.setIfInBounds_toArray, List.set_cons_zero, List.set_cons_succ]
              refine wpAnyH_take (i := 6) (v := ?_) (by simp only [List.getElem?_toArray, List.getElem?_cons_zero, List.getElem?_cons_succ]; rfl) (by kernel_rfl) (by kernel_rfl) (by kernel_rfl) (fun _ _ _ h => h) (Or.inl ⟨by rfl, ?_⟩) (by assumption) ?_
              rotate_left
              · intro V hV
                obtain ⟨k0, k1⟩ := hV.1
                first | (go_simp; done) | (go_simp; with_reducible rfl)
              try simp only [Act.put, List.setIfInBounds_toArray, List.set_cons_zero, List.set_cons_succ]
              refine wpAnyH_take (i := 7) (v := ?_) (by simp only [List.getElem?_toArray, List.getElem?_cons_zero, List.getElem?_cons_succ]; rfl) (by kernel_rfl) (by kernel_rfl) (by kernel_rfl) (fun _ _ _ h => h) (Or.inl ⟨by rfl, ?_⟩) (by assumption) ?_
              rotate_left
              · intro V hV
                obtain ⟨k0, k1⟩ := hV.1
                first | (go_simp; done) | (go_simp; with_reducible rfl)
              try simp only [Act.put, List.setIfInBounds_toArray, List.set_cons_zero, List.set_cons_succ]
              refine wpAnyH_take (i := 8) (v := ?_) (by simp only [List.getElem?_toArray, List.getElem?_cons_zero, List.getElem?_cons_succ]; rfl) (by kernel_rfl) (by kernel_rfl) (by kernel_rfl) (fun _ _ _ h => h) (Or.inl ⟨by rfl, ?_⟩) (by assumption) ?_
              rotate_left
              · intro V hV
                obtain ⟨k0, k1⟩ := hV.1
                first | (go_simp; done) | (go_simp; with_reducible rfl)
              try simp only [Act.put, List.setIfInBounds_toArray, List.set_cons_zero, List.set_cons_succ]
              refine wpAnyH_take (i := 9) (v := ?_) (by simp only [List.getElem?_toArray, List.getElem?_cons_zero, List.getElem?_cons_succ]; rfl) (by kernel_rfl) (by kernel_rfl) (by kernel_rfl) (fun _ _ _ h => h) (Or.inl ⟨by rfl, ?_⟩) (by assumption) ?_
              rotate_left
              · intro V hV
                obtain ⟨k0, k1⟩ := hV.1
                first | (go_simp; done) | (go_simp; with_reducible rfl)
              try simp only [Act.put, List.setIfInBounds_toArray, List.set_cons_zero, List.set_cons_succ]
              refine wpAnyH_take (i := 10) (v := ?_) (by simp only [List.getElem?_toArray, List.getElem?_cons_zero, List.getElem?_cons_succ]; rfl) (by kernel_rfl) (by kernel_rfl) (by kernel_rfl) (fun _ _ _ h => h) (Or.inl ⟨by rfl, ?_⟩) (by assumption) ?_
              rotate_left
              · intro V hV
                obtain ⟨k0, k1⟩ := hV.1
                first | (go_simp; done) | (go_simp; with_reducible rfl)
              try simp only [Act.put, List.setIfInBounds_toArray, List.set_cons_zero, List.set_cons_succ]
              refine wpAnyH_take (i := 11) (v := ?_) (by simp only [List.getElem?_toArray, List.getElem?_cons_zero, List.getElem?_cons_succ]; rfl) (by kernel_rfl) (by kernel_rfl) (by kernel_rfl) (fun _ _ _ h => h) (Or.inl ⟨by rfl, ?_⟩) (by assumption) ?_
              rotate_left
              · intro V hV
                obtain ⟨k0, k1⟩ := hV.1
                first | (go_simp; done) | (go_simp; with_reducible rfl)
              try simp only [Act.put, List.setIfInBounds_toArray, List.set_cons_zero, List.set_cons_succ]
              refine wpAnyH_take (i := 14) (v := ?_) (by simp only [List.getElem?_toArray, List.getElem?_cons_zero, List.getElem?_cons_succ]; rfl) (by kernel_rfl) (by kernel_rfl) (by kernel_rfl) (fun _ _ _ h => h) (Or.inl ⟨by rfl, ?_⟩) (by assumption) ?_
              rotate_left
              · intro V hV
                obtain ⟨k0, k1⟩ := hV.1
                first | (go_simp; done) | (go_simp; with_reducible rfl)
              try simp only [Act.put, List.setIfInBounds_toArray, List.set_cons_zero, List.set_cons_succ]
              refine wpAnyH_ready (rs := [12]) (by kernel_rfl) (by simp) ?_
              refine AllReadyH.cons (by simp only [List.getElem?_toArray, List.getElem?_cons_zero, List.getElem?_cons_succ]; rfl) (fun K hK => ?_) AllReadyH.nil
              have hOld := hHeld
              go_simp
              refine hK.out _ _ ?_ (fun hNew => ?_)
              · (first | assumption | (refine SO.drew (w := w) (x := x) (y := y) (z := z) ?_; assumption) | (refine SO.alloc (w := w) (x := x) (y := y) (z := z) ?_ _; assumption) | (refine SO.drew (w := w) (x := x) (y := y) (z := z) (SO.alloc ?_ _); assumption))
              clear hK K hHeld hOld
              have hHeld := hNew
              clear hNew
              try simp only [Act.put, List.setIfInBounds_toArray, List.set_cons_zero, List.set_cons_succ]
              refine wpAnyH_ready (rs := [13]) (by kernel_rfl) (by simp) ?_
              refine AllReadyH.cons (by simp only [List.getElem?_toArray, List.getElem?_cons_zero, List.getElem?_cons_succ]; rfl) (fun K hK => ?_) AllReadyH.nil
              have hOld := hHeld
              go_simp
              go_at_call 39; refine (jn_O (w := w) (x := x) (y := y) (z := z) (fold := fold) (a := a) (la := la) (ca := ca) (l := l) ?_ _ n hnl HLN.out h60 hL.2 (hss2 _ ((hL.below (SO.bel hS2)).take hnl) ((hL.below (SO.bel hS2)).rest hnl hcb))).mono ?_; (assumption); rintro e w' ⟨q, d, rfl, hq, hS3⟩
              refine hK.out _ _ ?_ (fun hNew => ?_)
              · (first | assumption | (refine SO.drew (w := w) (x := x) (y := y) (z := z) ?_; assumption) | (refine SO.alloc (w := w) (x := x) (y := y) (z := z) ?_ _; assumption) | (refine SO.drew (w := w) (x := x) (y := y) (z := z) (SO.alloc ?_ _); assumption))
              clear hK K hHeld hOld
              have hHeld := hNew
              clear hNew
              try simp only [Act.put, List.setIfInBounds_toArray, List.set_cons_zero, List.set_cons_succ]
              refine wpAnyH_ready (rs := [15]) (by kernel_rfl) (by simp) ?_
              refine AllReadyH.cons (by simp only [List.getElem?_toArray, List.getElem?_cons_zero, List.getElem?_cons_succ]; rfl) (fun K hK => ?_) AllReadyH.nil
              have hOld := hHeld
              go_simp
              go_at_call 40; refine (sm_O (w := w) (x := x) (y := y) (z := z) (fold := fold) (a := a) (la := la) (ca := ca) (l := l) ?_ hL h60 _ _ hq).mono ?_; (assumption); rintro e w' ⟨rfl, hS4⟩
              refine hK.out _ _ ?_ (fun hNew => ?_)
              · (first | assumption | (refine SO.drew (w := w) (x := x) (y := y) (z := z) ?_; assumption) | (refine SO.alloc (w := w) (x := x) (y := y) (z := z) ?_ _; assumption) | (refine SO.drew (w := w) (x := x) (y := y) (z := z) (SO.alloc ?_ _); assumption))
              clear hK K hHeld hOld
              have hHeld := hNew
              clear hNew
              try simp only [Act.put, List.setIfInBounds_toArray, List.set_cons_zero, List.set_cons_succ]
              refine wpAnyH_take (i := 16) (v := ?_) (by simp only [List.getElem?_toArray, List.getElem?_cons_zero, List.getElem?_cons_succ]; rfl) (by kernel_rfl) (by kernel_rfl) (by kernel_rfl) (fun _ _ _ h => h) (Or.inl ⟨by rfl, ?_⟩) (by assumption) ?_
              rotate_left
              · intro V hV
                obtain ⟨k0, k1⟩ := hV.1
                first | (go_simp; done) | (go_simp; with_reducible rfl)
              try simp only [Act.put, List.setIfInBounds_toArray, List.set_cons_zero, List.set_cons_succ]
              refine wpAnyH_take (i := 17) (v := ?_) (by simp only [List.getElem?_toArray, List.getElem?_cons_zero, List.getElem?_cons_succ]; rfl) (by kernel_rfl) (by kernel_rfl) (by kernel_rfl) (fun _ _ _ h => h) (Or.inl ⟨by rfl, ?_⟩) (by assumption) ?_
              rotate_left
              · intro V hV
                obtain ⟨k0, k1⟩ := hV.1
                first | (go_simp; done) | (go_simp; with_reducible rfl)
              try simp only [Act.put, List.setIfInBounds_toArray, List.set_cons_zero, List.set_cons_succ]
              refine wpAnyH_ready (rs := [18]) (by kernel_rfl) (by simp) ?_
              refine AllReadyH.cons (by simp only [List.getElem?_toArray, List.getElem?_cons_zero, List.getElem?_cons_succ]; rfl) (fun K hK => ?_) AllReadyH.nil
              have hOld := hHeld
              go_simp
              go_at_call 27; refine (wk_O (w := w) (x := x) (y := y) (z := z) (fold := fold) (a := a) (la := la) (ca := ca) ?_).mono ?_; (assumption); rintro e w' ⟨rfl, hS5⟩
              refine hK.out _ _ ?_ (fun hNew => ?_)
              · (first | assumption | (refine SO.drew (w := w) (x := x) (y := y) (z := z) ?_; assumption) | (refine SO.alloc (w := w) (x := x) (y := y) (z := z) ?_ _; assumption) | (refine SO.drew (w := w) (x := x) (y := y) (z := z) (SO.alloc ?_ _); assumption))
              clear hK K hHeld hOld
              have hHeld := hNew
              clear hNew
              try simp only [Act.put, List.setIfInBounds_toArray, List.set_cons_zero, List.set_cons_succ]
              refine wpAnyH_take (i := 19) (v := ?_) (by simp only [List.getElem?_toArray, List.getElem?_cons_zero, List.getElem?_cons_succ]; rfl) (by kernel_rfl) (by kernel_rfl) (by kernel_rfl) (fun _ _ _ h => h) (Or.inl ⟨by rfl, ?_⟩) (by assumption) ?_
              rotate_left
              · intro V hV
                obtain ⟨k0, k1⟩ := hV.1
                first | (go_simp; done) | (go_simp; with_reducible rfl)
              try simp only [Act.put, List.setIfInBounds_toArray, List.set_cons_zero, List.set_cons_succ]
              refine wpAnyH_take (i := 20) (v := ?_) (by simp only [List.getElem?_toArray, List.getElem?_cons_zero, List.getElem?_cons_succ]; rfl) (by kernel_rfl) (by kernel_rfl) (by kernel_rfl) (fun _ _ _ h => h) (Or.inl ⟨by rfl, ?_⟩) (by assumption) ?_
              rotate_left
              · intro V hV
                obtain ⟨k0, k1⟩ := hV.1
                first | (go_simp; done) | (go_simp; with_reducible rfl)
              try simp only [Act.put, List.setIfInBounds_toArray, List.set_cons_zero, List.set_cons_succ]
              refine wpAnyH_done (by kernel_rfl) ?_ _
              refine NoPanic.normal ?_
              go_wp2
              all_goals
                go_ret
                exact ⟨rfl, hHeld.2.2⟩
    · go_enter Try.func8, Try.ntmps8
      go_wp2_with fail
      rw [← hW4]
      refine HGC.out.mono ?_
      rintro e w5 ⟨rfl, hb5⟩
      rw [HG.out]
      have hB5 : RowKit.Below w.heap.size w w5 := hB4.trans (hb5.mono hB4.size)
      clear c0 c1 x0 x1 y0 y1 z0 z1
      have hd : decide ((60 : Int) < lb) = true := by simp; omega
      go_wp2_with fail
      refine (wakes6 w5).mono ?_
      rintro e w6 ⟨rfl, hb6⟩
      go_wp2
      go_ret
      exact ⟨rfl, hB5.trans (hb6.mono hB5.size)⟩

end Go.Proofs.Ytmpmjkbjnklgfaa
