/- Parts of the proof, one behind the other: J7, J8, J9, JD, JE, JF, JG. No condition but what each theorem states. -/
import Derived.Deep.CutBlock
import Derived.Deep.DeepCutAuto
import Derived.Test.YtmpmjkbjnklgfaaW8

/- Heaps: plain laws; the sort's siftDown walked. -/



namespace Go.Proofs.Ytmpmjkbjnklgfaa
open Go.RowKit Go.Sort
set_option linter.unusedVariables false
set_option linter.unusedSimpArgs false

section
variable {lt : HitP → HitP → Prop} {c : List HitP} {f hi lo r m : Nat}
theorem Heap.start (h : Heap lt c f hi (lo + 1) hi) : Heap lt c f hi lo lo ∧ Above lt c f hi lo lo :=
  ⟨fun k j h1 h2 h3 h4 => h k j (by omega) (by omega) h3 h4, fun k j h1 h2 h3 h4 => by omega⟩
theorem Heap.stop0 (h : Heap lt c f hi lo r) (h0 : hi ≤ 2 * r + 1) : Heap lt c f hi lo hi := fun k j h1 h2 h3 h4 => by
  by_cases e : k = r
  · omega
  · exact h k j h1 e h3 h4
/-- The greater of a node's kids. -/
def Kid (lt : HitP → HitP → Prop) (c : List HitP) (f hi r m : Nat) : Prop := (m = 2 * r + 1 ∨ m = 2 * r + 2) ∧ m < hi ∧ ∀ j, (j = 2 * r + 1 ∨ j = 2 * r + 2) → j < hi → ¬ lt (nth c (f + m)) (nth c (f + j))
theorem Heap.stop (hO : Ord lt) (h : Heap lt c f hi lo r) (hm : Kid lt c f hi r m) (h0 : ¬ lt (nth c (f + r)) (nth c (f + m))) : Heap lt c f hi lo hi := fun k j h1 h2 h3 h4 => by
  by_cases e : k = r
  · rw [e]
    rw [e] at h3
    exact hO.ntrans _ _ _ h0 (hm.2.2 j h3 h4)
  · exact h k j h1 e h3 h4
theorem Heap.step (hO : Ord lt) (h : Heap lt c f hi lo r) (ha : Above lt c f hi lo r) (hm : Kid lt c f hi r m) (hr : lo ≤ r) (hc : f + hi ≤ c.length) (h0 : lt (nth c (f + r)) (nth c (f + m))) :
    Heap lt (swp c (f + r) (f + m)) f hi lo m ∧ Above lt (swp c (f + r) (f + m)) f hi lo m := by
  obtain ⟨h1, h2, h3⟩ := hm
  have E : ∀ k, nth (swp c (f + r) (f + m)) (f + k) = if k = m then nth c (f + r) else if k = r then nth c (f + m) else nth c (f + k) := fun k => by
    rw [nth_swp (by omega) (by omega)]
    have e1 : (f + k = f + m) = (k = m) := by simp
    have e2 : (f + k = f + r) = (k = r) := by simp
    simp only [e1, e2]
  refine ⟨fun k j g1 g2 g3 g4 => ?_, fun k j g1 g2 g3 g4 => ?_⟩
  · rw [E k, E j, if_neg g2]
    by_cases e : k = r
    · rw [if_pos e]
      by_cases e2 : j = m
      · rw [if_pos e2]; exact hO.asym _ _ h0
      · rw [if_neg e2, if_neg (by omega)]
        exact h3 j (by rw [← e]; exact g3) g4
    · rw [if_neg e]
      by_cases e2 : j = m
      · omega
      · rw [if_neg e2]
        by_cases e3 : j = r
        · rw [if_pos e3]
          exact ha k m g1 (by omega) (by omega) h2
        · rw [if_neg e3]
          exact h k j g1 e g3 g4
  · have ek : k = r := by omega
    rw [E k, E j, if_neg (by omega), if_pos ek, if_neg (by omega), if_neg (by omega)]
    exact h m j (by omega) (by omega) g3 g4
end
theorem SSt.look {S : HitP → Prop} {C : World → Prop} {w W : World} {g cap k j : Nat} {c : List HitP} {cf : FuncId} {rv : Value} {ord : HitP → HitP → Int} (hB : CmpB cf rv ord S C g) (h : SSt C w g cap c W) (hS : ∀ x ∈ c, S x) (hk : k < c.length) (hj : j < c.length) :
    ∃ u v : HitP, Hid (nth c k = u) ∧ Hid (nth c j = v) ∧
      (∀ d os, (grow (redrawn W d) os).cell? ⟨g, k * 2, none⟩ = some (.int .i64 u.1)) ∧ (∀ d os, (grow (redrawn W d) os).cell? ⟨g, k * 2 + 1, none⟩ = some (.int .i64 u.2)) ∧
      (∀ d os, (grow (redrawn W d) os).cell? ⟨g, j * 2, none⟩ = some (.int .i64 v.1)) ∧ (∀ d os, (grow (redrawn W d) os).cell? ⟨g, j * 2 + 1, none⟩ = some (.int .i64 v.2)) ∧
      ∀ d os, Calls Try.prog cf #[rv, .agg #[.int .i64 u.1, .int .i64 u.2], .agg #[.int .i64 v.1, .int .i64 v.2]] (grow (redrawn W d) os) fun e w' => e = .returned (.int .i64 (ord u v)) ∧ Below (grow (redrawn W d) os).heap.size (grow (redrawn W d) os) w' := by
  obtain ⟨_, _, g0, g1⟩ := h.cell hk rfl
  obtain ⟨_, _, g2, g3⟩ := h.cell hj rfl
  exact ⟨nth c k, nth c j, rfl, rfl, g0, g1, g2, g3, h.call hB (hS _ (nth_mem hk)) (hS _ (nth_mem hj))⟩

/-- The state of siftDown. -/
structure SD (ord : HitP → HitP → Int) (S : HitP → Prop) (C : World → Prop) (w : World) (g cap n f lo hi : Nat) (l c : List HitP) (r : Nat) (W : World) : Prop where
  seg : Seg (f + lo) (f + hi) l c
  len : c.length = n
  mem : ∀ h ∈ c, S h
  heap : Heap (ltO ord) c f hi lo r
  above : Above (ltO ord) c f hi lo r
  st : SSt C w g cap c W
theorem SD.below {ord : HitP → HitP → Int} {S : HitP → Prop} {C : World → Prop} {w W W' : World} {g cap n f lo hi r : Nat} {l c : List HitP} {cf : FuncId} {rv : Value} (hB : CmpB cf rv ord S C g) (h : SD ord S C w g cap n f lo hi l c r W) (hb : Below W.heap.size W W') : SD ord S C w g cap n f lo hi l c r W' :=
  ⟨h.seg, h.len, h.mem, h.heap, h.above, h.st.below hB hb⟩
theorem SD.step {ord : HitP → HitP → Int} {S : HitP → Prop} {C : World → Prop} {w W W' : World} {g cap n f lo hi r m : Nat} {l c : List HitP} (hO : Ord (ltO ord)) (h : SD ord S C w g cap n f lo hi l c r W) (hm : Kid (ltO ord) c f hi r m) (hr : lo ≤ r) (hn : f + hi ≤ n) (h0 : ltO ord (nth c (f + r)) (nth c (f + m))) (hs : SSt C w g cap (swp c (f + r) (f + m)) W') :
    SD ord S C w g cap n f lo hi l (swp c (f + r) (f + m)) m W' := by
  have hl := h.len
  have hm1 := hm.1
  have hm2 := hm.2.1
  have hsg : Seg (f + lo) (f + hi) c (swp c (f + r) (f + m)) := Seg.swap c (by omega) (by omega)
  have hst := Heap.step hO h.heap h.above hm hr (by omega) h0
  exact ⟨h.seg.trans hsg, by rw [swp_length]; exact hl, seg_S hsg (by omega) h.mem, hst.1, hst.2, hs⟩

set_option maxRecDepth 100000 in
set_option maxHeartbeats 4000000 in
theorem siftDown_any (cf : FuncId) (rv : Value) (ord : HitP → HitP → Int) (S : HitP → Prop) (C : World → Prop) (g n cap cc lo hi f : Nat) (l : List HitP) (w W : World) (hB : CmpB cf rv ord S C g) (hO : Ord (ltO ord)) (hl : ∀ h ∈ l, S h) (hn : l.length = n) (hn1 : n ≤ 1000000000000) (hlo : lo ≤ hi) (hfn : f + hi ≤ n)
    (hH : Heap (ltO ord) l f hi (lo + 1) hi) (hP : SSt C w g cap l W) :
    Calls Try.prog 162 #[.slice (some ⟨g, 0, none⟩) n cc, .int .i64 lo, .int .i64 hi, .int .i64 f, .func (.func cf) #[rv] #[]] W fun e w' =>
      e = .returned (.tuple #[]) ∧ ∃ c', Seg (f + lo) (f + hi) l c' ∧ Heap (ltO ord) c' f hi lo hi ∧ SSt C w g cap c' w' := by
  have he := hB.enters
  have HB := Lib.hid hB
  have HO := Lib.hid hO
  have HFN := Lib.hid hfn
  have hI : SD ord S C w g cap n f lo hi l l lo W := ⟨Seg.refl _ _ _, hn, hl, hH.start.1, hH.start.2, hP⟩
  clear hn hl hB hP hH hO
  go_enter Try.func162, Try.ntmps162
  go_wp2
  go_loopw [10, 11] (fun i _ wr => ∃ (r : Nat) (c : List HitP), i = .int .i64 r ∧ lo ≤ r ∧ r ≤ hi ∧ SD ord S C w g cap n f lo hi l c r wr) (fun i _ _ => hi + 1 - (intOf i).toNat)
  case atStart => exact ⟨lo, l, rfl, Nat.le_refl _, hlo, hI⟩
  case round =>
    clear hI
    obtain ⟨r, c, rfl, hr1, hr2, hI⟩ := hrel
    obtain ⟨m, hm⟩ : ∃ m, m = 2 * r + 1 := ⟨_, rfl⟩
    have HM := Lib.hid hm
    have E1 := Lib.hid (show (2 : Int) * (r : Int) + 1 = ((m : Nat) : Int) from by omega)
    go_upto_region 2 with fail
    rw [E1.out]
    by_cases hex : hi ≤ m
    · have hd : decide ((hi : Int) ≤ m) = true := by simp; omega
      have HF : Hid (Seg (f + lo) (f + hi) l c ∧ Heap (ltO ord) c f hi lo hi) := ⟨hI.seg, hI.heap.stop0 (by omega)⟩
      have HX := Lib.hid hI.st
      clear hI hm
      go_wp2
      go_end0
      exact ⟨rfl, c, HF.out.1, HF.out.2, HX.out⟩
    · have hd : decide ((hi : Int) ≤ m) = false := by simp; omega
      clear hm
      go_upto_region 3 with fail
      go_cut [40] (fun s40 wx => ∃ B : Bool, s40 = .bool B ∧ Hid ((B = true → m + 1 < hi ∧ ltO ord (nth c (f + m)) (nth c (f + m + 1))) ∧ (B = false → m + 1 < hi → ¬ ltO ord (nth c (f + m)) (nth c (f + m + 1)))) ∧ SD ord S C w g cap n f lo hi l c r wx)
      case first =>
        by_cases h2 : m + 1 < hi
        · obtain ⟨u, v, HU, HV, gx0, gx1, gy0, gy1, hcall⟩ := hI.st.look HB.out hI.mem (k := f + m) (j := f + m + 1) (by rw [hI.len]; omega) (by rw [hI.len]; omega)
          have hd0 : decide ((m : Int) + 1 < hi) = true := by simp; omega
          have hb1 : f + m < n := by omega
          have hb2 : f + m + 1 < n := by omega
          refine wp_region_quiet_below mixed (by kernel_rfl) ?_
          repeat (go_big_quiet_step (exact grown_below (hcall _ _)))
          refine wpQuiet_nil ?_
          rintro _ ⟨⟨dq, osq⟩, rfl⟩
          have hI2 := hI.below HB.out (below_regrown wr dq osq)
          have HP : Hid ((decide (ord u v < 0) = true → m + 1 < hi ∧ ltO ord (nth c (f + m)) (nth c (f + m + 1))) ∧ (decide (ord u v < 0) = false → m + 1 < hi → ¬ ltO ord (nth c (f + m)) (nth c (f + m + 1)))) := by
            unfold ltO; rw [HU.out, HV.out]
            exact ⟨fun h => ⟨h2, of_decide_eq_true h⟩, fun h _ => of_decide_eq_false h⟩
          clear gx0 gx1 gy0 gy1 hcall hI
          dsimp only
          obtain ⟨B, hBB⟩ : ∃ B, B = decide (ord u v < 0) := ⟨_, rfl⟩
          rw [← hBB] at HP ⊢
          clear hBB
          go_wp2_with fail
          go_meet
          exact ⟨B, rfl, HP, hI2⟩
        · have hd0 : decide ((m : Int) + 1 < hi) = false := by simp; omega
          go_quiet (fail)
          go_wp2_with fail
          go_meet
          exact ⟨false, rfl, ⟨fun h => (by cases h), fun _ h => absurd h (by omega)⟩, hI.below HB.out ⟨rfl, rfl, rfl, Nat.le_refl _, fun _ _ => rfl⟩⟩
      case rest =>
        clear hI
        obtain ⟨B, rfl, HP, hI⟩ := hcut
        go_upto_if 40 with fail
        go_cut [11] (fun s11 wx => ∃ m : Nat, s11 = .int .i64 m ∧ Hid (Kid (ltO ord) c f hi r m) ∧ SD ord S C w g cap n f lo hi l c r wx)
        case first =>
          cases B
          · have HK : Hid (Kid (ltO ord) c f hi r m) := by
              have hm := HM.out
              refine ⟨.inl hm, by omega, fun j hj1 hj2 => ?_⟩
              rcases hj1 with hj1 | hj1
              · rw [hj1, ← hm]; exact HO.out.irrefl _
              · have e : f + j = f + m + 1 := by omega
                rw [e]; exact HP.out.2 rfl (by omega)
            clear HP
            go_wp2_with fail
            go_meet
            exact ⟨m, rfl, HK, hI⟩
          · have HK : Hid (Kid (ltO ord) c f hi r (m + 1)) := by
              have hm := HM.out
              have hp := HP.out.1 rfl
              have e1 : f + (m + 1) = f + m + 1 := by omega
              refine ⟨.inr (by omega), hp.1, fun j hj1 hj2 => ?_⟩
              rw [e1]
              rcases hj1 with hj1 | hj1
              · rw [hj1, ← hm]; exact HO.out.asym _ _ hp.2
              · have e : f + j = f + m + 1 := by omega
                rw [e]; exact HO.out.irrefl _
            clear HP
            go_wp2_with fail
            go_meet
            exact ⟨m + 1, by go_num, HK, hI⟩
        case rest =>
          clear hI HP
          obtain ⟨m', rfl, HK, hI⟩ := hcut
          have hm1 : f + m' < n := by have := HK.out.2.1; omega
          have hr3 : f + r < n := by have := HK.out.2.1; have := HK.out.1; omega
          have hrm : r < m' := by have := HK.out.1; omega
          have hmh : m' < hi := HK.out.2.1
          obtain ⟨u, v, HU, HV, gx0, gx1, gy0, gy1, hcall⟩ := hI.st.look HB.out hI.mem (k := f + r) (j := f + m') (by rw [hI.len]; omega) (by rw [hI.len]; omega)
          go_wp2
          refine wp_region_quiet_below mixed (by kernel_rfl) ?_
          repeat (go_big_quiet_step (exact grown_below (hcall _ _)))
          refine wpQuiet_nil ?_
          rintro _ ⟨⟨dq, osq⟩, rfl⟩
          have hI2 := hI.below HB.out (below_regrown wc dq osq)
          clear gx0 gx1 gy0 gy1 hcall hI
          dsimp only
          obtain ⟨W2, hW2⟩ : ∃ W2, W2 = grow (redrawn wc dq) osq := ⟨_, rfl⟩
          rw [← hW2] at hI2 ⊢
          clear hW2
          by_cases hxy : ord u v < 0
          · have hdx : decide (ord u v < 0) = true := by simp [hxy]
            rw [hdx]
            have HLT : Hid (ltO ord (nth c (f + r)) (nth c (f + m'))) := by rw [Hid, ltO, HU.out, HV.out]; exact hxy
            clear hxy hdx HU HV
            obtain ⟨u, v, huv, ⟨x0, x1⟩, ⟨fx0, fx1⟩, ⟨y0, y1⟩, ⟨fy0, fy1⟩, hX⟩ := hI2.st.xch HB.out (i := f + r) (j := f + m') (by rw [hI2.len]; omega) (by rw [hI2.len]; omega)
            have HX := Lib.hid (hI2.step HO.out HK.out hr1 HFN.out HLT.out hX)
            clear huv hX hI2
            go_wp2
            go_region
            go_wp2
            go_roundw
            case rel => exact ⟨m', _, rfl, by omega, by omega, HX.out⟩
            case measure => simp [intOf]; omega
          · have hdx : decide (ord u v < 0) = false := by simp [hxy]
            rw [hdx]
            have HF : Hid (Seg (f + lo) (f + hi) l c ∧ Heap (ltO ord) c f hi lo hi) := ⟨hI2.seg, hI2.heap.stop HO.out HK.out (by unfold ltO; rw [HU.out, HV.out]; exact hxy)⟩
            have HX := Lib.hid hI2.st
            clear hxy hdx hI2
            go_wp2
            (try simp only [Exit.inBlock, Exit.then])
            refine bodyPost_ret (results_none rfl _ _ _) rfl ?_
            exact ⟨rfl, c, HF.out.1, HF.out.2, HX.out⟩

end Go.Proofs.Ytmpmjkbjnklgfaa

/- The sort's heap sort: plain laws; walked. -/

namespace Go.Proofs.Ytmpmjkbjnklgfaa
open Go.RowKit Go.Sort
set_option linter.unusedVariables false
set_option linter.unusedSimpArgs false

section
variable {lt : HitP → HitP → Prop} {c c2 : List HitP} {f hi k : Nat}
theorem Heap.leaves (f hi : Nat) (c : List HitP) (k : Nat) (h : hi ≤ 2 * k + 1) : Heap lt c f hi k hi := fun k' j h1 h2 h3 h4 => by omega
/-- The heap's root is its greatest. -/
theorem Heap.root (hO : Ord lt) (h : Heap lt c f hi 0 hi) : ∀ k, k < hi → ¬ lt (nth c f) (nth c (f + k)) := by
  intro k
  induction k using Nat.strongRecOn with
  | ind k ih =>
    intro hk
    by_cases h0 : k = 0
    · rw [h0]; exact hO.irrefl _
    · have h1 := ih ((k - 1) / 2) (by omega) (by omega)
      exact hO.ntrans _ _ _ h1 (h ((k - 1) / 2) k (by omega) (by omega) (by omega) hk)
/-- Behind k all is sorted and not below what stands ahead. -/
structure HS (lt : HitP → HitP → Prop) (c : List HitP) (f hi k : Nat) : Prop where
  heap : Heap lt c f k 0 k
  srt : Srt lt c (f + k) (f + hi)
  up : ∀ p q, p < k → k ≤ q → q < hi → ¬ lt (nth c (f + q)) (nth c (f + p))
theorem HS.start (h : Heap lt c f hi 0 hi) : HS lt c f hi hi := ⟨h, Srt.small _ _ (by omega), fun p q h1 h2 h3 => by omega⟩
theorem HS.pre (h : HS lt c f hi (k + 1)) (hk : k < hi) (hl : f + hi ≤ c.length) : Heap lt (swp c f (f + k)) f k (0 + 1) k := fun a j h1 h2 h3 h4 => by
  rw [nth_swp (by omega) (by omega), nth_swp (by omega) (by omega), if_neg (by omega), if_neg (by omega), if_neg (by omega), if_neg (by omega)]
  exact h.heap a j (by omega) (by omega) h3 (by omega)
theorem HS.step (hO : Ord lt) (h : HS lt c f hi (k + 1)) (hk : k < hi) (hl : f + hi ≤ c.length) (hs : Seg f (f + k) (swp c f (f + k)) c2) (hh : Heap lt c2 f k 0 k) : HS lt c2 f hi k := by
  have hl2 : f + k ≤ (swp c f (f + k)).length := by rw [swp_length]; omega
  have out : ∀ i, k ≤ i → i < hi → nth c2 (f + i) = if i = k then nth c f else nth c (f + i) := fun i h1 h2 => by
    rw [hs.out hl2 (.inr (by omega)), nth_swp (by omega) (by omega)]
    by_cases e : i = k
    · rw [if_pos e, if_pos (by omega)]
    · rw [if_neg e, if_neg (by omega), if_neg (by omega)]
  have ins : ∀ P : HitP → Prop, (∀ i, i < k + 1 → P (nth c (f + i))) → ∀ i, i < k → P (nth c2 (f + i)) := fun P hP i hi' => by
    refine hs.all hl2 (P := P) (fun j h1 h2 => ?_) (f + i) (by omega) (by omega)
    rw [nth_swp (by omega) (by omega), if_neg (by omega)]
    by_cases e : j = f
    · rw [if_pos e]; exact hP k (by omega)
    · rw [if_neg e]
      have := hP (j - f) (by omega)
      rwa [show f + (j - f) = j from by omega] at this
  have rt := Heap.root hO h.heap
  refine ⟨hh, fun p q h1 h2 h3 => ?_, fun p q h1 h2 h3 => ?_⟩
  · obtain ⟨p', rfl⟩ : ∃ p', p = f + p' := ⟨p - f, by omega⟩
    obtain ⟨q', rfl⟩ : ∃ q', q = f + q' := ⟨q - f, by omega⟩
    rw [out p' (by omega) (by omega), out q' (by omega) (by omega), if_neg (by omega)]
    by_cases e : p' = k
    · rw [if_pos e]
      exact h.up 0 q' (by omega) (by omega) (by omega)
    · rw [if_neg e]
      exact h.srt (f + p') (f + q') (by omega) (by omega) (by omega)
  · rw [out q h2 h3]
    by_cases e : q = k
    · rw [if_pos e]
      exact ins (fun x => ¬ lt (nth c f) x) (fun i hi' => rt i hi') p h1
    · rw [if_neg e]
      exact ins (fun x => ¬ lt (nth c (f + q)) x) (fun i hi' => h.up i q hi' (by omega) h3) p h1
end

/-- The state of the heap sort. -/
structure HW (S : HitP → Prop) (C : World → Prop) (w : World) (g cap n a hi : Nat) (l c : List HitP) (P : Prop) (W : World) : Prop where
  seg : Seg a (a + hi) l c
  len : c.length = n
  mem : ∀ h ∈ c, S h
  st : SSt C w g cap c W
  p : P

set_option maxRecDepth 100000 in
set_option maxHeartbeats 4000000 in
theorem heapSort_any (cf : FuncId) (rv : Value) (ord : HitP → HitP → Int) (S : HitP → Prop) (C : World → Prop) (g n cap cc a b : Nat) (l : List HitP) (w W : World) (hB : CmpB cf rv ord S C g) (hO : Ord (ltO ord)) (hl : ∀ h ∈ l, S h) (hn : l.length = n) (hn1 : n ≤ 1000000000000) (hab : a < b) (hbn : b ≤ n) (hP : SSt C w g cap l W) :
    Calls Try.prog 139 #[.slice (some ⟨g, 0, none⟩) n cc, .int .i64 a, .int .i64 b, .func (.func cf) #[rv] #[]] W fun e w' =>
      e = .returned (.tuple #[]) ∧ ∃ c', Seg a b l c' ∧ Srt (ltO ord) c' a b ∧ SSt C w g cap c' w' := by
  have he := hB.enters
  have HB := Lib.hid hB
  have HO := Lib.hid hO
  have HN := Lib.hid hn
  have HL := Lib.hid hl
  obtain ⟨hi, hhi⟩ : ∃ hi, b = a + hi := ⟨b - a, by omega⟩
  have HBE := Lib.hid hhi
  have E1 := Lib.hid (show (b : Int) - (a : Int) = ((hi : Nat) : Int) from by omega)
  have hbn2 : a + hi ≤ n := by omega
  have hd1 : (1 : Int) ≤ hi := by omega
  have hd2 : 1 ≤ hi := by omega
  have hI : HW S C w g cap n a hi l l (Heap (ltO ord) l a hi ((hi - 1) / 2 + 1) hi) W := ⟨Seg.refl _ _ _, hn, hl, hP, Heap.leaves _ _ _ _ (by omega)⟩
  clear hn hl hB hO hP hhi
  go_enter Try.func139, Try.ntmps139
  go_upto_block 0 with fail
  rw [E1.out]
  go_cut [11] (fun s11 wx => ∃ c, s11 = .int .i64 (-1) ∧ HW S C w g cap n a hi l c (HS (ltO ord) c a hi hi) wx)
  case first =>
    go_wp2_with fail
    go_loopw [11] (fun i wr => ∃ (k : Nat) (c : List HitP), i = .int .i64 ((k : Int) - 1) ∧ k ≤ hi ∧ HW S C w g cap n a hi l c (Heap (ltO ord) c a hi k hi) wr) (fun i _ => (intOf i + 1).toNat)
    case atStart => exact ⟨(hi - 1) / 2 + 1, l, by congr 1; omega, by omega, hI⟩
    case round =>
      clear hI
      obtain ⟨k, c, rfl, hk, hI⟩ := hrel
      by_cases h0 : k = 0
      · subst h0
        have e0 : ((0 : Nat) : Int) - 1 = -1 := by omega
        rw [e0]
        have HI : Hid (HW S C w g cap n a hi l c (HS (ltO ord) c a hi hi) wr) := ⟨hI.seg, hI.len, hI.mem, hI.st, HS.start hI.p⟩
        clear hI e0
        go_wp2_with fail
        go_meet
        exact ⟨c, rfl, HI.out⟩
      · obtain ⟨k', rfl⟩ : ∃ k', k = k' + 1 := ⟨k - 1, by omega⟩
        have e0 : ((k' + 1 : Nat) : Int) - 1 = (k' : Int) := by omega
        rw [e0]
        clear e0 h0
        go_wp2_with fail
        refine (siftDown_any cf rv ord S C g n cap cc k' hi a c w wr HB.out HO.out hI.mem hI.len hn1 (by omega) hbn2 hI.p hI.st).mono ?_
        rintro e W2 ⟨rfl, c', hs, hh, hst⟩
        have HI : Hid (HW S C w g cap n a hi l c' (Heap (ltO ord) c' a hi k' hi) W2) :=
          ⟨hI.seg.trans (hs.mono (by omega) (by omega)), by rw [hs.length, hI.len], seg_S hs (by rw [hI.len]; exact hbn2) hI.mem, hst, hh⟩
        clear hI hs hh hst
        go_wp2
        go_roundw
        case rel => exact ⟨k', c', rfl, by omega, HI.out⟩
        case measure => simp [intOf]; try omega
  case rest =>
    clear hI
    obtain ⟨c, rfl, hI⟩ := hcut
    go_wp2
    go_loopw [12] (fun i wr => ∃ (k : Nat) (c : List HitP), i = .int .i64 ((k : Int) - 1) ∧ k ≤ hi ∧ HW S C w g cap n a hi l c (HS (ltO ord) c a hi k) wr) (fun i _ => (intOf i + 1).toNat)
    case atStart => exact ⟨hi, c, rfl, by omega, hI⟩
    case round =>
      clear hI
      obtain ⟨k, c, rfl, hk, hI⟩ := hrel
      by_cases h0 : k = 0
      · subst h0
        have e0 : ((0 : Nat) : Int) - 1 = -1 := by omega
        rw [e0]
        have HF : Hid (Seg a b l c ∧ Srt (ltO ord) c a b) := by rw [HBE.out]; exact ⟨hI.seg, hI.p.srt⟩
        have HX := Lib.hid hI.st
        clear hI e0
        go_wp2
        go_end0
        exact ⟨rfl, c, HF.out.1, HF.out.2, HX.out⟩
      · obtain ⟨k', rfl⟩ : ∃ k', k = k' + 1 := ⟨k - 1, by omega⟩
        have e0 : ((k' + 1 : Nat) : Int) - 1 = (k' : Int) := by omega
        rw [e0]
        clear e0 h0
        have hkn : a + k' < n := by omega
        have han : a < n := by omega
        obtain ⟨u, v, huv, ⟨x0, x1⟩, ⟨fx0, fx1⟩, ⟨y0, y1⟩, ⟨fy0, fy1⟩, hX⟩ := hI.st.xch HB.out (i := a) (j := a + k') (by rw [hI.len]; omega) (by rw [hI.len]; omega)
        go_upto_region 11 with fail
        go_cut [] (fun wx => SSt C w g cap (swp c a (a + k')) wx)
        case first =>
          by_cases hpa : k' = 0
          · subst hpa
            have huv' := huv rfl
            subst huv'
            clear huv
            have HX := Lib.hid hX
            clear hX
            go_region
            go_wp2_with fail
            go_meet
            exact HX.out
          · clear huv
            have HX := Lib.hid hX
            clear hX
            go_region
            go_wp2_with fail
            go_meet
            exact HX.out
        case rest =>
          clear huv hX x0 x1 fx0 fx1 y0 y1 fy0 fy1
          have hsw : Seg a (a + hi) c (swp c a (a + k')) := Seg.swap c (by omega) (by omega)
          have hm2 := seg_S hsw (by rw [hI.len]; exact hbn2) hI.mem
          have hl2 : (swp c a (a + k')).length = n := by rw [swp_length, hI.len]
          have hpre := hI.p.pre (by omega) (by rw [hI.len]; exact hbn2)
          go_wp2_with fail
          refine (siftDown_any cf rv ord S C g n cap cc 0 k' a (swp c a (a + k')) w wc HB.out HO.out hm2 hl2 hn1 (by omega) (by omega) hpre hcut).mono ?_
          rintro e W2 ⟨rfl, c', hs, hh, hst⟩
          have HI : Hid (HW S C w g cap n a hi l c' (HS (ltO ord) c' a hi k') W2) :=
            ⟨hI.seg.trans (hsw.trans (hs.mono (by omega) (by omega))), by rw [hs.length, hl2], seg_S hs (by rw [hl2]; omega) hm2, hst, hI.p.step HO.out (by omega) (by rw [hI.len]; exact hbn2) hs hh⟩
          clear hI hs hh hst hsw hm2 hl2 hpre hcut
          go_wp2
          go_roundw
          case rel => exact ⟨k', c', rfl, by omega, HI.out⟩
          case measure => simp [intOf]; try omega

end Go.Proofs.Ytmpmjkbjnklgfaa

/- The sort's partial insertion sort: plain laws. -/

namespace Go.Proofs.Ytmpmjkbjnklgfaa
set_option linter.unusedVariables false

section
variable {lt : HitP → HitP → Prop} {c d : List HitP} {a b i : Nat}
/-- Two neighbours that stand wrong, exchanged: what stands ahead of them stays sorted, the right one is above all of it. -/
theorem pins_swap (hO : Ord lt) (h : Srt lt c a (i + 1)) (hi : i + 1 < c.length) (ha : a ≤ i) (hlt : lt (nth c (i + 1)) (nth c i)) :
    Srt lt (swp c (i + 1) i) a i ∧ ∀ p, a ≤ p → p < i + 1 → ¬ lt (nth (swp c (i + 1) i) (i + 1)) (nth (swp c (i + 1) i) p) := by
  refine ⟨fun p q h1 h2 h3 => ?_, fun p h1 h2 => ?_⟩
  · rw [nth_swp (by omega) (by omega), nth_swp (by omega) (by omega), if_neg (by omega), if_neg (by omega), if_neg (by omega), if_neg (by omega)]
    exact h p q h1 h2 (by omega)
  · rw [nth_swp (by omega) (by omega), nth_swp (by omega) (by omega), if_neg (by omega), if_pos rfl]
    by_cases e : p = i
    · rw [if_pos e]; exact hO.asym _ _ hlt
    · rw [if_neg e, if_neg (by omega)]
      exact h p i h1 (by omega) (by omega)
/-- One more that is not below those ahead. -/
theorem Srt.more (h : Srt lt c a i) (h1 : ∀ p, a ≤ p → p < i → ¬ lt (nth c i) (nth c p)) : Srt lt c a (i + 1) := fun p q g1 g2 g3 => by
  by_cases e : q = i
  · rw [e]; exact h1 p g1 (by omega)
  · exact h p q g1 g2 (by omega)
/-- A sorted row's next: not below its neighbour, so not below all ahead. -/
theorem Srt.next (hO : Ord lt) (h : Srt lt c a (i + 1)) (ha : a ≤ i) (h1 : ¬ lt (nth c (i + 1)) (nth c i)) : Srt lt c a (i + 1 + 1) := h.more fun p g1 g2 => by
  by_cases e : p = i
  · rw [e]; exact h1
  · exact hO.ntrans _ _ _ h1 (h p i g1 (by omega) (by omega))
/-- Exchanges behind i leave what is ahead sorted. -/
theorem Srt.keep (h : Srt lt c a i) (hs : Seg i b c d) (hb : b ≤ c.length) : Srt lt d a i := fun p q g1 g2 g3 => by
  rw [hs.out hb (.inl (by omega)), hs.out hb (.inl (by omega))]
  exact h p q g1 g2 g3
/-- The parts about a pivot, each sorted: all is. -/
theorem Srt.join {m : Nat} (hO : Ord lt) (hl : Srt lt c a m) (hr : Srt lt c (m + 1) b) (h1 : ∀ i, a ≤ i → i < m → ¬ lt (nth c m) (nth c i)) (h2 : ∀ i, m < i → i < b → ¬ lt (nth c i) (nth c m)) : Srt lt c a b := fun p q g1 g2 g3 => by
  by_cases e : q < m
  · exact hl p q g1 g2 e
  · by_cases e2 : q = m
    · rw [e2]; exact h1 p g1 (by omega)
    · by_cases e3 : p < m
      · exact hO.ntrans _ _ _ (h2 q (by omega) g3) (h1 p g1 e3)
      · by_cases e4 : p = m
        · rw [e4]; exact h2 q (by omega) g3
        · exact hr p q (by omega) g2 g3
end

end Go.Proofs.Ytmpmjkbjnklgfaa

/- The sort's partial insertion sort, walked. -/



namespace Go.Proofs.Ytmpmjkbjnklgfaa
open Go.RowKit Go.Sort
set_option linter.unusedVariables false
set_option linter.unusedSimpArgs false

/-- All that stands left of a is at most what stands from a to b. -/
def Low (lt : HitP → HitP → Prop) (c : List HitP) (a b : Nat) : Prop := ∀ p q, p < a → a ≤ q → q < b → ¬ lt (nth c q) (nth c p)
theorem Low.seg {lt : HitP → HitP → Prop} {c d : List HitP} {a b : Nat} (h : Low lt c a b) (hs : Seg a b c d) (hb : b ≤ c.length) : Low lt d a b := fun p q h1 h2 h3 => by
  rw [hs.out hb (.inl h1)]
  exact hs.all hb (P := fun x => ¬ lt x (nth c p)) (fun i g1 g2 => h p i h1 g1 g2) q h2 h3

/-- The state of the partial insertion sort, of which P says more. -/
structure PS (S : HitP → Prop) (C : World → Prop) (w : World) (g cap n a b : Nat) (l c : List HitP) (P : Prop) (W : World) : Prop where
  seg : Seg a b l c
  len : c.length = n
  mem : ∀ h ∈ c, S h
  st : SSt C w g cap c W
  p : P
section
variable {cf : FuncId} {rv : Value} {ord : HitP → HitP → Int} {S : HitP → Prop} {C : World → Prop} {g cap n a b i j : Nat} {l c : List HitP} {w W W' : World} {P Q : Prop}
theorem PS.below (hB : CmpB cf rv ord S C g) (h : PS S C w g cap n a b l c P W) (hb : Below W.heap.size W W') : PS S C w g cap n a b l c P W' := ⟨h.seg, h.len, h.mem, h.st.below hB hb, h.p⟩
theorem PS.to (h : PS S C w g cap n a b l c P W) (q : Q) : PS S C w g cap n a b l c Q W := ⟨h.seg, h.len, h.mem, h.st, q⟩
theorem PS.swap (h : PS S C w g cap n a b l c P W) (hi : a ≤ i ∧ i < b) (hj : a ≤ j ∧ j < b) (hb : b ≤ n) (hs : SSt C w g cap (swp c i j) W') (q : Q) : PS S C w g cap n a b l (swp c i j) Q W' :=
  ⟨h.seg.trans (Seg.swap c hi hj), by rw [swp_length, h.len], seg_S (Seg.swap c hi hj) (by rw [h.len]; exact hb) h.mem, hs, q⟩
end

end Go.Proofs.Ytmpmjkbjnklgfaa

/- The sort's partial insertion sort, walked. -/

namespace Go.Proofs.Ytmpmjkbjnklgfaa
open Go.RowKit Go.Sort
set_option linter.unusedVariables false
set_option linter.unusedSimpArgs false

/-- What the partial insertion sort promises. -/
def PinsE (ord : HitP → HitP → Int) (C : World → Prop) (w : World) (g cap a b : Nat) (l : List HitP) (e : Ending) (w' : World) : Prop :=
  ∃ (t : Bool) (c' : List HitP), e = .returned (.bool t) ∧ Seg a b l c' ∧ (t = true → Srt (ltO ord) c' a b) ∧ SSt C w g cap c' w'

set_option maxRecDepth 100000 in
set_option maxHeartbeats 8000000 in
theorem partialIns_any (cf : FuncId) (rv : Value) (ord : HitP → HitP → Int) (S : HitP → Prop) (C : World → Prop) (g n cap cc a b : Nat) (l : List HitP) (w W : World) (hB : CmpB cf rv ord S C g) (hO : Ord (ltO ord)) (hl : ∀ h ∈ l, S h) (hn : l.length = n) (hn1 : n ≤ 1000000000000) (hab : a < b) (hbn : b ≤ n) (hlow : Low (ltO ord) l a b) (hP : SSt C w g cap l W) :
    Calls Try.prog 143 #[.slice (some ⟨g, 0, none⟩) n cc, .int .i64 a, .int .i64 b, .func (.func cf) #[rv] #[]] W fun e w' => PinsE ord C w g cap a b l e w' := by
  have he := hB.enters
  have HB := Lib.hid hB
  have HO := Lib.hid hO
  have HN := Lib.hid hn
  have HLOW := Lib.hid hlow
  have hI : PS S C w g cap n a b l l (Srt (ltO ord) l a (a + 1)) W := ⟨Seg.refl _ _ _, hn, hl, hP, Srt.small _ _ (by omega)⟩
  clear hn hl hB hO hP hlow
  go_enter Try.func143, Try.ntmps143
  go_wp2
  go_loopw [9, 10, 11, 12] (fun i j _ _ wr => ∃ (k t : Nat) (c : List HitP), i = .int .i64 k ∧ j = .int .i64 t ∧ a + 1 ≤ k ∧ k ≤ b ∧ t ≤ 5 ∧ PS S C w g cap n a b l c (Srt (ltO ord) c a k) wr) (fun _ j _ _ _ => 5 - (intOf j).toNat)
  case atStart => exact ⟨a + 1, 0, l, by go_num, rfl, by omega, by omega, by omega, hI⟩
  case round =>
    clear hI
    obtain ⟨k0, t, c0, rfl, rfl, hk1, hk2, ht, hI⟩ := hrel
    by_cases ht5 : t < 5
    · have hdt : decide ((t : Int) < 5) = true := by simp; omega
      go_upto_block 2 with fail
      go_cut [9] (fun s9 wx => ∃ (k : Nat) (c : List HitP), s9 = .int .i64 k ∧ a + 1 ≤ k ∧ k ≤ b ∧ PS S C w g cap n a b l c (Srt (ltO ord) c a k ∧ (k < b → ltO ord (nth c k) (nth c (k - 1)))) wx)
      case first =>
        go_wp2_with fail
        go_loopw [9] (fun i wr => ∃ (k : Nat) (c : List HitP), i = .int .i64 k ∧ a + 1 ≤ k ∧ k ≤ b ∧ PS S C w g cap n a b l c (Srt (ltO ord) c a k) wr) (fun i _ => b - (intOf i).toNat)
        case atStart => exact ⟨k0, c0, rfl, hk1, hk2, hI⟩
        case round =>
          clear hI hk1 hk2
          obtain ⟨k, c, rfl, hk1, hk2, hI⟩ := hrel
          by_cases hkb : k < b
          · obtain ⟨m, rfl⟩ : ∃ m, k = m + 1 := ⟨k - 1, by omega⟩
            obtain ⟨u, v, HU, HV, gx0, gx1, gy0, gy1, hcall⟩ := hI.st.look HB.out hI.mem (k := m + 1) (j := m) (by rw [hI.len]; omega) (by rw [hI.len]; omega)
            have hd0 : decide ((m : Int) + 1 < b) = true := by simp; omega
            go_wp2
            refine wp_region_quiet_below mixed (by kernel_rfl) ?_
            repeat (go_big_quiet_step (exact grown_below (hcall _ _)))
            refine wpQuiet_nil ?_
            rintro _ ⟨⟨dq, osq⟩, rfl⟩
            have hI2 := hI.below HB.out (below_regrown wr dq osq)
            clear gx0 gx1 gy0 gy1 hcall hI
            dsimp only
            obtain ⟨W2, hW2⟩ : ∃ W2, W2 = grow (redrawn wr dq) osq := ⟨_, rfl⟩
            rw [← hW2] at hI2 ⊢
            clear hW2
            by_cases hxy : ord u v < 0
            · have hdx : decide (ord u v < 0) = true := by simp [hxy]
              rw [hdx]
              have HXY : Hid (ltO ord (nth c (m + 1)) (nth c (m))) := by rw [Hid, ltO, HU.out, HV.out]; exact hxy
              clear hxy hdx HU HV
              have hI3 := hI2.to (Q := Srt (ltO ord) c a (m + 1) ∧ (m + 1 < b → ltO ord (nth c (m + 1)) (nth c (m + 1 - 1)))) ⟨hI2.p, fun _ => HXY.out⟩
              clear hI2 HXY
              go_wp2_with fail
              go_meet
              exact ⟨m + 1, c, by go_num, hk1, hk2, hI3⟩
            · have hdx : decide (ord u v < 0) = false := by simp [hxy]
              rw [hdx]
              have HXY : Hid (¬ ltO ord (nth c (m + 1)) (nth c (m))) := by rw [Hid, ltO, HU.out, HV.out]; exact hxy
              clear hxy hdx HU HV
              have hI3 := hI2.to (Q := Srt (ltO ord) c a (m + 1 + 1)) (hI2.p.next HO.out (by omega) HXY.out)
              clear hI2 HXY
              go_wp2
              go_roundw
              case rel => exact ⟨m + 1 + 1, c, by go_num, by omega, by omega, hI3⟩
              case measure => simp [intOf]; omega
          · have hd0 : decide ((k : Int) < b) = false := by simp; omega
            have hI3 := hI.to (Q := Srt (ltO ord) c a k ∧ (k < b → ltO ord (nth c k) (nth c (k - 1)))) ⟨hI.p, fun h => absurd h hkb⟩
            go_wp2
            go_quiet (fail)
            go_wp2_with fail
            go_meet
            exact ⟨k, c, rfl, hk1, hk2, hI3.below HB.out ⟨rfl, rfl, rfl, Nat.le_refl _, fun _ _ => rfl⟩⟩
      case rest =>
        clear hI hk1 hk2
        obtain ⟨k, c, rfl, hk1, hk2, hI⟩ := hcut
        by_cases hkb : k = b
        · have hde : ((k : Int) == b) = true := by simp [hkb]
          have HF : Hid (Seg a b l c ∧ (true = true → Srt (ltO ord) c a b)) := ⟨hI.seg, fun _ => hkb ▸ hI.p.1⟩
          have HX := Lib.hid hI.st
          clear hI hkb
          go_wp2
          go_ret
          unfold PinsE
          exact ⟨true, c, rfl, HF.out.1, fun _ => HF.out.2 trivial, HX.out⟩
        · have hde : ((k : Int) == b) = false := by simp; omega
          have hkb2 : k < b := by omega
          by_cases h50 : b < a + 50
          · have hd5 : decide ((b : Int) - a < 50) = true := by simp; omega
            have HF : Hid (Seg a b l c ∧ (false = true → Srt (ltO ord) c a b)) := ⟨hI.seg, fun h => by cases h⟩
            have HX := Lib.hid hI.st
            clear hI
            go_wp2
            go_ret
            unfold PinsE
            exact ⟨false, c, rfl, HF.out.1, HF.out.2, HX.out⟩
          · have hd5 : decide ((b : Int) - a < 50) = false := by simp; omega
            obtain ⟨m, rfl⟩ : ∃ m, k = m + 1 := ⟨k - 1, by omega⟩
            have hps := pins_swap HO.out hI.p.1 (by rw [hI.len]; omega) (by omega) (hI.p.2 hkb2)
            obtain ⟨u, v, huv, ⟨x0, x1⟩, ⟨fx0, fx1⟩, ⟨y0, y1⟩, ⟨fy0, fy1⟩, hX⟩ := hI.st.xch HB.out (i := m + 1) (j := m) (by rw [hI.len]; omega) (by rw [hI.len]; omega)
            have HX := Lib.hid (hI.swap (by omega) (by omega) hbn hX (hps.1))
            clear huv hX hI
            clear hps
            obtain ⟨B2, hd2⟩ : ∃ B2, decide ((2 : Int) ≤ (m : Int) + 1 - a) = B2 := ⟨_, rfl⟩
            go_wp2
            go_region
            go_upto_if 65 with fail
            have HD2 := Lib.hid hd2
            clear hd2
            go_cut [] (fun wx => ∃ c, PS S C w g cap n a b l c (Srt (ltO ord) c a (m + 1)) wx)
            case first =>
              cases B2 with
              | false =>
                have hma : m = a := by have := of_decide_eq_false HD2.out; omega
                have hI2 := HX.out.to (Q := Srt (ltO ord) (swp c (m + 1) m) a (m + 1)) (Srt.small _ _ (by omega))
                clear hma HX
                go_wp2_with fail
                go_meet
                exact ⟨_, hI2⟩
              | true =>
                have hma : a < m := by have := of_decide_eq_true HD2.out; omega
                have hI2 := HX.out.to (Q := Ins (ltO ord) (swp c (m + 1) m) a m m) (Ins.start HX.out.p)
                clear HX
                go_wp2_with fail
                go_loopw [11] (fun j wr => ∃ (q : Nat) (c : List HitP), j = .int .i64 q ∧ a ≤ q ∧ q ≤ m ∧ PS S C w g cap n a b l c (Ins (ltO ord) c a m q) wr) (fun j _ => (intOf j).toNat)
                case atStart => exact ⟨m, _, by go_num, by omega, by omega, hI2⟩
                case round =>
                  clear hI2
                  obtain ⟨q, c, rfl, hq1, hq2, hI⟩ := hrel
                  by_cases hq0 : 1 ≤ q
                  · obtain ⟨r, rfl⟩ : ∃ r, q = r + 1 := ⟨q - 1, by omega⟩
                    obtain ⟨u, v, HU, HV, gx0, gx1, gy0, gy1, hcall⟩ := hI.st.look HB.out hI.mem (k := r + 1) (j := r) (by rw [hI.len]; omega) (by rw [hI.len]; omega)
                    go_wp2
                    refine wp_region_quiet_below mixed (by kernel_rfl) ?_
                    repeat (go_big_quiet_step (exact grown_below (hcall _ _)))
                    refine wpQuiet_nil ?_
                    rintro _ ⟨⟨dq, osq⟩, rfl⟩
                    have hI2 := hI.below HB.out (below_regrown wr dq osq)
                    clear gx0 gx1 gy0 gy1 hcall hI
                    dsimp only
                    obtain ⟨W2, hW2⟩ : ∃ W2, W2 = grow (redrawn wr dq) osq := ⟨_, rfl⟩
                    rw [← hW2] at hI2 ⊢
                    clear hW2
                    by_cases hxy : ord u v < 0
                    · have hdx : decide (ord u v < 0) = true := by simp [hxy]
                      rw [hdx]
                      have HXY : Hid (ltO ord (nth c (r + 1)) (nth c (r))) := by rw [Hid, ltO, HU.out, HV.out]; exact hxy
                      clear hxy hdx HU HV
                      have hra : a ≤ r := by
                        by_cases e : a ≤ r
                        · exact e
                        · exact absurd HXY.out ((HLOW.out.seg hI2.seg (by rw [HN.out]; exact hbn)) r (r + 1) (by omega) (by omega) (by omega))
                      have hst := Ins.step HO.out hI2.p hra (by omega) (by rw [hI2.len]; omega) HXY.out
                      obtain ⟨u, v, huv, ⟨x0, x1⟩, ⟨fx0, fx1⟩, ⟨y0, y1⟩, ⟨fy0, fy1⟩, hX⟩ := hI2.st.xch HB.out (i := r + 1) (j := r) (by rw [hI2.len]; omega) (by rw [hI2.len]; omega)
                      have HX := Lib.hid (hI2.swap (by omega) (by omega) hbn hX (hst))
                      clear huv hX hI2
                      clear hst HXY
                      go_wp2
                      go_region
                      go_wp2
                      go_roundw
                      case rel => exact ⟨r, _, by go_num, by omega, by omega, HX.out⟩
                      case measure => simp [intOf]; try omega
                    · have hdx : decide (ord u v < 0) = false := by simp [hxy]
                      rw [hdx]
                      have HXY : Hid (¬ ltO ord (nth c (r + 1)) (nth c (r))) := by rw [Hid, ltO, HU.out, HV.out]; exact hxy
                      clear hxy hdx HU HV
                      have hI3 := hI2.to (Q := Srt (ltO ord) c a (m + 1)) (Ins.stop HO.out hI2.p (by omega) (.inr HXY.out))
                      clear hI2 HXY
                      go_wp2_with fail
                      go_meet
                      exact ⟨c, hI3⟩
                  · obtain rfl : q = 0 := by omega
                    have hI3 := hI.to (Q := Srt (ltO ord) c a (m + 1)) (Ins.stop HO.out hI.p (by omega) (.inl (by omega)))
                    clear hI
                    go_wp2_with fail
                    go_meet
                    exact ⟨c, hI3⟩
            case rest =>
              clear HX x0 x1 fx0 fx1 y0 y1 fy0 fy1
              obtain ⟨c, hI⟩ := hcut
              by_cases hbi : b < m + 3
              · have hd2 : decide ((2 : Int) ≤ (b : Int) - ((m : Int) + 1)) = false := by simp; omega
                go_wp2
                go_roundw
                case rel => exact ⟨m + 1, t + 1, c, by go_num, by go_num, by omega, by omega, by omega, hI⟩
                case measure => simp [intOf]; omega
              · have hd2 : decide ((2 : Int) ≤ (b : Int) - ((m : Int) + 1)) = true := by simp; omega
                go_wp2_with fail
                go_loopw [12] (fun j wr => ∃ (q : Nat) (c : List HitP), j = .int .i64 q ∧ m + 2 ≤ q ∧ q ≤ b ∧ PS S C w g cap n a b l c (Srt (ltO ord) c a (m + 1)) wr) (fun j _ => b - (intOf j).toNat)
                case atStart => exact ⟨m + 2, c, by go_num, by omega, by omega, hI⟩
                case round =>
                  clear hI
                  obtain ⟨q, c, rfl, hq1, hq2, hI⟩ := hrel
                  by_cases hqb : q < b
                  · obtain ⟨r, rfl⟩ : ∃ r, q = r + 1 := ⟨q - 1, by omega⟩
                    obtain ⟨u, v, HU, HV, gx0, gx1, gy0, gy1, hcall⟩ := hI.st.look HB.out hI.mem (k := r + 1) (j := r) (by rw [hI.len]; omega) (by rw [hI.len]; omega)
                    have hd0 : decide ((r : Int) + 1 < b) = true := by simp; omega
                    go_wp2
                    refine wp_region_quiet_below mixed (by kernel_rfl) ?_
                    repeat (go_big_quiet_step (exact grown_below (hcall _ _)))
                    refine wpQuiet_nil ?_
                    rintro _ ⟨⟨dq, osq⟩, rfl⟩
                    have hI2 := hI.below HB.out (below_regrown wr dq osq)
                    clear gx0 gx1 gy0 gy1 hcall hI
                    dsimp only
                    obtain ⟨W2, hW2⟩ : ∃ W2, W2 = grow (redrawn wr dq) osq := ⟨_, rfl⟩
                    rw [← hW2] at hI2 ⊢
                    clear hW2
                    by_cases hxy : ord u v < 0
                    · have hdx : decide (ord u v < 0) = true := by simp [hxy]
                      rw [hdx]
                      have HXY : Hid (ltO ord (nth c (r + 1)) (nth c (r))) := by rw [Hid, ltO, HU.out, HV.out]; exact hxy
                      clear hxy hdx HU HV
                      have hst := Srt.keep hI2.p (Seg.swap (a := m + 1) (b := b) c (i := r + 1) (j := r) (by omega) (by omega)) (by rw [hI2.len]; exact hbn)
                      obtain ⟨u, v, huv, ⟨x0, x1⟩, ⟨fx0, fx1⟩, ⟨y0, y1⟩, ⟨fy0, fy1⟩, hX⟩ := hI2.st.xch HB.out (i := r + 1) (j := r) (by rw [hI2.len]; omega) (by rw [hI2.len]; omega)
                      have HX := Lib.hid (hI2.swap (by omega) (by omega) hbn hX (hst))
                      clear huv hX hI2
                      clear hst HXY
                      go_wp2
                      go_region
                      go_wp2
                      go_roundw
                      case rel => exact ⟨r + 1 + 1, _, by go_num, by omega, by omega, HX.out⟩
                      case measure => simp [intOf]; try omega
                    · have hdx : decide (ord u v < 0) = false := by simp [hxy]
                      rw [hdx]
                      have HXY : Hid (¬ ltO ord (nth c (r + 1)) (nth c (r))) := by rw [Hid, ltO, HU.out, HV.out]; exact hxy
                      clear hxy hdx HU HV
                      clear HXY
                      go_wp2
                      go_roundw
                      case rel => exact ⟨m + 1, t + 1, c, by go_num, by go_num, by omega, by omega, by omega, hI2⟩
                      case measure => simp [intOf]; omega
                  · have hd0 : decide ((q : Int) < b) = false := by simp; omega
                    go_wp2
                    go_roundw
                    case rel => exact ⟨m + 1, t + 1, c, by go_num, by go_num, by omega, by omega, by omega, hI⟩
                    case measure => simp [intOf]; omega
    · have hdt : decide ((t : Int) < 5) = false := by simp; omega
      have HF : Hid (Seg a b l c0 ∧ (false = true → Srt (ltO ord) c0 a b)) := ⟨hI.seg, fun h => by cases h⟩
      have HX := Lib.hid hI.st
      clear hI
      go_wp2
      go_ret
      unfold PinsE
      exact ⟨false, c0, rfl, HF.out.1, HF.out.2, HX.out⟩

end Go.Proofs.Ytmpmjkbjnklgfaa

/- The sort's main function: plain laws. -/

namespace Go.Proofs.Ytmpmjkbjnklgfaa
set_option linter.unusedVariables false

/-- Between x and y it is still to be sorted; what stands left of x and what stands from y on is sorted, and stands right. -/
structure QS (lt : HitP → HitP → Prop) (c : List HitP) (a b x y : Nat) : Prop where
  s1 : Srt lt c a x
  s2 : Srt lt c y b
  l1 : ∀ p q, a ≤ p → p < x → x ≤ q → q < b → ¬ lt (nth c q) (nth c p)
  l2 : ∀ p q, a ≤ p → p < y → y ≤ q → q < b → ¬ lt (nth c q) (nth c p)
  low : Low lt c a b
section
variable {lt : HitP → HitP → Prop} {c d e : List HitP} {a b x y m pv : Nat}
theorem QS.start (h : Low lt c a b) : QS lt c a b a b :=
  ⟨Srt.small _ _ (by omega), Srt.small _ _ (by omega), fun p q h1 h2 h3 h4 => by omega, fun p q h1 h2 h3 h4 => by omega, h⟩
theorem QS.seg (h : QS lt c a b x y) (hs : Seg x y c d) (ha : a ≤ x) (hxy : x ≤ y) (hy : y ≤ b) (hb : b ≤ c.length) : QS lt d a b x y := by
  have hyl : y ≤ c.length := by omega
  refine ⟨fun p q h1 h2 h3 => ?_, fun p q h1 h2 h3 => ?_, fun p q h1 h2 h3 h4 => ?_, fun p q h1 h2 h3 h4 => ?_, h.low.seg (hs.mono ha hy) hb⟩
  · rw [hs.out hyl (.inl (by omega)), hs.out hyl (.inl (by omega))]
    exact h.s1 p q h1 h2 h3
  · rw [hs.out hyl (.inr (by omega)), hs.out hyl (.inr (by omega))]
    exact h.s2 p q h1 h2 h3
  · rw [hs.out hyl (i := p) (.inl h2)]
    by_cases hq : q < y
    · exact hs.all hyl (P := fun z => ¬ lt z (nth c p)) (fun i g1 g2 => h.l1 p i h1 h2 g1 (by omega)) q h3 hq
    · rw [hs.out hyl (i := q) (.inr (by omega))]
      exact h.l1 p q h1 h2 h3 h4
  · rw [hs.out hyl (i := q) (.inr h3)]
    by_cases hp : x ≤ p
    · exact hs.all hyl (P := fun z => ¬ lt (nth c q) z) (fun i g1 g2 => h.l2 i q (by omega) g2 h3 h4) p hp h2
    · rw [hs.out hyl (i := p) (.inl (by omega))]
      exact h.l2 p q h1 h2 h3 h4
theorem QS.lowIn (h : QS lt c a b x y) (ha : a ≤ x) (hy : y ≤ b) : Low lt c x y := fun p q h1 h2 h3 => by
  by_cases hp : p < a
  · exact h.low p q hp (by omega) (by omega)
  · exact h.l1 p q (by omega) h1 h2 (by omega)
theorem QS.done (h : QS lt c a b x y) (hs : Srt lt c x y) : Srt lt c a b := fun p q h1 h2 h3 => by
  by_cases e1 : q < x
  · exact h.s1 p q h1 h2 e1
  · by_cases e2 : p < x
    · exact h.l1 p q h1 e2 (by omega) h3
    · by_cases e3 : q < y
      · exact hs p q (by omega) h2 e3
      · by_cases e4 : p < y
        · exact h.l2 p q h1 e4 (by omega) h3
        · exact h.s2 p q (by omega) h2 h3
end
section
variable {ord : HitP → HitP → Int} {c d e : List HitP} {a b x y m pv : Nat}
theorem QS.left (hO : Ord (ltO ord)) (h : QS (ltO ord) c a b x y) (hp : Parted ord x y c d m) (hs : Seg x m d e) (hS : Srt (ltO ord) e x m) (ha : a ≤ x) (hm : x ≤ m ∧ m < y) (hy : y ≤ b) (hb : b ≤ c.length) : QS (ltO ord) e a b (m + 1) y := by
  have hdl : d.length = c.length := hp.seg.length
  have hd := h.seg hp.seg ha (by omega) hy hb
  have he := hd.seg (hs.mono (Nat.le_refl _) (by omega)) ha (by omega) hy (by omega)
  have hml : m ≤ d.length := by omega
  have em : nth e m = nth d m := hs.out hml (.inr (Nat.le_refl _))
  have hL : ∀ i, x ≤ i → i < m → ¬ ltO ord (nth e m) (nth e i) := fun i g1 g2 => by
    rw [em]
    exact hs.all hml (P := fun z => ¬ ltO ord (nth d m) z) (fun i g1 g2 => hO.asym _ _ (hp.left i g1 g2)) i g1 g2
  have hR : ∀ i, m < i → i < y → ¬ ltO ord (nth e i) (nth e m) := fun i g1 g2 => by
    rw [em, hs.out hml (.inr (by omega))]
    exact hp.right i g1 g2
  refine ⟨fun p q h1 h2 h3 => ?_, he.s2, fun p q h1 h2 h3 h4 => ?_, he.l2, he.low⟩
  · by_cases e1 : q < x
    · exact he.s1 p q h1 h2 e1
    · by_cases e2 : p < x
      · exact he.l1 p q h1 e2 (by omega) (by omega)
      · by_cases e3 : q < m
        · exact hS p q (by omega) h2 e3
        · obtain rfl : q = m := by omega
          exact hL p (by omega) h2
  · by_cases e1 : y ≤ q
    · exact he.l2 p q h1 (by omega) e1 h4
    · by_cases e2 : p < x
      · exact he.l1 p q h1 e2 (by omega) h4
      · by_cases e3 : p = m
        · rw [e3]; exact hR q (by omega) (by omega)
        · exact hO.ntrans _ _ _ (hR q (by omega) (by omega)) (hL p (by omega) (by omega))
theorem QS.right (hO : Ord (ltO ord)) (h : QS (ltO ord) c a b x y) (hp : Parted ord x y c d m) (hs : Seg (m + 1) y d e) (hS : Srt (ltO ord) e (m + 1) y) (ha : a ≤ x) (hm : x ≤ m ∧ m < y) (hy : y ≤ b) (hb : b ≤ c.length) : QS (ltO ord) e a b x m := by
  have hdl : d.length = c.length := hp.seg.length
  have hd := h.seg hp.seg ha (by omega) hy hb
  have he := hd.seg (hs.mono (by omega) (Nat.le_refl _)) ha (by omega) hy (by omega)
  have hyl : y ≤ d.length := by omega
  have em : nth e m = nth d m := hs.out hyl (.inl (by omega))
  have hL : ∀ i, x ≤ i → i < m → ¬ ltO ord (nth e m) (nth e i) := fun i g1 g2 => by
    rw [em, hs.out hyl (.inl (by omega))]
    exact hO.asym _ _ (hp.left i g1 g2)
  have hR : ∀ i, m < i → i < y → ¬ ltO ord (nth e i) (nth e m) := fun i g1 g2 => by
    rw [em]
    exact hs.all hyl (P := fun z => ¬ ltO ord z (nth d m)) (fun i g1 g2 => hp.right i (by omega) g2) i (by omega) g2
  refine ⟨he.s1, fun p q h1 h2 h3 => ?_, he.l1, fun p q h1 h2 h3 h4 => ?_, he.low⟩
  · by_cases e1 : q < y
    · by_cases e2 : p = m
      · rw [e2]; exact hR q (by omega) e1
      · exact hS p q (by omega) h2 e1
    · by_cases e2 : p < y
      · exact he.l2 p q (by omega) e2 (by omega) h3
      · exact he.s2 p q (by omega) h2 h3
  · by_cases e1 : y ≤ q
    · exact he.l2 p q h1 (by omega) e1 h4
    · by_cases e2 : p < x
      · exact he.l1 p q h1 e2 (by omega) h4
      · by_cases e3 : q = m
        · rw [e3]; exact hL p (by omega) h2
        · exact hO.ntrans _ _ _ (hR q (by omega) (by omega)) (hL p (by omega) h2)
theorem QS.eq (hO : Ord (ltO ord)) (h : QS (ltO ord) c a b x y) (hp : PartEq ord x y pv c d m) (h0 : 0 < x) (hv : ¬ ltO ord (nth c (x - 1)) (nth c pv)) (ha : a ≤ x) (hm : x < m ∧ m ≤ y) (hy : y ≤ b) (hb : b ≤ c.length) : QS (ltO ord) d a b m y := by
  have hd := h.seg hp.seg ha (by omega) hy hb
  have hyl : y ≤ c.length := by omega
  have e1 : nth d (x - 1) = nth c (x - 1) := hp.seg.out hyl (.inl (by omega))
  have hU : ∀ q, x ≤ q → q < b → ¬ ltO ord (nth d q) (nth c pv) := fun q g1 g2 => by
    have g : ¬ ltO ord (nth d q) (nth d (x - 1)) := by
      by_cases e : a ≤ x - 1
      · exact hd.l1 (x - 1) q e (by omega) g1 g2
      · exact hd.low (x - 1) q (by omega) (by omega) g2
    rw [e1] at g
    exact hO.ntrans _ _ _ g hv
  have hE : ∀ p q, x ≤ p → p < m → x ≤ q → q < b → ¬ ltO ord (nth d q) (nth d p) := fun p q g1 g2 g3 g4 =>
    hO.ntrans _ _ _ (hU q g3 g4) (hp.left p g1 g2)
  refine ⟨fun p q h1 h2 h3 => ?_, hd.s2, fun p q h1 h2 h3 h4 => ?_, hd.l2, hd.low⟩
  · by_cases e1 : q < x
    · exact hd.s1 p q h1 h2 e1
    · by_cases e2 : p < x
      · exact hd.l1 p q h1 e2 (by omega) (by omega)
      · exact hE p q (by omega) (by omega) (by omega) (by omega)
  · by_cases e2 : p < x
    · exact hd.l1 p q h1 e2 (by omega) h4
    · exact hE p q (by omega) h2 (by omega) h4
end

end Go.Proofs.Ytmpmjkbjnklgfaa

/- The sort's main function, walked. -/






namespace Go.Proofs.Ytmpmjkbjnklgfaa
open Go.RowKit Go.Sort
set_option linter.unusedVariables false
set_option linter.unusedSimpArgs false

set_option maxRecDepth 100000 in
set_option maxHeartbeats 40000000 in
theorem pdq_any (cf : FuncId) (rv : Value) (ord : HitP → HitP → Int) (S : HitP → Prop) (C : World → Prop) (g n cap cc : Nat) (w : World) (hB : CmpB cf rv ord S C g) (hO : Ord (ltO ord)) (hn1 : n ≤ 1000000000000) :
    ∀ (N a b lim : Nat) (l : List HitP) (W : World), b ≤ a + N → a ≤ b → b ≤ n → lim ≤ 64 → (∀ h ∈ l, S h) → l.length = n → Low (ltO ord) l a b → SSt C w g cap l W →
    Calls Try.prog 107 #[.slice (some ⟨g, 0, none⟩) n cc, .int .i64 a, .int .i64 b, .int .i64 lim, .func (.func cf) #[rv] #[]] W fun e w' =>
      e = .returned (.tuple #[]) ∧ ∃ c', Seg a b l c' ∧ Srt (ltO ord) c' a b ∧ SSt C w g cap c' w' := by
  intro N
  induction N using Nat.strongRecOn with
  | ind N ih =>
  intro a b lim l W hN hab hbn hlim hl hn hlow hP
  have he := hB.enters
  have HB := Lib.hid hB
  have HO := Lib.hid hO
  have IH := Lib.hid ih
  have hI : PS S C w g cap n a b l l (QS (ltO ord) l a b a b) W := ⟨Seg.refl _ _ _, hn, hl, hP, QS.start hlow⟩
  clear hn hl hB hO hP hlow ih
  go_enter Try.func107, Try.ntmps107
  go_wp2
  go_loopw [1, 2, 3, 10, 11] (fun vx vy vl v1 v2 wr => ∃ (x y lm : Nat) (B1 B2 : Bool) (c : List HitP), vx = .int .i64 x ∧ vy = .int .i64 y ∧ vl = .int .i64 lm ∧ v1 = .bool B1 ∧ v2 = .bool B2 ∧ a ≤ x ∧ x ≤ y ∧ y ≤ b ∧ lm ≤ 64 ∧ PS S C w g cap n a b l c (QS (ltO ord) c a b x y) wr) (fun vx vy _ _ _ _ => (intOf vy - intOf vx).toNat)
  case atStart => exact ⟨a, b, lim, true, true, l, rfl, rfl, rfl, rfl, rfl, Nat.le_refl _, hab, Nat.le_refl _, hlim, hI⟩
  case round =>
    clear hI
    obtain ⟨x, y, lm, B1, B2, c, rfl, rfl, rfl, rfl, rfl, hx, hxy, hy, hlm, hI⟩ := hrel
    by_cases h12 : y ≤ x + 12
    · have hd : decide ((y : Int) - x ≤ 12) = true := by simp; omega
      go_wp2_with fail
      refine (insSortG_any cf rv ord S C g n cap cc x y c wr HB.out HO.out hI.mem hI.len hn1 hxy (by omega) hI.st.ctx hI.st.row).mono ?_
      rintro e W2 ⟨rfl, c', hs, hsr, hst⟩
      have HF : Hid (Seg a b l c' ∧ Srt (ltO ord) c' a b) := ⟨hI.seg.trans (hs.mono hx hy), (hI.p.seg hs hx hxy hy (by rw [hI.len]; exact hbn)).done hsr⟩
      have HX := Lib.hid (hI.st.trans hst)
      clear hI hs hsr hst
      go_wp2
      exact bodyPost_ret (results_none rfl _ _ _) rfl ⟨rfl, c', HF.out.1, HF.out.2, HX.out⟩
    · have hd : decide ((y : Int) - x ≤ 12) = false := by simp; omega
      by_cases h0 : lm = 0
      · subst h0
        go_wp2_with fail
        refine (heapSort_any cf rv ord S C g n cap cc x y c w wr HB.out HO.out hI.mem hI.len hn1 (by omega) (by omega) hI.st).mono ?_
        rintro e W2 ⟨rfl, c', hs, hsr, hst⟩
        have HF : Hid (Seg a b l c' ∧ Srt (ltO ord) c' a b) := ⟨hI.seg.trans (hs.mono hx hy), (hI.p.seg hs hx hxy hy (by rw [hI.len]; exact hbn)).done hsr⟩
        have HX := Lib.hid hst
        clear hI hs hsr hst
        go_wp2
        exact bodyPost_ret (results_none rfl _ _ _) rfl ⟨rfl, c', HF.out.1, HF.out.2, HX.out⟩
      · have hl0 : ((lm : Int) == 0) = false := by simp; omega
        go_upto_if 39 with fail
        go_cut [3] (fun s3 wx => ∃ (lm : Nat) (c : List HitP), s3 = .int .i64 lm ∧ lm ≤ 64 ∧ PS S C w g cap n a b l c (QS (ltO ord) c a b x y) wx)
        case first =>
          cases B1 with
          | true =>
            go_wp2_with fail
            go_meet
            exact ⟨lm, c, rfl, hlm, hI⟩
          | false =>
            go_wp2_with fail
            refine (break_any cf rv ord S C g n cap cc x y c w wr HB.out hI.len hn1 (by omega) (by omega) hI.st).mono ?_
            rintro e W2 ⟨rfl, c', hs, hst⟩
            have HX : Hid (PS S C w g cap n a b l c' (QS (ltO ord) c' a b x y) W2) := ⟨hI.seg.trans (hs.mono hx hy), by rw [hs.length, hI.len], seg_S hs (by rw [hI.len]; omega) hI.mem, hst, hI.p.seg hs hx hxy hy (by rw [hI.len]; exact hbn)⟩
            clear hI hs hst
            go_wp2_with fail
            go_meet
            exact ⟨lm - 1, c', by congr 1; omega, by omega, HX.out⟩
        case rest =>
          clear hI hl0 h0 hlm
          obtain ⟨lm, c, rfl, hlm, hI⟩ := hcut
          go_wp2_with fail
          refine (choosePivot_any cf rv ord S C g n cap cc x y c w wc HB.out hI.mem hI.len hn1 (by omega) (by omega) hI.st).mono ?_
          rintro e W3 ⟨p, h, rfl, hp, hh, hst⟩
          have hI2 : PS S C w g cap n a b l c (QS (ltO ord) c a b x y) W3 := ⟨hI.seg, hI.len, hI.mem, hst, hI.p⟩
          clear hI hst
          go_upto_if 56 with fail
          go_cut [13, 14] (fun s13 s14 wx => ∃ (p h : Nat) (c : List HitP), s13 = .int .i64 p ∧ s14 = .int .i64 h ∧ x ≤ p ∧ p < y ∧ PS S C w g cap n a b l c (QS (ltO ord) c a b x y) wx)
          case first =>
            by_cases h2 : h = 2
            · subst h2
              go_wp2_with fail
              refine (reverse_any cf rv ord S C g n cap cc x y c w W3 HB.out hI2.len hn1 (by omega) (by omega) hI2.st).mono ?_
              rintro e W2 ⟨rfl, c', hs, hst⟩
              have HX : Hid (PS S C w g cap n a b l c' (QS (ltO ord) c' a b x y) W2) := ⟨hI2.seg.trans (hs.mono hx hy), by rw [hs.length, hI2.len], seg_S hs (by rw [hI2.len]; omega) hI2.mem, hst, hI2.p.seg hs hx hxy hy (by rw [hI2.len]; exact hbn)⟩
              clear hI2 hs hst
              go_wp2_with fail
              go_meet
              exact ⟨(y - 1) - (p - x), 1, c', by congr 1; omega, rfl, by omega, by omega, HX.out⟩
            · have h20 : ((h : Int) == 2) = false := by simp; omega
              go_wp2_with fail
              go_meet
              exact ⟨p, h, c, rfl, rfl, hp.1, hp.2, hI2⟩
          case rest =>
            clear hI2 hh hp
            obtain ⟨p, h, c, rfl, rfl, hp1, hp2, hI⟩ := hcut
            go_upto_region 15 with fail
            go_cut [75] (fun s75 wx => wc = wx ∧ ∃ B : Bool, s75 = .bool B)
            case first =>
              rcases (show (B1 = false) ∨ (B1 = true ∧ B2 = false) ∨ (B1 = true ∧ B2 = true ∧ ((h : Int) == 1) = false) ∨ (B1 = true ∧ B2 = true ∧ h = 1) from by cases B1 <;> cases B2 <;> simp <;> omega) with rfl | ⟨rfl, rfl⟩ | ⟨rfl, rfl, h1⟩ | ⟨rfl, rfl, rfl⟩
              all_goals
                go_wp2_with fail
                go_meet
                exact ⟨rfl, _, rfl⟩
            case rest =>
            obtain ⟨rfl, B3, rfl⟩ := hcut
            go_upto_if 75 with fail
            go_cut [] (fun wx => ∃ (c : List HitP), PS S C w g cap n a b l c (QS (ltO ord) c a b x y) wx)
            case first =>
              cases B3 with
              | true =>
                go_wp2_with fail
                refine (partialIns_any cf rv ord S C g n cap cc x y c w wc HB.out HO.out hI.mem hI.len hn1 (by omega) (by omega) (hI.p.lowIn hx hy) hI.st).mono ?_
                rintro e W2 ⟨t, c', rfl, hs, hsr, hst⟩
                have HX : Hid (PS S C w g cap n a b l c' (QS (ltO ord) c' a b x y) W2) := ⟨hI.seg.trans (hs.mono hx hy), by rw [hs.length, hI.len], seg_S hs (by rw [hI.len]; omega) hI.mem, hst, hI.p.seg hs hx hxy hy (by rw [hI.len]; exact hbn)⟩
                clear hI hs hst
                cases t with
                | true =>
                  have HF : Hid (Seg a b l c' ∧ Srt (ltO ord) c' a b) := ⟨HX.out.seg, HX.out.p.done (hsr rfl)⟩
                  clear hsr
                  go_wp2
                  exact bodyPost_ret (results_none rfl _ _ _) rfl ⟨rfl, c', HF.out.1, HF.out.2, HX.out.st⟩
                | false =>
                  clear hsr
                  go_wp2_with fail
                  go_meet
                  exact ⟨c', HX.out⟩
              | false =>
                go_wp2_with fail
                go_meet
                exact ⟨c, hI⟩
            case rest =>
              clear hI
              obtain ⟨c, hI⟩ := hcut
              have hpn : p < n := by omega
              go_upto_region 17 with fail
              go_cut [97] (fun s97 wx => ∃ B : Bool, s97 = .bool B ∧ Hid (B = true → 0 < x ∧ ¬ ltO ord (nth c (x - 1)) (nth c p)) ∧ PS S C w g cap n a b l c (QS (ltO ord) c a b x y) wx)
              case first =>
                by_cases hx0 : 0 < x
                · obtain ⟨z, rfl⟩ : ∃ z, x = z + 1 := ⟨x - 1, by omega⟩
                  have hzn : z < n := by omega
                  obtain ⟨u, v, HU, HV, gx0, gx1, gy0, gy1, hcall⟩ := hI.st.look HB.out hI.mem (k := z) (j := p) (by rw [hI.len]; omega) (by rw [hI.len]; omega)
                  refine wp_region_quiet_below mixed (by kernel_rfl) ?_
                  repeat (go_big_quiet_step (exact grown_below (hcall _ _)))
                  refine wpQuiet_nil ?_
                  rintro _ ⟨⟨dq, osq⟩, rfl⟩
                  have hI2 := hI.below HB.out (below_regrown wc dq osq)
                  have HP : Hid ((!decide (ord u v < 0)) = true → 0 < z + 1 ∧ ¬ ltO ord (nth c (z + 1 - 1)) (nth c p)) := by
                    unfold ltO; rw [Nat.add_sub_cancel, HU.out, HV.out]
                    exact fun h => ⟨by omega, by simpa using h⟩
                  clear gx0 gx1 gy0 gy1 hcall hI
                  dsimp only
                  obtain ⟨B, hBB⟩ : ∃ B, B = !decide (ord u v < 0) := ⟨_, rfl⟩
                  rw [← hBB] at HP ⊢
                  clear hBB
                  go_wp2_with fail
                  go_meet
                  exact ⟨B, rfl, HP, hI2⟩
                · obtain rfl : x = 0 := by omega
                  go_quiet (fail)
                  go_wp2_with fail
                  go_meet
                  exact ⟨false, rfl, (fun h => by cases h), hI.below HB.out ⟨rfl, rfl, rfl, Nat.le_refl _, fun _ _ => rfl⟩⟩
              case rest =>
                clear hI
                obtain ⟨B, rfl, HP, hI⟩ := hcut
                cases B with
                | true =>
                  go_wp2_with fail
                  refine (partitionEqual_any cf rv ord S C g n cap cc x y p c w wc HB.out HO.out hI.mem hI.len hn1 (by omega) (by omega) ⟨hp1, hp2⟩ hI.st).mono ?_
                  rintro e W2 ⟨m, c', rfl, hm, hpe, hst⟩
                  have HX : Hid (PS S C w g cap n a b l c' (QS (ltO ord) c' a b m y) W2) := ⟨hI.seg.trans (hpe.seg.mono hx hy), by rw [hpe.seg.length, hI.len], seg_S hpe.seg (by rw [hI.len]; omega) hI.mem, hst, hI.p.eq HO.out hpe (HP.out trivial).1 (Int.not_lt.2 (HP.out trivial).2) hx hm hy (by rw [hI.len]; exact hbn)⟩
                  clear hI hpe hst HP
                  go_wp2
                  go_roundw
                  case rel => exact ⟨m, y, lm, _, _, c', rfl, rfl, rfl, rfl, rfl, by omega, by omega, hy, hlm, HX.out⟩
                  case measure => simp [intOf]; omega
                | false =>
                  clear HP
                  go_wp2_with fail
                  refine (partition_any cf rv ord S C g n cap cc x y p c w wc HB.out hI.mem hI.len hn1 (by omega) (by omega) ⟨hp1, hp2⟩ hI.st).mono ?_
                  rintro e W2 ⟨m, t, c', rfl, hm, hpe, hst⟩
                  have hlen : c'.length = n := by rw [hpe.seg.length, hI.len]
                  have hmem : ∀ h ∈ c', S h := seg_S hpe.seg (by rw [hI.len]; omega) hI.mem
                  have hq := hI.p.seg hpe.seg hx hxy hy (by rw [hI.len]; exact hbn)
                  have hlowL : Low (ltO ord) c' x m := fun p q g1 g2 g3 => (hq.lowIn hx hy) p q g1 g2 (by omega)
                  have hlowR : Low (ltO ord) c' (m + 1) y := fun p q g1 g2 g3 => by
                    by_cases e1 : p < x
                    · exact (hq.lowIn hx hy) p q e1 (by omega) g3
                    · by_cases e2 : p = m
                      · rw [e2]; exact hpe.right q (by omega) g3
                      · exact HO.out.ntrans _ _ _ (hpe.right q (by omega) g3) (HO.out.asym _ _ (hpe.left p (by omega) (by omega)))
                  by_cases hlr : m - x < y - m
                  · have hdl : decide ((m : Int) - x < (y : Int) - m) = true := by simp; omega
                    have hrec := IH.out (m - x) (by omega) x m lm c' W2 (by omega) (by omega) (by omega) hlm hmem hlen hlowL hst
                    have HQ : Hid (∀ d, Seg x m c' d → Srt (ltO ord) d x m → QS (ltO ord) d a b (m + 1) y) := fun d h1 h2 => hI.p.left HO.out hpe h1 h2 hx hm hy (by rw [hI.len]; exact hbn)
                    have HSG := Lib.hid (hI.seg.trans (hpe.seg.mono hx hy))
                    have HLN := Lib.hid hlen
                    have HMM := Lib.hid hmem
                    have HR := Lib.hid hrec
                    clear hI hpe hst hq hlowL hlowR hlen hmem hrec
                    go_wp2_with fail
                    refine HR.out.mono ?_
                    rintro e W4 ⟨rfl, d, hs, hsr, hst⟩
                    have HX : Hid (PS S C w g cap n a b l d (QS (ltO ord) d a b (m + 1) y) W4) := ⟨HSG.out.trans (hs.mono hx (by omega)), by rw [hs.length, HLN.out], seg_S hs (by rw [HLN.out]; omega) HMM.out, hst, HQ.out d hs hsr⟩
                    clear hs hsr hst HR
                    go_wp2
                    go_roundw
                    case rel => exact ⟨m + 1, y, lm, _, t, d, by go_num, rfl, rfl, rfl, rfl, by omega, by omega, hy, hlm, HX.out⟩
                    case measure => simp [intOf]; omega
                  · have hdl : decide ((m : Int) - x < (y : Int) - m) = false := by simp; omega
                    have hrec := IH.out (y - (m + 1)) (by omega) (m + 1) y lm c' W2 (by omega) (by omega) (by omega) hlm hmem hlen hlowR hst
                    have HQ : Hid (∀ d, Seg (m + 1) y c' d → Srt (ltO ord) d (m + 1) y → QS (ltO ord) d a b x m) := fun d h1 h2 => hI.p.right HO.out hpe h1 h2 hx hm hy (by rw [hI.len]; exact hbn)
                    have HSG := Lib.hid (hI.seg.trans (hpe.seg.mono hx hy))
                    have HLN := Lib.hid hlen
                    have HMM := Lib.hid hmem
                    have HR := Lib.hid hrec
                    clear hI hpe hst hq hlowL hlowR hlen hmem hrec
                    go_wp2_with fail
                    refine HR.out.mono ?_
                    rintro e W4 ⟨rfl, d, hs, hsr, hst⟩
                    have HX : Hid (PS S C w g cap n a b l d (QS (ltO ord) d a b x m) W4) := ⟨HSG.out.trans (hs.mono (by omega) hy), by rw [hs.length, HLN.out], seg_S hs (by rw [HLN.out]; omega) HMM.out, hst, HQ.out d hs hsr⟩
                    clear hs hsr hst HR
                    go_wp2
                    go_roundw
                    case rel => exact ⟨x, m, lm, _, t, d, rfl, rfl, rfl, rfl, rfl, by omega, by omega, by omega, hlm, HX.out⟩
                    case measure => simp [intOf]; omega

end Go.Proofs.Ytmpmjkbjnklgfaa
