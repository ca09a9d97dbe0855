/- Parts of the proof, one behind the other: J3, J5, J6, J7, J8, J9, JD. No condition but what each theorem states. -/
import Derived.Deep.CutBlock
import Derived.Deep.DeepCutAuto
import Derived.Test.YtmpmjkbjnklgfaaQ6

/- The sort's pivot chosen; a segment reversed: walked. -/

namespace Go.Proofs.Ytmpmjkbjnklgfaa
open Go.RowKit Go.Sort
set_option linter.unusedVariables false

theorem In3.bd {a b d m lo hi : Nat} (h : In3 a b d m) (ha : lo ≤ a ∧ a < hi) (hb : lo ≤ b ∧ b < hi) (hd : lo ≤ d ∧ d < hi) : lo ≤ m ∧ m < hi := by
  rcases h with rfl | rfl | rfl <;> assumption

set_option maxRecDepth 100000 in
set_option maxHeartbeats 2000000 in
theorem choosePivot_any (cf : FuncId) (rv : Value) (ord : HitP → HitP → Int) (S : HitP → Prop) (C : World → Prop) (g n cap cc a b : Nat) (c : List HitP) (w W : World) (hB : CmpB cf rv ord S C g) (hl : ∀ h ∈ c, S h) (hn : c.length = n) (hn1 : n ≤ 1000000000000) (hab : a + 12 < b) (hbn : b ≤ n) (hP : SSt C w g cap c W) :
    Calls Try.prog 141 #[.slice (some ⟨g, 0, none⟩) n cc, .int .i64 a, .int .i64 b, .func (.func cf) #[rv] #[]] W fun e w' =>
      ∃ p h : Nat, e = .returned (.tuple #[.int .i64 p, .int .i64 h]) ∧ (a ≤ p ∧ p < b) ∧ h ≤ 2 ∧ SSt C w g cap c w' := by
  have HB := Lib.hid hB
  have HL := Lib.hid hl
  have HN := Lib.hid hn
  clear hB hl hn
  obtain ⟨l, rfl⟩ : ∃ l, b = a + l := ⟨b - a, by omega⟩
  have hP0 : Pst C w g cap c W W.heap.size 0 (W.alloc (.cells #[.int .i64 0] 3)) := ⟨hP, (Below.refl _ _).alloc (Nat.le_refl _) _, Nat.le_refl _, Boxed.new _ _ _⟩
  have E1 := Lib.hid (show (a : Int) + ((a : Int) + (l : Int) - a) / 4 = ((a + l / 4 : Nat) : Int) from by omega)
  have E2 := Lib.hid (show (a : Int) + ((a : Int) + (l : Int) - a) / 4 * 2 = ((a + l / 4 * 2 : Nat) : Int) from by omega)
  have E3 := Lib.hid (show (a : Int) + ((a : Int) + (l : Int) - a) / 4 * 3 = ((a + l / 4 * 3 : Nat) : Int) from by omega)
  have d8 : decide ((8 : Int) ≤ (a : Int) + (l : Int) - a) = true := by simp; omega
  have hsz : W.heap.size < (W.alloc (.cells #[.int .i64 0] 3)).heap.size := by simp
  by_cases h50 : 50 ≤ l
  · have d50 : decide ((50 : Int) ≤ (a : Int) + (l : Int) - a) = true := by simp; omega
    go_enter Try.func141, Try.ntmps141
    go_wp2_with fail
    rw [E1.out, E2.out, E3.out]
    refine (medAdj_any cf rv ord S C g n cap cc (a + l / 4) W.heap.size 0 c w W _ HB.out HL.out HN.out hn1 (by omega) (by omega) (by omega) hP0).mono ?_
    rintro e W1 ⟨m1, s1, rfl, hi1, hs1, hP1⟩
    have hm1 := hi1.bd (lo := a) (hi := a + l) (by omega) (by omega) (by omega)
    clear hi1
    go_wp2_with fail
    refine (medAdj_any cf rv ord S C g n cap cc (a + l / 4 * 2) W.heap.size s1 c w W _ HB.out HL.out HN.out hn1 (by omega) (by omega) (by omega) hP1).mono ?_
    rintro e W2 ⟨m2, s2, rfl, hi2, hs2, hP2⟩
    have hm2 := hi2.bd (lo := a) (hi := a + l) (by omega) (by omega) (by omega)
    clear hi2
    go_wp2_with fail
    refine (medAdj_any cf rv ord S C g n cap cc (a + l / 4 * 3) W.heap.size s2 c w W _ HB.out HL.out HN.out hn1 (by omega) (by omega) (by omega) hP2).mono ?_
    rintro e W3 ⟨m3, s3, rfl, hi3, hs3, hP3⟩
    have hm3 := hi3.bd (lo := a) (hi := a + l) (by omega) (by omega) (by omega)
    clear hi3
    go_wp2_with fail
    refine (median_any cf rv ord S C g n cap cc m1 m2 m3 W.heap.size s3 c w W _ HB.out HL.out HN.out hn1 (by omega) (by omega) (by omega) (by omega) hP3).mono ?_
    rintro e W4 ⟨m, s4, rfl, hi, hs4, hP4⟩
    have hm := hi.bd (lo := a) (hi := a + l) hm1 hm2 hm3
    clear hi
    have k0 := hP4.box.cell
    have hst := hP4.st HB.out
    by_cases z0 : s4 = 0
    · subst z0
      go_wp2
      go_ret2
      exact ⟨m, 1, rfl, hm, by omega, hst⟩
    · have e0 : ((s4 : Int) == 0) = false := by simp; omega
      by_cases z12 : s4 = 12
      · subst z12
        go_wp2
        go_ret2
        exact ⟨m, 2, rfl, hm, by omega, hst⟩
      · have e12 : ((s4 : Int) == 12) = false := by simp; omega
        go_wp2
        go_ret2
        exact ⟨m, 0, rfl, hm, by omega, hst⟩
  · have d50 : decide ((50 : Int) ≤ (a : Int) + (l : Int) - a) = false := by simp; omega
    go_enter Try.func141, Try.ntmps141
    go_wp2_with fail
    rw [E1.out, E2.out, E3.out]
    refine (median_any cf rv ord S C g n cap cc (a + l / 4) (a + l / 4 * 2) (a + l / 4 * 3) W.heap.size 0 c w W _ HB.out HL.out HN.out hn1 (by omega) (by omega) (by omega) (by omega) hP0).mono ?_
    rintro e W4 ⟨m, s4, rfl, hi, hs4, hP4⟩
    have hm := hi.bd (lo := a) (hi := a + l) (by omega) (by omega) (by omega)
    clear hi
    have k0 := hP4.box.cell
    have hst := hP4.st HB.out
    by_cases z0 : s4 = 0
    · subst z0
      go_wp2
      go_ret2
      exact ⟨m, 1, rfl, hm, by omega, hst⟩
    · have e0 : ((s4 : Int) == 0) = false := by simp; omega
      have e12 : ((s4 : Int) == 12) = false := by simp; omega
      go_wp2
      go_ret2
      exact ⟨m, 0, rfl, hm, by omega, hst⟩

set_option maxRecDepth 100000 in
set_option maxHeartbeats 1000000 in
theorem reverse_any (cf : FuncId) (rv : Value) (ord : HitP → HitP → Int) (S : HitP → Prop) (C : World → Prop) (g n cap cc a b : Nat) (l : List HitP) (w W : World) (hB : CmpB cf rv ord S C g) (hn : l.length = n) (hn1 : n ≤ 1000000000000) (hab : a < b) (hbn : b ≤ n) (hP : SSt C w g cap l W) :
    Calls Try.prog 142 #[.slice (some ⟨g, 0, none⟩) n cc, .int .i64 a, .int .i64 b, .func (.func cf) #[rv] #[]] W fun e w' =>
      e = .returned (.tuple #[]) ∧ ∃ c', Seg a b l c' ∧ SSt C w g cap c' w' := by
  have HB := Lib.hid hB
  have HN := Lib.hid hn
  clear hB hn
  obtain ⟨q, rfl⟩ : ∃ q, b = q + 1 := ⟨b - 1, by omega⟩
  go_enter Try.func142, Try.ntmps142
  go_wp2
  go_loopw [8, 9] (fun i j wr => ∃ (x y : Nat) (c : List HitP), a ≤ x ∧ x ≤ q + 1 ∧ y ≤ q ∧ a ≤ y + 1 ∧ i = .int .i64 x ∧ j = .int .i64 y ∧ Hid (Seg a (q + 1) l c) ∧ SSt C w g cap c wr) (fun _ j _ => (intOf j).toNat)
  case atStart => exact ⟨a, q, l, Nat.le_refl _, by omega, Nat.le_refl _, by omega, rfl, by go_num, Seg.refl _ _ _, hP⟩
  case round =>
    obtain ⟨x, y, c, h1, h2, h3, h4, rfl, rfl, HS, hSt⟩ := hrel
    by_cases hlt : x < y
    · obtain ⟨u, hu⟩ : ∃ u, nth c x = u := ⟨_, rfl⟩
      obtain ⟨v, hv⟩ : ∃ v, nth c y = v := ⟨_, rfl⟩
      have hcl : c.length = n := by rw [HS.out.length, HN.out]
      obtain ⟨⟨x0, x1⟩, ⟨fx0, fx1⟩, _, _⟩ := hSt.cell (k := x) (by omega) hu
      obtain ⟨⟨y0, y1⟩, ⟨fy0, fy1⟩, _, _⟩ := hSt.cell (k := y) (by omega) hv
      have hall := hSt.swap HB.out (i := x) (j := y) (by omega) (by omega) hu hv
      have HALL := Lib.hid hall
      have HS2 : Hid (Seg a (q + 1) l (swp c x y)) := HS.out.trans (Seg.swap c (by omega) (by omega))
      have hd : decide ((x : Int) < y) = true := by simp; omega
      obtain ⟨y', rfl⟩ : ∃ y', y = y' + 1 := ⟨y - 1, by omega⟩
      clear hall hu hv hcl HS
      go_wp2
      go_region
      go_wp2
      go_roundw
      case rel => exact ⟨x + 1, y', _, by omega, by omega, by omega, by omega, by go_num, by go_num, HS2, HALL.out⟩
      case measure => simp [intOf]; try omega
    · go_wp2
      go_end0
      exact ⟨rfl, c, HS.out, hSt⟩

end Go.Proofs.Ytmpmjkbjnklgfaa

/- The sort's partition, walked. -/



namespace Go.Proofs.Ytmpmjkbjnklgfaa
open Go.RowKit Go.Sort
set_option linter.unusedVariables false
set_option linter.unusedSimpArgs false

set_option maxRecDepth 100000 in
set_option maxHeartbeats 4000000 in
theorem partition_any (cf : FuncId) (rv : Value) (ord : HitP → HitP → Int) (S : HitP → Prop) (C : World → Prop) (g n cap cc a b pv : Nat) (l : List HitP) (w W : World) (hB : CmpB cf rv ord S C g) (hl : ∀ h ∈ l, S h) (hn : l.length = n) (hn1 : n ≤ 1000000000000) (hab : a + 1 < b) (hbn : b ≤ n) (hpv : a ≤ pv ∧ pv < b) (hP : SSt C w g cap l W) :
    Calls Try.prog 145 #[.slice (some ⟨g, 0, none⟩) n cc, .int .i64 a, .int .i64 b, .int .i64 pv, .func (.func cf) #[rv] #[]] W fun e w' =>
      ∃ (m : Nat) (t : Bool) (c' : List HitP), e = .returned (.tuple #[.int .i64 m, .bool t]) ∧ (a ≤ m ∧ m < b) ∧ Parted ord a b l c' m ∧ SSt C w g cap c' w' := by
  have he := hB.enters
  have HB := Lib.hid hB
  obtain ⟨q, hq⟩ : ∃ q, b = q + 1 := ⟨b - 1, by omega⟩
  subst hq
  obtain ⟨l2, hl2⟩ : ∃ l2, l2 = swp l a pv := ⟨_, rfl⟩
  have HSG : Hid (Seg a (q + 1) l l2) := by rw [Hid, hl2]; exact Seg.swap l (by omega) (by omega)
  have HM : Hid (∀ x ∈ l2, S x) := seg_S HSG.out (by omega) hl
  have HN2 : Hid (l2.length = n) := by rw [Hid, HSG.out.length]; exact hn
  obtain ⟨u, v, huv, ⟨x0, x1⟩, ⟨fx0, fx1⟩, ⟨y0, y1⟩, ⟨fy0, fy1⟩, hX⟩ := hP.xch HB.out (i := a) (j := pv) (by omega) (by omega)
  rw [← hl2] at hX
  obtain ⟨hp1, hp2⟩ := hpv
  have hpn : pv < n := by omega
  have han : a < n := by omega
  clear hn hl hB hP hl2
  go_enter Try.func145, Try.ntmps145
  go_upto_region 2 with fail
  go_cut [] (fun wx => SSt C w g cap l2 wx)
  case first =>
    by_cases hpa : pv = a
    · subst hpa
      have huv' := huv rfl
      subst huv'
      clear huv
      have HX := Lib.hid hX
      clear hX
      go_region
      go_wp2_with fail
      go_meet
      exact HX.out
    · clear huv
      have HX := Lib.hid hX
      clear hX
      go_region
      go_wp2_with fail
      go_meet
      exact HX.out
  case rest =>
    clear huv hX x0 x1 fx0 fx1 y0 y1 fy0 fy1
    have hI : PI (ltQ ord) S C w g cap n a (q + 1) l2 l2 (a + 1) q wc := PI.start HN2.out HM.out hcut
    clear hcut
    obtain ⟨W1, hW1⟩ : ∃ W1, W1 = wc := ⟨_, rfl⟩
    rw [← hW1] at hI ⊢
    clear hW1
    go_upto_block 0 with fail
    go_cut [12] (fun si wx => ∃ (x : Nat) (c : List HitP), si = .int .i64 x ∧ a + 1 ≤ x ∧ x ≤ q + 1 ∧ Hid (x ≤ q → ¬ (ltQ ord) (nth c a) (nth c x)) ∧ PI (ltQ ord) S C w g cap n a (q + 1) l2 c x q wx)
    case first =>
      go_wp2_with fail
      go_loopw [12] (fun i wr => ∃ (x : Nat) (c : List HitP), i = .int .i64 x ∧ a + 1 ≤ x ∧ x ≤ q + 1 ∧ PI (ltQ ord) S C w g cap n a (q + 1) l2 c x q wr) (fun i _ => q + 1 - (intOf i).toNat)
      case atStart => exact ⟨_, _, by go_num, by omega, by omega, hI⟩
      case round =>
        clear hI
        obtain ⟨x, c, rfl, hx1, hx2, hI⟩ := hrel
        by_cases hlt : x ≤ q
        · obtain ⟨u, v, HU, HV, gx0, gx1, gy0, gy1, hcall⟩ := hI.look HB.out (k := x) (j := a) (by omega) (by omega)
          have hd0 : decide ((x : Int) ≤ q) = true := by simp; omega
          go_wp2
          refine wp_region_quiet_below mixed (by kernel_rfl) ?_
          repeat (go_big_quiet_step (exact grown_below (hcall _ _)))
          refine wpQuiet_nil ?_
          rintro _ ⟨⟨dq, osq⟩, rfl⟩
          have hI2 := hI.below HB.out (below_regrown wr dq osq)
          clear gx0 gx1 gy0 gy1 hcall hI
          dsimp only
          obtain ⟨W2, hW2⟩ : ∃ W2, W2 = grow (redrawn wr dq) osq := ⟨_, rfl⟩
          rw [← hW2] at hI2 ⊢
          clear hW2
          by_cases hxy : ord u v < 0
          · have hdx : decide (ord u v < 0) = true := by simp [hxy]
            rw [hdx]
            have hI3 := hI2.up (x := x) (by unfold ltQ; rw [HU.out, HV.out]; exact hxy)
            clear hxy hdx hI2
            go_wp2
            go_roundw
            case rel => exact ⟨x + 1, c, by go_num, by omega, by omega, hI3⟩
            case measure => simp [intOf]; omega
          · have hdx : decide (ord u v < 0) = false := by simp [hxy]
            rw [hdx]
            have HP2 : Hid (x ≤ q → ¬ (ltQ ord) (nth c a) (nth c x)) := fun _ => by unfold ltQ; rw [HU.out, HV.out]; exact hxy
            clear hxy hdx
            go_wp2_with fail
            go_meet
            exact ⟨x, c, rfl, hx1, hx2, HP2, hI2⟩
        · have hd0 : decide ((x : Int) ≤ q) = false := by simp; omega
          have HP2 : Hid (x ≤ q → ¬ (ltQ ord) (nth c a) (nth c x)) := fun h => absurd h hlt
          go_wp2
          go_quiet (fail)
          go_wp2_with fail
          go_meet
          exact ⟨x, c, rfl, hx1, hx2, HP2, hI.below HB.out ⟨rfl, rfl, rfl, Nat.le_refl _, fun _ _ => rfl⟩⟩
    case rest =>
      clear hI
      obtain ⟨x, c, rfl, hx1, hx2, HPX, hI⟩ := hcut
      go_upto_block 2 with fail
      go_cut [13] (fun sj wx => ∃ y : Nat, sj = .int .i64 y ∧ x ≤ y + 1 ∧ y ≤ q ∧ Hid (x ≤ y → (ltQ ord) (nth c a) (nth c y)) ∧ PI (ltQ ord) S C w g cap n a (q + 1) l2 c x y wx)
      case first =>
        go_wp2_with fail
        go_loopw [13] (fun j wr => ∃ y : Nat, j = .int .i64 y ∧ x ≤ y + 1 ∧ y ≤ q ∧ PI (ltQ ord) S C w g cap n a (q + 1) l2 c x y wr) (fun j _ => (intOf j).toNat)
        case atStart => exact ⟨q, by go_num, by omega, Nat.le_refl _, hI⟩
        case round =>
          clear hI
          obtain ⟨y, rfl, hy1, hy2, hI⟩ := hrel
          by_cases hlt : x ≤ y
          · obtain ⟨z, rfl⟩ : ∃ z, y = z + 1 := ⟨y - 1, by omega⟩
            obtain ⟨u, v, HU, HV, gx0, gx1, gy0, gy1, hcall⟩ := hI.look HB.out (k := z + 1) (j := a) (by omega) (by omega)
            have hd0 : decide ((x : Int) ≤ (z : Int) + 1) = true := by simp; omega
            go_wp2
            refine wp_region_quiet_below mixed (by kernel_rfl) ?_
            repeat (go_big_quiet_step (exact grown_below (hcall _ _)))
            refine wpQuiet_nil ?_
            rintro _ ⟨⟨dq, osq⟩, rfl⟩
            have hI2 := hI.below HB.out (below_regrown wr dq osq)
            clear gx0 gx1 gy0 gy1 hcall hI
            dsimp only
            obtain ⟨W2, hW2⟩ : ∃ W2, W2 = grow (redrawn wr dq) osq := ⟨_, rfl⟩
            rw [← hW2] at hI2 ⊢
            clear hW2
            by_cases hxy : ord u v < 0
            · have hdx : decide (ord u v < 0) = true := by simp [hxy]
              rw [hdx]
              have HP2 : Hid (x ≤ z + 1 → (ltQ ord) (nth c a) (nth c (z + 1))) := fun _ => by unfold ltQ; rw [HU.out, HV.out]; exact hxy
              clear hxy hdx
              go_wp2_with fail
              go_meet
              exact ⟨z + 1, by go_num, hy1, hy2, HP2, hI2⟩
            · have hdx : decide (ord u v < 0) = false := by simp [hxy]
              rw [hdx]
              have hI3 := hI2.down (z := z) (by unfold ltQ; rw [HU.out, HV.out]; exact hxy)
              clear hxy hdx hI2
              go_wp2
              go_roundw
              case rel => exact ⟨z, by go_num, by omega, by omega, hI3⟩
              case measure => simp [intOf]; try omega
          · have hd0 : decide ((x : Int) ≤ y) = false := by simp; omega
            have HP2 : Hid (x ≤ y → (ltQ ord) (nth c a) (nth c y)) := fun h => absurd h hlt
            go_wp2
            go_quiet (fail)
            go_wp2_with fail
            go_meet
            exact ⟨y, rfl, hy1, hy2, HP2, hI.below HB.out ⟨rfl, rfl, rfl, Nat.le_refl _, fun _ _ => rfl⟩⟩
      case rest =>
        clear hI
        obtain ⟨y, rfl, hy1, hy2, HPY, hI⟩ := hcut
        by_cases hex : y < x
        · have hd : decide ((y : Int) < x) = true := by simp; omega
          obtain rfl : x = y + 1 := by omega
          obtain ⟨u, v, huv, ⟨x0, x1⟩, ⟨fx0, fx1⟩, ⟨y0, y1⟩, ⟨fy0, fy1⟩, hX⟩ := hI.st.xch HB.out (i := y) (j := a) (by rw [hI.len]; omega) (by rw [hI.len]; omega)
          have hyn : y < n := by omega
          have hP := hI.parted (by omega) (by omega) hbn
          have HR : Hid (Parted ord a (q + 1) l (swp c y a) y) := ⟨HSG.out.trans hP.seg, hP.left, hP.right⟩
          have hbd : a ≤ y ∧ y < q + 1 := by omega
          clear hP HPX HPY
          by_cases hya : y = a
          · subst hya
            have huv' := huv rfl
            subst huv'
            clear huv
            have HX := Lib.hid hX
            clear hX
            go_wp2
            go_region
            go_wp2
            go_ret2
            exact ⟨y, true, _, rfl, hbd, HR.out, HX.out⟩
          · clear huv
            have HX := Lib.hid hX
            clear hX
            go_wp2
            go_region
            go_wp2
            go_ret2
            exact ⟨y, true, _, rfl, hbd, HR.out, HX.out⟩
        · have hd : decide ((y : Int) < x) = false := by simp; omega
          have hne : x ≠ y := fun e => HPX.out (by omega) (by rw [e]; exact HPY.out (by omega))
          obtain ⟨u, v, huv, ⟨x0, x1⟩, ⟨fx0, fx1⟩, ⟨y0, y1⟩, ⟨fy0, fy1⟩, hX⟩ := hI.st.xch HB.out (i := x) (j := y) (by rw [hI.len]; omega) (by rw [hI.len]; omega)
          have hI2 := hI.swapped hX (HPX.out (by omega)) (HPY.out (by omega)) (by omega) (by omega) (by omega) hbn
          have HX := Lib.hid hI2
          clear hX hI2 HPX HPY huv
          have hxn : x < n := by omega
          have hyn : y < n := by omega
          obtain ⟨y', rfl⟩ : ∃ y', y = y' + 1 := ⟨y - 1, by omega⟩
          go_wp2
          go_region
          go_wp2
          go_loopw [12, 13] (fun i j wr => ∃ (x y : Nat) (c : List HitP), i = .int .i64 x ∧ j = .int .i64 y ∧ a + 1 ≤ x ∧ x ≤ y + 1 ∧ y ≤ q ∧ PI (ltQ ord) S C w g cap n a (q + 1) l2 c x y wr) (fun _ j _ => (intOf j).toNat)
          case atStart => exact ⟨x + 1, y', _, by go_num, by go_num, by omega, by omega, by omega, HX.out⟩
          case round =>
            clear HX
            obtain ⟨x0, y0, c0, rfl, rfl, hb1, hb2, hb3, hI⟩ := hrel
            go_upto_block 6 with fail
            go_cut [12] (fun si wx => ∃ (x : Nat) (c : List HitP), si = .int .i64 x ∧ a + 1 ≤ x ∧ x ≤ y0 + 1 ∧ Hid (x ≤ y0 → ¬ (ltQ ord) (nth c a) (nth c x)) ∧ PI (ltQ ord) S C w g cap n a (q + 1) l2 c x y0 wx)
            case first =>
              go_wp2_with fail
              go_loopw [12] (fun i wr => ∃ (x : Nat) (c : List HitP), i = .int .i64 x ∧ a + 1 ≤ x ∧ x ≤ y0 + 1 ∧ PI (ltQ ord) S C w g cap n a (q + 1) l2 c x y0 wr) (fun i _ => y0 + 1 - (intOf i).toNat)
              case atStart => exact ⟨_, _, by go_num, by omega, by omega, hI⟩
              case round =>
                clear hI
                obtain ⟨x, c, rfl, hx1, hx2, hI⟩ := hrel
                by_cases hlt : x ≤ y0
                · obtain ⟨u, v, HU, HV, gx0, gx1, gy0, gy1, hcall⟩ := hI.look HB.out (k := x) (j := a) (by omega) (by omega)
                  have hd0 : decide ((x : Int) ≤ y0) = true := by simp; omega
                  go_wp2
                  refine wp_region_quiet_below mixed (by kernel_rfl) ?_
                  repeat (go_big_quiet_step (exact grown_below (hcall _ _)))
                  refine wpQuiet_nil ?_
                  rintro _ ⟨⟨dq, osq⟩, rfl⟩
                  have hI2 := hI.below HB.out (below_regrown wr dq osq)
                  clear gx0 gx1 gy0 gy1 hcall hI
                  dsimp only
                  obtain ⟨W2, hW2⟩ : ∃ W2, W2 = grow (redrawn wr dq) osq := ⟨_, rfl⟩
                  rw [← hW2] at hI2 ⊢
                  clear hW2
                  by_cases hxy : ord u v < 0
                  · have hdx : decide (ord u v < 0) = true := by simp [hxy]
                    rw [hdx]
                    have hI3 := hI2.up (x := x) (by unfold ltQ; rw [HU.out, HV.out]; exact hxy)
                    clear hxy hdx hI2
                    go_wp2
                    go_roundw
                    case rel => exact ⟨x + 1, c, by go_num, by omega, by omega, hI3⟩
                    case measure => simp [intOf]; omega
                  · have hdx : decide (ord u v < 0) = false := by simp [hxy]
                    rw [hdx]
                    have HP2 : Hid (x ≤ y0 → ¬ (ltQ ord) (nth c a) (nth c x)) := fun _ => by unfold ltQ; rw [HU.out, HV.out]; exact hxy
                    clear hxy hdx
                    go_wp2_with fail
                    go_meet
                    exact ⟨x, c, rfl, hx1, hx2, HP2, hI2⟩
                · have hd0 : decide ((x : Int) ≤ y0) = false := by simp; omega
                  have HP2 : Hid (x ≤ y0 → ¬ (ltQ ord) (nth c a) (nth c x)) := fun h => absurd h hlt
                  go_wp2
                  go_quiet (fail)
                  go_wp2_with fail
                  go_meet
                  exact ⟨x, c, rfl, hx1, hx2, HP2, hI.below HB.out ⟨rfl, rfl, rfl, Nat.le_refl _, fun _ _ => rfl⟩⟩
            case rest =>
              clear hI
              obtain ⟨x, c, rfl, hx1, hx2, HPX, hI⟩ := hcut
              go_upto_block 8 with fail
              go_cut [13] (fun sj wx => ∃ y : Nat, sj = .int .i64 y ∧ x ≤ y + 1 ∧ y ≤ y0 ∧ Hid (x ≤ y → (ltQ ord) (nth c a) (nth c y)) ∧ PI (ltQ ord) S C w g cap n a (q + 1) l2 c x y wx)
              case first =>
                go_wp2_with fail
                go_loopw [13] (fun j wr => ∃ y : Nat, j = .int .i64 y ∧ x ≤ y + 1 ∧ y ≤ y0 ∧ PI (ltQ ord) S C w g cap n a (q + 1) l2 c x y wr) (fun j _ => (intOf j).toNat)
                case atStart => exact ⟨y0, by go_num, by omega, Nat.le_refl _, hI⟩
                case round =>
                  clear hI
                  obtain ⟨y, rfl, hy1, hy2, hI⟩ := hrel
                  by_cases hlt : x ≤ y
                  · obtain ⟨z, rfl⟩ : ∃ z, y = z + 1 := ⟨y - 1, by omega⟩
                    obtain ⟨u, v, HU, HV, gx0, gx1, gy0, gy1, hcall⟩ := hI.look HB.out (k := z + 1) (j := a) (by omega) (by omega)
                    have hd0 : decide ((x : Int) ≤ (z : Int) + 1) = true := by simp; omega
                    go_wp2
                    refine wp_region_quiet_below mixed (by kernel_rfl) ?_
                    repeat (go_big_quiet_step (exact grown_below (hcall _ _)))
                    refine wpQuiet_nil ?_
                    rintro _ ⟨⟨dq, osq⟩, rfl⟩
                    have hI2 := hI.below HB.out (below_regrown wr dq osq)
                    clear gx0 gx1 gy0 gy1 hcall hI
                    dsimp only
                    obtain ⟨W2, hW2⟩ : ∃ W2, W2 = grow (redrawn wr dq) osq := ⟨_, rfl⟩
                    rw [← hW2] at hI2 ⊢
                    clear hW2
                    by_cases hxy : ord u v < 0
                    · have hdx : decide (ord u v < 0) = true := by simp [hxy]
                      rw [hdx]
                      have HP2 : Hid (x ≤ z + 1 → (ltQ ord) (nth c a) (nth c (z + 1))) := fun _ => by unfold ltQ; rw [HU.out, HV.out]; exact hxy
                      clear hxy hdx
                      go_wp2_with fail
                      go_meet
                      exact ⟨z + 1, by go_num, hy1, hy2, HP2, hI2⟩
                    · have hdx : decide (ord u v < 0) = false := by simp [hxy]
                      rw [hdx]
                      have hI3 := hI2.down (z := z) (by unfold ltQ; rw [HU.out, HV.out]; exact hxy)
                      clear hxy hdx hI2
                      go_wp2
                      go_roundw
                      case rel => exact ⟨z, by go_num, by omega, by omega, hI3⟩
                      case measure => simp [intOf]; try omega
                  · have hd0 : decide ((x : Int) ≤ y) = false := by simp; omega
                    have HP2 : Hid (x ≤ y → (ltQ ord) (nth c a) (nth c y)) := fun h => absurd h hlt
                    go_wp2
                    go_quiet (fail)
                    go_wp2_with fail
                    go_meet
                    exact ⟨y, rfl, hy1, hy2, HP2, hI.below HB.out ⟨rfl, rfl, rfl, Nat.le_refl _, fun _ _ => rfl⟩⟩
              case rest =>
                clear hI
                obtain ⟨y, rfl, hy1, hy2, HPY, hI⟩ := hcut
                by_cases hex : y < x
                · have hd : decide ((y : Int) < x) = true := by simp; omega
                  obtain rfl : x = y + 1 := by omega
                  obtain ⟨u, v, huv, ⟨x0, x1⟩, ⟨fx0, fx1⟩, ⟨y0, y1⟩, ⟨fy0, fy1⟩, hX⟩ := hI.st.xch HB.out (i := y) (j := a) (by rw [hI.len]; omega) (by rw [hI.len]; omega)
                  have hyn : y < n := by omega
                  have hP := hI.parted (by omega) (by omega) hbn
                  have HR : Hid (Parted ord a (q + 1) l (swp c y a) y) := ⟨HSG.out.trans hP.seg, hP.left, hP.right⟩
                  have hbd : a ≤ y ∧ y < q + 1 := by omega
                  clear hP HPX HPY
                  by_cases hya : y = a
                  · subst hya
                    have huv' := huv rfl
                    subst huv'
                    clear huv
                    have HX := Lib.hid hX
                    clear hX
                    go_wp2
                    go_region
                    go_wp2
                    go_ret2
                    exact ⟨y, false, _, rfl, hbd, HR.out, HX.out⟩
                  · clear huv
                    have HX := Lib.hid hX
                    clear hX
                    go_wp2
                    go_region
                    go_wp2
                    go_ret2
                    exact ⟨y, false, _, rfl, hbd, HR.out, HX.out⟩
                · have hd : decide ((y : Int) < x) = false := by simp; omega
                  have hne : x ≠ y := fun e => HPX.out (by omega) (by rw [e]; exact HPY.out (by omega))
                  obtain ⟨u, v, huv, ⟨x0, x1⟩, ⟨fx0, fx1⟩, ⟨y0, y1⟩, ⟨fy0, fy1⟩, hX⟩ := hI.st.xch HB.out (i := x) (j := y) (by rw [hI.len]; omega) (by rw [hI.len]; omega)
                  have hI2 := hI.swapped hX (HPX.out (by omega)) (HPY.out (by omega)) (by omega) (by omega) (by omega) hbn
                  have HX := Lib.hid hI2
                  clear hX hI2 HPX HPY huv
                  have hxn : x < n := by omega
                  have hyn : y < n := by omega
                  obtain ⟨y', rfl⟩ : ∃ y', y = y' + 1 := ⟨y - 1, by omega⟩
                  go_wp2
                  go_region
                  go_wp2
                  go_roundw
                  case rel => exact ⟨x + 1, y', _, by go_num, by go_num, by omega, by omega, by omega, HX.out⟩
                  case measure => simp [intOf]; try omega

end Go.Proofs.Ytmpmjkbjnklgfaa

/- The sort's partition by those that are like the pivot, walked. -/



namespace Go.Proofs.Ytmpmjkbjnklgfaa
open Go.RowKit Go.Sort
set_option linter.unusedVariables false
set_option linter.unusedSimpArgs false

set_option maxRecDepth 100000 in
set_option maxHeartbeats 4000000 in
theorem partitionEqual_any (cf : FuncId) (rv : Value) (ord : HitP → HitP → Int) (S : HitP → Prop) (C : World → Prop) (g n cap cc a b pv : Nat) (l : List HitP) (w W : World) (hB : CmpB cf rv ord S C g) (hO : Ord (ltO ord)) (hl : ∀ h ∈ l, S h) (hn : l.length = n) (hn1 : n ≤ 1000000000000) (hab : a + 1 < b) (hbn : b ≤ n) (hpv : a ≤ pv ∧ pv < b) (hP : SSt C w g cap l W) :
    Calls Try.prog 144 #[.slice (some ⟨g, 0, none⟩) n cc, .int .i64 a, .int .i64 b, .int .i64 pv, .func (.func cf) #[rv] #[]] W fun e w' =>
      ∃ (m : Nat) (c' : List HitP), e = .returned (.int .i64 m) ∧ (a < m ∧ m ≤ b) ∧ PartEq ord a b pv l c' m ∧ SSt C w g cap c' w' := by
  have he := hB.enters
  have HB := Lib.hid hB
  have HO := Lib.hid hO
  obtain ⟨q, hq⟩ : ∃ q, b = q + 1 := ⟨b - 1, by omega⟩
  subst hq
  obtain ⟨l2, hl2⟩ : ∃ l2, l2 = swp l a pv := ⟨_, rfl⟩
  have HSG : Hid (Seg a (q + 1) l l2) := by rw [Hid, hl2]; exact Seg.swap l (by omega) (by omega)
  have HM : Hid (∀ x ∈ l2, S x) := seg_S HSG.out (by omega) hl
  have HN2 : Hid (l2.length = n) := by rw [Hid, HSG.out.length]; exact hn
  have HE := Lib.hid hl2
  have HPV := Lib.hid hpv
  obtain ⟨u, v, huv, ⟨x0, x1⟩, ⟨fx0, fx1⟩, ⟨y0, y1⟩, ⟨fy0, fy1⟩, hX⟩ := hP.xch HB.out (i := a) (j := pv) (by omega) (by omega)
  rw [← hl2] at hX
  obtain ⟨hp1, hp2⟩ := hpv
  have hpn : pv < n := by omega
  have han : a < n := by omega
  clear hn hl hB hP hl2 hO
  go_enter Try.func144, Try.ntmps144
  go_upto_region 2 with fail
  go_cut [] (fun wx => SSt C w g cap l2 wx)
  case first =>
    by_cases hpa : pv = a
    · subst hpa
      have huv' := huv rfl
      subst huv'
      clear huv
      have HX := Lib.hid hX
      clear hX
      go_region
      go_wp2_with fail
      go_meet
      exact HX.out
    · clear huv
      have HX := Lib.hid hX
      clear hX
      go_region
      go_wp2_with fail
      go_meet
      exact HX.out
  case rest =>
    clear huv hX x0 x1 fx0 fx1 y0 y1 fy0 fy1
    have hI : PI (eqQ ord) S C w g cap n a (q + 1) l2 l2 (a + 1) q wc := PI.start HN2.out HM.out hcut
    clear hcut
    obtain ⟨W1, hW1⟩ : ∃ W1, W1 = wc := ⟨_, rfl⟩
    rw [← hW1] at hI ⊢
    clear hW1
    go_wp2
    go_loopw [11, 12] (fun i j wr => ∃ (x y : Nat) (c : List HitP), i = .int .i64 x ∧ j = .int .i64 y ∧ a + 1 ≤ x ∧ x ≤ y + 1 ∧ y ≤ q ∧ PI (eqQ ord) S C w g cap n a (q + 1) l2 c x y wr) (fun _ j _ => (intOf j).toNat)
    case atStart => exact ⟨a + 1, q, _, by go_num, by go_num, by omega, by omega, by omega, hI⟩
    case round =>
      clear hI
      obtain ⟨x0, y0, c0, rfl, rfl, hb1, hb2, hb3, hI⟩ := hrel
      go_upto_block 2 with fail
      go_cut [11] (fun si wx => ∃ (x : Nat) (c : List HitP), si = .int .i64 x ∧ a + 1 ≤ x ∧ x ≤ y0 + 1 ∧ Hid (x ≤ y0 → ¬ (eqQ ord) (nth c a) (nth c x)) ∧ PI (eqQ ord) S C w g cap n a (q + 1) l2 c x y0 wx)
      case first =>
        go_wp2_with fail
        go_loopw [11] (fun i wr => ∃ (x : Nat) (c : List HitP), i = .int .i64 x ∧ a + 1 ≤ x ∧ x ≤ y0 + 1 ∧ PI (eqQ ord) S C w g cap n a (q + 1) l2 c x y0 wr) (fun i _ => y0 + 1 - (intOf i).toNat)
        case atStart => exact ⟨_, _, by go_num, by omega, by omega, hI⟩
        case round =>
          clear hI
          obtain ⟨x, c, rfl, hx1, hx2, hI⟩ := hrel
          by_cases hlt : x ≤ y0
          · obtain ⟨u, v, HU, HV, gx0, gx1, gy0, gy1, hcall⟩ := hI.look HB.out (k := a) (j := x) (by omega) (by omega)
            have hd0 : decide ((x : Int) ≤ y0) = true := by simp; omega
            go_wp2
            refine wp_region_quiet_below mixed (by kernel_rfl) ?_
            repeat (go_big_quiet_step (exact grown_below (hcall _ _)))
            refine wpQuiet_nil ?_
            rintro _ ⟨⟨dq, osq⟩, rfl⟩
            have hI2 := hI.below HB.out (below_regrown wr dq osq)
            clear gx0 gx1 gy0 gy1 hcall hI
            dsimp only
            obtain ⟨W2, hW2⟩ : ∃ W2, W2 = grow (redrawn wr dq) osq := ⟨_, rfl⟩
            rw [← hW2] at hI2 ⊢
            clear hW2
            by_cases hxy : ord u v < 0
            · have hdx : decide (ord u v < 0) = true := by simp [hxy]
              rw [hdx]
              have HP2 : Hid (x ≤ y0 → ¬ (eqQ ord) (nth c a) (nth c x)) := fun _ => by unfold eqQ; rw [HU.out, HV.out]; exact fun h => h hxy
              clear hxy hdx
              go_wp2_with fail
              go_meet
              exact ⟨x, c, rfl, hx1, hx2, HP2, hI2⟩
            · have hdx : decide (ord u v < 0) = false := by simp [hxy]
              rw [hdx]
              have hI3 := hI2.up (x := x) (by unfold eqQ; rw [HU.out, HV.out]; exact hxy)
              clear hxy hdx hI2
              go_wp2
              go_roundw
              case rel => exact ⟨x + 1, c, by go_num, by omega, by omega, hI3⟩
              case measure => simp [intOf]; omega
          · have hd0 : decide ((x : Int) ≤ y0) = false := by simp; omega
            have HP2 : Hid (x ≤ y0 → ¬ (eqQ ord) (nth c a) (nth c x)) := fun h => absurd h hlt
            go_wp2
            go_quiet (fail)
            go_wp2_with fail
            go_meet
            exact ⟨x, c, rfl, hx1, hx2, HP2, hI.below HB.out ⟨rfl, rfl, rfl, Nat.le_refl _, fun _ _ => rfl⟩⟩
      case rest =>
        clear hI
        obtain ⟨x, c, rfl, hx1, hx2, HPX, hI⟩ := hcut
        go_upto_block 4 with fail
        go_cut [12] (fun sj wx => ∃ y : Nat, sj = .int .i64 y ∧ x ≤ y + 1 ∧ y ≤ y0 ∧ Hid (x ≤ y → (eqQ ord) (nth c a) (nth c y)) ∧ PI (eqQ ord) S C w g cap n a (q + 1) l2 c x y wx)
        case first =>
          go_wp2_with fail
          go_loopw [12] (fun j wr => ∃ y : Nat, j = .int .i64 y ∧ x ≤ y + 1 ∧ y ≤ y0 ∧ PI (eqQ ord) S C w g cap n a (q + 1) l2 c x y wr) (fun j _ => (intOf j).toNat)
          case atStart => exact ⟨y0, by go_num, by omega, Nat.le_refl _, hI⟩
          case round =>
            clear hI
            obtain ⟨y, rfl, hy1, hy2, hI⟩ := hrel
            by_cases hlt : x ≤ y
            · obtain ⟨z, rfl⟩ : ∃ z, y = z + 1 := ⟨y - 1, by omega⟩
              obtain ⟨u, v, HU, HV, gx0, gx1, gy0, gy1, hcall⟩ := hI.look HB.out (k := a) (j := z + 1) (by omega) (by omega)
              have hd0 : decide ((x : Int) ≤ (z : Int) + 1) = true := by simp; omega
              go_wp2
              refine wp_region_quiet_below mixed (by kernel_rfl) ?_
              repeat (go_big_quiet_step (exact grown_below (hcall _ _)))
              refine wpQuiet_nil ?_
              rintro _ ⟨⟨dq, osq⟩, rfl⟩
              have hI2 := hI.below HB.out (below_regrown wr dq osq)
              clear gx0 gx1 gy0 gy1 hcall hI
              dsimp only
              obtain ⟨W2, hW2⟩ : ∃ W2, W2 = grow (redrawn wr dq) osq := ⟨_, rfl⟩
              rw [← hW2] at hI2 ⊢
              clear hW2
              by_cases hxy : ord u v < 0
              · have hdx : decide (ord u v < 0) = true := by simp [hxy]
                rw [hdx]
                have hI3 := hI2.down (z := z) (by unfold eqQ; rw [HU.out, HV.out]; exact fun h => h hxy)
                clear hxy hdx hI2
                go_wp2
                go_roundw
                case rel => exact ⟨z, by go_num, by omega, by omega, hI3⟩
                case measure => simp [intOf]; try omega
              · have hdx : decide (ord u v < 0) = false := by simp [hxy]
                rw [hdx]
                have HP2 : Hid (x ≤ z + 1 → (eqQ ord) (nth c a) (nth c (z + 1))) := fun _ => by unfold eqQ; rw [HU.out, HV.out]; exact hxy
                clear hxy hdx
                go_wp2_with fail
                go_meet
                exact ⟨z + 1, by go_num, hy1, hy2, HP2, hI2⟩
            · have hd0 : decide ((x : Int) ≤ y) = false := by simp; omega
              have HP2 : Hid (x ≤ y → (eqQ ord) (nth c a) (nth c y)) := fun h => absurd h hlt
              go_wp2
              go_quiet (fail)
              go_wp2_with fail
              go_meet
              exact ⟨y, rfl, hy1, hy2, HP2, hI.below HB.out ⟨rfl, rfl, rfl, Nat.le_refl _, fun _ _ => rfl⟩⟩
        case rest =>
          clear hI
          obtain ⟨y, rfl, hy1, hy2, HPY, hI⟩ := hcut
          by_cases hex : y < x
          · have hd : decide ((y : Int) < x) = true := by simp; omega
            obtain rfl : x = y + 1 := by omega
            have HR : Hid (PartEq ord a (q + 1) pv l c (y + 1)) := hI.partEq HO.out HE.out HSG.out HPV.out (by omega) hbn
            have hbd : a < y + 1 ∧ y + 1 ≤ q + 1 := by omega
            have HX := Lib.hid hI.st
            clear hI HPX HPY
            go_wp2
            go_ret
            exact ⟨y + 1, c, by go_num, hbd, HR.out, HX.out⟩
          · have hd : decide ((y : Int) < x) = false := by simp; omega
            have hne : x ≠ y := fun e => HPX.out (by omega) (by rw [e]; exact HPY.out (by omega))
            obtain ⟨u, v, huv, ⟨x0, x1⟩, ⟨fx0, fx1⟩, ⟨y0, y1⟩, ⟨fy0, fy1⟩, hX⟩ := hI.st.xch HB.out (i := x) (j := y) (by rw [hI.len]; omega) (by rw [hI.len]; omega)
            have hI2 := hI.swapped hX (HPX.out (by omega)) (HPY.out (by omega)) (by omega) (by omega) (by omega) hbn
            have HX := Lib.hid hI2
            clear hX hI2 HPX HPY huv
            have hxn : x < n := by omega
            have hyn : y < n := by omega
            obtain ⟨y', rfl⟩ : ∃ y', y = y' + 1 := ⟨y - 1, by omega⟩
            go_wp2
            go_region
            go_wp2
            go_roundw
            case rel => exact ⟨x + 1, y', _, by go_num, by go_num, by omega, by omega, by omega, HX.out⟩
            case measure => simp [intOf]; try omega

end Go.Proofs.Ytmpmjkbjnklgfaa

/- Heaps: plain laws; the sort's siftDown walked. -/



namespace Go.Proofs.Ytmpmjkbjnklgfaa
open Go.RowKit Go.Sort
set_option linter.unusedVariables false
set_option linter.unusedSimpArgs false

section
variable {lt : HitP → HitP → Prop} {c : List HitP} {f hi lo r m : Nat}
theorem Heap.start (h : Heap lt c f hi (lo + 1) hi) : Heap lt c f hi lo lo ∧ Above lt c f hi lo lo :=
  ⟨fun k j h1 h2 h3 h4 => h k j (by omega) (by omega) h3 h4, fun k j h1 h2 h3 h4 => by omega⟩
theorem Heap.stop0 (h : Heap lt c f hi lo r) (h0 : hi ≤ 2 * r + 1) : Heap lt c f hi lo hi := fun k j h1 h2 h3 h4 => by
  by_cases e : k = r
  · omega
  · exact h k j h1 e h3 h4
/-- The greater of a node's kids. -/
def Kid (lt : HitP → HitP → Prop) (c : List HitP) (f hi r m : Nat) : Prop := (m = 2 * r + 1 ∨ m = 2 * r + 2) ∧ m < hi ∧ ∀ j, (j = 2 * r + 1 ∨ j = 2 * r + 2) → j < hi → ¬ lt (nth c (f + m)) (nth c (f + j))
theorem Heap.stop (hO : Ord lt) (h : Heap lt c f hi lo r) (hm : Kid lt c f hi r m) (h0 : ¬ lt (nth c (f + r)) (nth c (f + m))) : Heap lt c f hi lo hi := fun k j h1 h2 h3 h4 => by
  by_cases e : k = r
  · rw [e]
    rw [e] at h3
    exact hO.ntrans _ _ _ h0 (hm.2.2 j h3 h4)
  · exact h k j h1 e h3 h4
theorem Heap.step (hO : Ord lt) (h : Heap lt c f hi lo r) (ha : Above lt c f hi lo r) (hm : Kid lt c f hi r m) (hr : lo ≤ r) (hc : f + hi ≤ c.length) (h0 : lt (nth c (f + r)) (nth c (f + m))) :
    Heap lt (swp c (f + r) (f + m)) f hi lo m ∧ Above lt (swp c (f + r) (f + m)) f hi lo m := by
  obtain ⟨h1, h2, h3⟩ := hm
  have E : ∀ k, nth (swp c (f + r) (f + m)) (f + k) = if k = m then nth c (f + r) else if k = r then nth c (f + m) else nth c (f + k) := fun k => by
    rw [nth_swp (by omega) (by omega)]
    have e1 : (f + k = f + m) = (k = m) := by simp
    have e2 : (f + k = f + r) = (k = r) := by simp
    simp only [e1, e2]
  refine ⟨fun k j g1 g2 g3 g4 => ?_, fun k j g1 g2 g3 g4 => ?_⟩
  · rw [E k, E j, if_neg g2]
    by_cases e : k = r
    · rw [if_pos e]
      by_cases e2 : j = m
      · rw [if_pos e2]; exact hO.asym _ _ h0
      · rw [if_neg e2, if_neg (by omega)]
        exact h3 j (by rw [← e]; exact g3) g4
    · rw [if_neg e]
      by_cases e2 : j = m
      · omega
      · rw [if_neg e2]
        by_cases e3 : j = r
        · rw [if_pos e3]
          exact ha k m g1 (by omega) (by omega) h2
        · rw [if_neg e3]
          exact h k j g1 e g3 g4
  · have ek : k = r := by omega
    rw [E k, E j, if_neg (by omega), if_pos ek, if_neg (by omega), if_neg (by omega)]
    exact h m j (by omega) (by omega) g3 g4
end
theorem SSt.look {S : HitP → Prop} {C : World → Prop} {w W : World} {g cap k j : Nat} {c : List HitP} {cf : FuncId} {rv : Value} {ord : HitP → HitP → Int} (hB : CmpB cf rv ord S C g) (h : SSt C w g cap c W) (hS : ∀ x ∈ c, S x) (hk : k < c.length) (hj : j < c.length) :
    ∃ u v : HitP, Hid (nth c k = u) ∧ Hid (nth c j = v) ∧
      (∀ d os, (grow (redrawn W d) os).cell? ⟨g, k * 2, none⟩ = some (.int .i64 u.1)) ∧ (∀ d os, (grow (redrawn W d) os).cell? ⟨g, k * 2 + 1, none⟩ = some (.int .i64 u.2)) ∧
      (∀ d os, (grow (redrawn W d) os).cell? ⟨g, j * 2, none⟩ = some (.int .i64 v.1)) ∧ (∀ d os, (grow (redrawn W d) os).cell? ⟨g, j * 2 + 1, none⟩ = some (.int .i64 v.2)) ∧
      ∀ d os, Calls Try.prog cf #[rv, .agg #[.int .i64 u.1, .int .i64 u.2], .agg #[.int .i64 v.1, .int .i64 v.2]] (grow (redrawn W d) os) fun e w' => e = .returned (.int .i64 (ord u v)) ∧ Below (grow (redrawn W d) os).heap.size (grow (redrawn W d) os) w' := by
  obtain ⟨_, _, g0, g1⟩ := h.cell hk rfl
  obtain ⟨_, _, g2, g3⟩ := h.cell hj rfl
  exact ⟨nth c k, nth c j, rfl, rfl, g0, g1, g2, g3, h.call hB (hS _ (nth_mem hk)) (hS _ (nth_mem hj))⟩

/-- The state of siftDown. -/
structure SD (ord : HitP → HitP → Int) (S : HitP → Prop) (C : World → Prop) (w : World) (g cap n f lo hi : Nat) (l c : List HitP) (r : Nat) (W : World) : Prop where
  seg : Seg (f + lo) (f + hi) l c
  len : c.length = n
  mem : ∀ h ∈ c, S h
  heap : Heap (ltO ord) c f hi lo r
  above : Above (ltO ord) c f hi lo r
  st : SSt C w g cap c W
theorem SD.below {ord : HitP → HitP → Int} {S : HitP → Prop} {C : World → Prop} {w W W' : World} {g cap n f lo hi r : Nat} {l c : List HitP} {cf : FuncId} {rv : Value} (hB : CmpB cf rv ord S C g) (h : SD ord S C w g cap n f lo hi l c r W) (hb : Below W.heap.size W W') : SD ord S C w g cap n f lo hi l c r W' :=
  ⟨h.seg, h.len, h.mem, h.heap, h.above, h.st.below hB hb⟩
theorem SD.step {ord : HitP → HitP → Int} {S : HitP → Prop} {C : World → Prop} {w W W' : World} {g cap n f lo hi r m : Nat} {l c : List HitP} (hO : Ord (ltO ord)) (h : SD ord S C w g cap n f lo hi l c r W) (hm : Kid (ltO ord) c f hi r m) (hr : lo ≤ r) (hn : f + hi ≤ n) (h0 : ltO ord (nth c (f + r)) (nth c (f + m))) (hs : SSt C w g cap (swp c (f + r) (f + m)) W') :
    SD ord S C w g cap n f lo hi l (swp c (f + r) (f + m)) m W' := by
  have hl := h.len
  have hm1 := hm.1
  have hm2 := hm.2.1
  have hsg : Seg (f + lo) (f + hi) c (swp c (f + r) (f + m)) := Seg.swap c (by omega) (by omega)
  have hst := Heap.step hO h.heap h.above hm hr (by omega) h0
  exact ⟨h.seg.trans hsg, by rw [swp_length]; exact hl, seg_S hsg (by omega) h.mem, hst.1, hst.2, hs⟩

set_option maxRecDepth 100000 in
set_option maxHeartbeats 4000000 in
theorem siftDown_any (cf : FuncId) (rv : Value) (ord : HitP → HitP → Int) (S : HitP → Prop) (C : World → Prop) (g n cap cc lo hi f : Nat) (l : List HitP) (w W : World) (hB : CmpB cf rv ord S C g) (hO : Ord (ltO ord)) (hl : ∀ h ∈ l, S h) (hn : l.length = n) (hn1 : n ≤ 1000000000000) (hlo : lo ≤ hi) (hfn : f + hi ≤ n)
    (hH : Heap (ltO ord) l f hi (lo + 1) hi) (hP : SSt C w g cap l W) :
    Calls Try.prog 162 #[.slice (some ⟨g, 0, none⟩) n cc, .int .i64 lo, .int .i64 hi, .int .i64 f, .func (.func cf) #[rv] #[]] W fun e w' =>
      e = .returned (.tuple #[]) ∧ ∃ c', Seg (f + lo) (f + hi) l c' ∧ Heap (ltO ord) c' f hi lo hi ∧ SSt C w g cap c' w' := by
  have he := hB.enters
  have HB := Lib.hid hB
  have HO := Lib.hid hO
  have HFN := Lib.hid hfn
  have hI : SD ord S C w g cap n f lo hi l l lo W := ⟨Seg.refl _ _ _, hn, hl, hH.start.1, hH.start.2, hP⟩
  clear hn hl hB hP hH hO
  go_enter Try.func162, Try.ntmps162
  go_wp2
  go_loopw [10, 11] (fun i _ wr => ∃ (r : Nat) (c : List HitP), i = .int .i64 r ∧ lo ≤ r ∧ r ≤ hi ∧ SD ord S C w g cap n f lo hi l c r wr) (fun i _ _ => hi + 1 - (intOf i).toNat)
  case atStart => exact ⟨lo, l, rfl, Nat.le_refl _, hlo, hI⟩
  case round =>
    clear hI
    obtain ⟨r, c, rfl, hr1, hr2, hI⟩ := hrel
    obtain ⟨m, hm⟩ : ∃ m, m = 2 * r + 1 := ⟨_, rfl⟩
    have HM := Lib.hid hm
    have E1 := Lib.hid (show (2 : Int) * (r : Int) + 1 = ((m : Nat) : Int) from by omega)
    go_upto_region 2 with fail
    rw [E1.out]
    by_cases hex : hi ≤ m
    · have hd : decide ((hi : Int) ≤ m) = true := by simp; omega
      have HF : Hid (Seg (f + lo) (f + hi) l c ∧ Heap (ltO ord) c f hi lo hi) := ⟨hI.seg, hI.heap.stop0 (by omega)⟩
      have HX := Lib.hid hI.st
      clear hI hm
      go_wp2
      go_end0
      exact ⟨rfl, c, HF.out.1, HF.out.2, HX.out⟩
    · have hd : decide ((hi : Int) ≤ m) = false := by simp; omega
      clear hm
      go_upto_region 3 with fail
      go_cut [40] (fun s40 wx => ∃ B : Bool, s40 = .bool B ∧ Hid ((B = true → m + 1 < hi ∧ ltO ord (nth c (f + m)) (nth c (f + m + 1))) ∧ (B = false → m + 1 < hi → ¬ ltO ord (nth c (f + m)) (nth c (f + m + 1)))) ∧ SD ord S C w g cap n f lo hi l c r wx)
      case first =>
        by_cases h2 : m + 1 < hi
        · obtain ⟨u, v, HU, HV, gx0, gx1, gy0, gy1, hcall⟩ := hI.st.look HB.out hI.mem (k := f + m) (j := f + m + 1) (by rw [hI.len]; omega) (by rw [hI.len]; omega)
          have hd0 : decide ((m : Int) + 1 < hi) = true := by simp; omega
          have hb1 : f + m < n := by omega
          have hb2 : f + m + 1 < n := by omega
          refine wp_region_quiet_below mixed (by kernel_rfl) ?_
          repeat (go_big_quiet_step (exact grown_below (hcall _ _)))
          refine wpQuiet_nil ?_
          rintro _ ⟨⟨dq, osq⟩, rfl⟩
          have hI2 := hI.below HB.out (below_regrown wr dq osq)
          have HP : Hid ((decide (ord u v < 0) = true → m + 1 < hi ∧ ltO ord (nth c (f + m)) (nth c (f + m + 1))) ∧ (decide (ord u v < 0) = false → m + 1 < hi → ¬ ltO ord (nth c (f + m)) (nth c (f + m + 1)))) := by
            unfold ltO; rw [HU.out, HV.out]
            exact ⟨fun h => ⟨h2, of_decide_eq_true h⟩, fun h _ => of_decide_eq_false h⟩
          clear gx0 gx1 gy0 gy1 hcall hI
          dsimp only
          obtain ⟨B, hBB⟩ : ∃ B, B = decide (ord u v < 0) := ⟨_, rfl⟩
          rw [← hBB] at HP ⊢
          clear hBB
          go_wp2_with fail
          go_meet
          exact ⟨B, rfl, HP, hI2⟩
        · have hd0 : decide ((m : Int) + 1 < hi) = false := by simp; omega
          go_quiet (fail)
          go_wp2_with fail
          go_meet
          exact ⟨false, rfl, ⟨fun h => (by cases h), fun _ h => absurd h (by omega)⟩, hI.below HB.out ⟨rfl, rfl, rfl, Nat.le_refl _, fun _ _ => rfl⟩⟩
      case rest =>
        clear hI
        obtain ⟨B, rfl, HP, hI⟩ := hcut
        go_upto_if 40 with fail
        go_cut [11] (fun s11 wx => ∃ m : Nat, s11 = .int .i64 m ∧ Hid (Kid (ltO ord) c f hi r m) ∧ SD ord S C w g cap n f lo hi l c r wx)
        case first =>
          cases B
          · have HK : Hid (Kid (ltO ord) c f hi r m) := by
              have hm := HM.out
              refine ⟨.inl hm, by omega, fun j hj1 hj2 => ?_⟩
              rcases hj1 with hj1 | hj1
              · rw [hj1, ← hm]; exact HO.out.irrefl _
              · have e : f + j = f + m + 1 := by omega
                rw [e]; exact HP.out.2 rfl (by omega)
            clear HP
            go_wp2_with fail
            go_meet
            exact ⟨m, rfl, HK, hI⟩
          · have HK : Hid (Kid (ltO ord) c f hi r (m + 1)) := by
              have hm := HM.out
              have hp := HP.out.1 rfl
              have e1 : f + (m + 1) = f + m + 1 := by omega
              refine ⟨.inr (by omega), hp.1, fun j hj1 hj2 => ?_⟩
              rw [e1]
              rcases hj1 with hj1 | hj1
              · rw [hj1, ← hm]; exact HO.out.asym _ _ hp.2
              · have e : f + j = f + m + 1 := by omega
                rw [e]; exact HO.out.irrefl _
            clear HP
            go_wp2_with fail
            go_meet
            exact ⟨m + 1, by go_num, HK, hI⟩
        case rest =>
          clear hI HP
          obtain ⟨m', rfl, HK, hI⟩ := hcut
          have hm1 : f + m' < n := by have := HK.out.2.1; omega
          have hr3 : f + r < n := by have := HK.out.2.1; have := HK.out.1; omega
          have hrm : r < m' := by have := HK.out.1; omega
          have hmh : m' < hi := HK.out.2.1
          obtain ⟨u, v, HU, HV, gx0, gx1, gy0, gy1, hcall⟩ := hI.st.look HB.out hI.mem (k := f + r) (j := f + m') (by rw [hI.len]; omega) (by rw [hI.len]; omega)
          go_wp2
          refine wp_region_quiet_below mixed (by kernel_rfl) ?_
          repeat (go_big_quiet_step (exact grown_below (hcall _ _)))
          refine wpQuiet_nil ?_
          rintro _ ⟨⟨dq, osq⟩, rfl⟩
          have hI2 := hI.below HB.out (below_regrown wc dq osq)
          clear gx0 gx1 gy0 gy1 hcall hI
          dsimp only
          obtain ⟨W2, hW2⟩ : ∃ W2, W2 = grow (redrawn wc dq) osq := ⟨_, rfl⟩
          rw [← hW2] at hI2 ⊢
          clear hW2
          by_cases hxy : ord u v < 0
          · have hdx : decide (ord u v < 0) = true := by simp [hxy]
            rw [hdx]
            have HLT : Hid (ltO ord (nth c (f + r)) (nth c (f + m'))) := by rw [Hid, ltO, HU.out, HV.out]; exact hxy
            clear hxy hdx HU HV
            obtain ⟨u, v, huv, ⟨x0, x1⟩, ⟨fx0, fx1⟩, ⟨y0, y1⟩, ⟨fy0, fy1⟩, hX⟩ := hI2.st.xch HB.out (i := f + r) (j := f + m') (by rw [hI2.len]; omega) (by rw [hI2.len]; omega)
            have HX := Lib.hid (hI2.step HO.out HK.out hr1 HFN.out HLT.out hX)
            clear huv hX hI2
            go_wp2
            go_region
            go_wp2
            go_roundw
            case rel => exact ⟨m', _, rfl, by omega, by omega, HX.out⟩
            case measure => simp [intOf]; omega
          · have hdx : decide (ord u v < 0) = false := by simp [hxy]
            rw [hdx]
            have HF : Hid (Seg (f + lo) (f + hi) l c ∧ Heap (ltO ord) c f hi lo hi) := ⟨hI2.seg, hI2.heap.stop HO.out HK.out (by unfold ltO; rw [HU.out, HV.out]; exact hxy)⟩
            have HX := Lib.hid hI2.st
            clear hxy hdx hI2
            go_wp2
            (try simp only [Exit.inBlock, Exit.then])
            refine bodyPost_ret (results_none rfl _ _ _) rfl ?_
            exact ⟨rfl, c, HF.out.1, HF.out.2, HX.out⟩

end Go.Proofs.Ytmpmjkbjnklgfaa

/- The sort's heap sort: plain laws; walked. -/

namespace Go.Proofs.Ytmpmjkbjnklgfaa
open Go.RowKit Go.Sort
set_option linter.unusedVariables false
set_option linter.unusedSimpArgs false

section
variable {lt : HitP → HitP → Prop} {c c2 : List HitP} {f hi k : Nat}
theorem Heap.leaves (f hi : Nat) (c : List HitP) (k : Nat) (h : hi ≤ 2 * k + 1) : Heap lt c f hi k hi := fun k' j h1 h2 h3 h4 => by omega
/-- The heap's root is its greatest. -/
theorem Heap.root (hO : Ord lt) (h : Heap lt c f hi 0 hi) : ∀ k, k < hi → ¬ lt (nth c f) (nth c (f + k)) := by
  intro k
  induction k using Nat.strongRecOn with
  | ind k ih =>
    intro hk
    by_cases h0 : k = 0
    · rw [h0]; exact hO.irrefl _
    · have h1 := ih ((k - 1) / 2) (by omega) (by omega)
      exact hO.ntrans _ _ _ h1 (h ((k - 1) / 2) k (by omega) (by omega) (by omega) hk)
/-- Behind k all is sorted and not below what stands ahead. -/
structure HS (lt : HitP → HitP → Prop) (c : List HitP) (f hi k : Nat) : Prop where
  heap : Heap lt c f k 0 k
  srt : Srt lt c (f + k) (f + hi)
  up : ∀ p q, p < k → k ≤ q → q < hi → ¬ lt (nth c (f + q)) (nth c (f + p))
theorem HS.start (h : Heap lt c f hi 0 hi) : HS lt c f hi hi := ⟨h, Srt.small _ _ (by omega), fun p q h1 h2 h3 => by omega⟩
theorem HS.pre (h : HS lt c f hi (k + 1)) (hk : k < hi) (hl : f + hi ≤ c.length) : Heap lt (swp c f (f + k)) f k (0 + 1) k := fun a j h1 h2 h3 h4 => by
  rw [nth_swp (by omega) (by omega), nth_swp (by omega) (by omega), if_neg (by omega), if_neg (by omega), if_neg (by omega), if_neg (by omega)]
  exact h.heap a j (by omega) (by omega) h3 (by omega)
theorem HS.step (hO : Ord lt) (h : HS lt c f hi (k + 1)) (hk : k < hi) (hl : f + hi ≤ c.length) (hs : Seg f (f + k) (swp c f (f + k)) c2) (hh : Heap lt c2 f k 0 k) : HS lt c2 f hi k := by
  have hl2 : f + k ≤ (swp c f (f + k)).length := by rw [swp_length]; omega
  have out : ∀ i, k ≤ i → i < hi → nth c2 (f + i) = if i = k then nth c f else nth c (f + i) := fun i h1 h2 => by
    rw [hs.out hl2 (.inr (by omega)), nth_swp (by omega) (by omega)]
    by_cases e : i = k
    · rw [if_pos e, if_pos (by omega)]
    · rw [if_neg e, if_neg (by omega), if_neg (by omega)]
  have ins : ∀ P : HitP → Prop, (∀ i, i < k + 1 → P (nth c (f + i))) → ∀ i, i < k → P (nth c2 (f + i)) := fun P hP i hi' => by
    refine hs.all hl2 (P := P) (fun j h1 h2 => ?_) (f + i) (by omega) (by omega)
    rw [nth_swp (by omega) (by omega), if_neg (by omega)]
    by_cases e : j = f
    · rw [if_pos e]; exact hP k (by omega)
    · rw [if_neg e]
      have := hP (j - f) (by omega)
      rwa [show f + (j - f) = j from by omega] at this
  have rt := Heap.root hO h.heap
  refine ⟨hh, fun p q h1 h2 h3 => ?_, fun p q h1 h2 h3 => ?_⟩
  · obtain ⟨p', rfl⟩ : ∃ p', p = f + p' := ⟨p - f, by omega⟩
    obtain ⟨q', rfl⟩ : ∃ q', q = f + q' := ⟨q - f, by omega⟩
    rw [out p' (by omega) (by omega), out q' (by omega) (by omega), if_neg (by omega)]
    by_cases e : p' = k
    · rw [if_pos e]
      exact h.up 0 q' (by omega) (by omega) (by omega)
    · rw [if_neg e]
      exact h.srt (f + p') (f + q') (by omega) (by omega) (by omega)
  · rw [out q h2 h3]
    by_cases e : q = k
    · rw [if_pos e]
      exact ins (fun x => ¬ lt (nth c f) x) (fun i hi' => rt i hi') p h1
    · rw [if_neg e]
      exact ins (fun x => ¬ lt (nth c (f + q)) x) (fun i hi' => h.up i q hi' (by omega) h3) p h1
end

/-- The state of the heap sort. -/
structure HW (S : HitP → Prop) (C : World → Prop) (w : World) (g cap n a hi : Nat) (l c : List HitP) (P : Prop) (W : World) : Prop where
  seg : Seg a (a + hi) l c
  len : c.length = n
  mem : ∀ h ∈ c, S h
  st : SSt C w g cap c W
  p : P

set_option maxRecDepth 100000 in
set_option maxHeartbeats 4000000 in
theorem heapSort_any (cf : FuncId) (rv : Value) (ord : HitP → HitP → Int) (S : HitP → Prop) (C : World → Prop) (g n cap cc a b : Nat) (l : List HitP) (w W : World) (hB : CmpB cf rv ord S C g) (hO : Ord (ltO ord)) (hl : ∀ h ∈ l, S h) (hn : l.length = n) (hn1 : n ≤ 1000000000000) (hab : a < b) (hbn : b ≤ n) (hP : SSt C w g cap l W) :
    Calls Try.prog 139 #[.slice (some ⟨g, 0, none⟩) n cc, .int .i64 a, .int .i64 b, .func (.func cf) #[rv] #[]] W fun e w' =>
      e = .returned (.tuple #[]) ∧ ∃ c', Seg a b l c' ∧ Srt (ltO ord) c' a b ∧ SSt C w g cap c' w' := by
  have he := hB.enters
  have HB := Lib.hid hB
  have HO := Lib.hid hO
  have HN := Lib.hid hn
  have HL := Lib.hid hl
  obtain ⟨hi, hhi⟩ : ∃ hi, b = a + hi := ⟨b - a, by omega⟩
  have HBE := Lib.hid hhi
  have E1 := Lib.hid (show (b : Int) - (a : Int) = ((hi : Nat) : Int) from by omega)
  have hbn2 : a + hi ≤ n := by omega
  have hd1 : (1 : Int) ≤ hi := by omega
  have hd2 : 1 ≤ hi := by omega
  have hI : HW S C w g cap n a hi l l (Heap (ltO ord) l a hi ((hi - 1) / 2 + 1) hi) W := ⟨Seg.refl _ _ _, hn, hl, hP, Heap.leaves _ _ _ _ (by omega)⟩
  clear hn hl hB hO hP hhi
  go_enter Try.func139, Try.ntmps139
  go_upto_block 0 with fail
  rw [E1.out]
  go_cut [11] (fun s11 wx => ∃ c, s11 = .int .i64 (-1) ∧ HW S C w g cap n a hi l c (HS (ltO ord) c a hi hi) wx)
  case first =>
    go_wp2_with fail
    go_loopw [11] (fun i wr => ∃ (k : Nat) (c : List HitP), i = .int .i64 ((k : Int) - 1) ∧ k ≤ hi ∧ HW S C w g cap n a hi l c (Heap (ltO ord) c a hi k hi) wr) (fun i _ => (intOf i + 1).toNat)
    case atStart => exact ⟨(hi - 1) / 2 + 1, l, by congr 1; omega, by omega, hI⟩
    case round =>
      clear hI
      obtain ⟨k, c, rfl, hk, hI⟩ := hrel
      by_cases h0 : k = 0
      · subst h0
        have e0 : ((0 : Nat) : Int) - 1 = -1 := by omega
        rw [e0]
        have HI : Hid (HW S C w g cap n a hi l c (HS (ltO ord) c a hi hi) wr) := ⟨hI.seg, hI.len, hI.mem, hI.st, HS.start hI.p⟩
        clear hI e0
        go_wp2_with fail
        go_meet
        exact ⟨c, rfl, HI.out⟩
      · obtain ⟨k', rfl⟩ : ∃ k', k = k' + 1 := ⟨k - 1, by omega⟩
        have e0 : ((k' + 1 : Nat) : Int) - 1 = (k' : Int) := by omega
        rw [e0]
        clear e0 h0
        go_wp2_with fail
        refine (siftDown_any cf rv ord S C g n cap cc k' hi a c w wr HB.out HO.out hI.mem hI.len hn1 (by omega) hbn2 hI.p hI.st).mono ?_
        rintro e W2 ⟨rfl, c', hs, hh, hst⟩
        have HI : Hid (HW S C w g cap n a hi l c' (Heap (ltO ord) c' a hi k' hi) W2) :=
          ⟨hI.seg.trans (hs.mono (by omega) (by omega)), by rw [hs.length, hI.len], seg_S hs (by rw [hI.len]; exact hbn2) hI.mem, hst, hh⟩
        clear hI hs hh hst
        go_wp2
        go_roundw
        case rel => exact ⟨k', c', rfl, by omega, HI.out⟩
        case measure => simp [intOf]; try omega
  case rest =>
    clear hI
    obtain ⟨c, rfl, hI⟩ := hcut
    go_wp2
    go_loopw [12] (fun i wr => ∃ (k : Nat) (c : List HitP), i = .int .i64 ((k : Int) - 1) ∧ k ≤ hi ∧ HW S C w g cap n a hi l c (HS (ltO ord) c a hi k) wr) (fun i _ => (intOf i + 1).toNat)
    case atStart => exact ⟨hi, c, rfl, by omega, hI⟩
    case round =>
      clear hI
      obtain ⟨k, c, rfl, hk, hI⟩ := hrel
      by_cases h0 : k = 0
      · subst h0
        have e0 : ((0 : Nat) : Int) - 1 = -1 := by omega
        rw [e0]
        have HF : Hid (Seg a b l c ∧ Srt (ltO ord) c a b) := by rw [HBE.out]; exact ⟨hI.seg, hI.p.srt⟩
        have HX := Lib.hid hI.st
        clear hI e0
        go_wp2
        go_end0
        exact ⟨rfl, c, HF.out.1, HF.out.2, HX.out⟩
      · obtain ⟨k', rfl⟩ : ∃ k', k = k' + 1 := ⟨k - 1, by omega⟩
        have e0 : ((k' + 1 : Nat) : Int) - 1 = (k' : Int) := by omega
        rw [e0]
        clear e0 h0
        have hkn : a + k' < n := by omega
        have han : a < n := by omega
        obtain ⟨u, v, huv, ⟨x0, x1⟩, ⟨fx0, fx1⟩, ⟨y0, y1⟩, ⟨fy0, fy1⟩, hX⟩ := hI.st.xch HB.out (i := a) (j := a + k') (by rw [hI.len]; omega) (by rw [hI.len]; omega)
        go_upto_region 11 with fail
        go_cut [] (fun wx => SSt C w g cap (swp c a (a + k')) wx)
        case first =>
          by_cases hpa : k' = 0
          · subst hpa
            have huv' := huv rfl
            subst huv'
            clear huv
            have HX := Lib.hid hX
            clear hX
            go_region
            go_wp2_with fail
            go_meet
            exact HX.out
          · clear huv
            have HX := Lib.hid hX
            clear hX
            go_region
            go_wp2_with fail
            go_meet
            exact HX.out
        case rest =>
          clear huv hX x0 x1 fx0 fx1 y0 y1 fy0 fy1
          have hsw : Seg a (a + hi) c (swp c a (a + k')) := Seg.swap c (by omega) (by omega)
          have hm2 := seg_S hsw (by rw [hI.len]; exact hbn2) hI.mem
          have hl2 : (swp c a (a + k')).length = n := by rw [swp_length, hI.len]
          have hpre := hI.p.pre (by omega) (by rw [hI.len]; exact hbn2)
          go_wp2_with fail
          refine (siftDown_any cf rv ord S C g n cap cc 0 k' a (swp c a (a + k')) w wc HB.out HO.out hm2 hl2 hn1 (by omega) (by omega) hpre hcut).mono ?_
          rintro e W2 ⟨rfl, c', hs, hh, hst⟩
          have HI : Hid (HW S C w g cap n a hi l c' (HS (ltO ord) c' a hi k') W2) :=
            ⟨hI.seg.trans (hsw.trans (hs.mono (by omega) (by omega))), by rw [hs.length, hl2], seg_S hs (by rw [hl2]; omega) hm2, hst, hI.p.step HO.out (by omega) (by rw [hI.len]; exact hbn2) hs hh⟩
          clear hI hs hh hst hsw hm2 hl2 hpre hcut
          go_wp2
          go_roundw
          case rel => exact ⟨k', c', rfl, by omega, HI.out⟩
          case measure => simp [intOf]; try omega

end Go.Proofs.Ytmpmjkbjnklgfaa

/- The sort's partial insertion sort: plain laws. -/

namespace Go.Proofs.Ytmpmjkbjnklgfaa
set_option linter.unusedVariables false

section
variable {lt : HitP → HitP → Prop} {c d : List HitP} {a b i : Nat}
/-- Two neighbours that stand wrong, exchanged: what stands ahead of them stays sorted, the right one is above all of it. -/
theorem pins_swap (hO : Ord lt) (h : Srt lt c a (i + 1)) (hi : i + 1 < c.length) (ha : a ≤ i) (hlt : lt (nth c (i + 1)) (nth c i)) :
    Srt lt (swp c (i + 1) i) a i ∧ ∀ p, a ≤ p → p < i + 1 → ¬ lt (nth (swp c (i + 1) i) (i + 1)) (nth (swp c (i + 1) i) p) := by
  refine ⟨fun p q h1 h2 h3 => ?_, fun p h1 h2 => ?_⟩
  · rw [nth_swp (by omega) (by omega), nth_swp (by omega) (by omega), if_neg (by omega), if_neg (by omega), if_neg (by omega), if_neg (by omega)]
    exact h p q h1 h2 (by omega)
  · rw [nth_swp (by omega) (by omega), nth_swp (by omega) (by omega), if_neg (by omega), if_pos rfl]
    by_cases e : p = i
    · rw [if_pos e]; exact hO.asym _ _ hlt
    · rw [if_neg e, if_neg (by omega)]
      exact h p i h1 (by omega) (by omega)
/-- One more that is not below those ahead. -/
theorem Srt.more (h : Srt lt c a i) (h1 : ∀ p, a ≤ p → p < i → ¬ lt (nth c i) (nth c p)) : Srt lt c a (i + 1) := fun p q g1 g2 g3 => by
  by_cases e : q = i
  · rw [e]; exact h1 p g1 (by omega)
  · exact h p q g1 g2 (by omega)
/-- A sorted row's next: not below its neighbour, so not below all ahead. -/
theorem Srt.next (hO : Ord lt) (h : Srt lt c a (i + 1)) (ha : a ≤ i) (h1 : ¬ lt (nth c (i + 1)) (nth c i)) : Srt lt c a (i + 1 + 1) := h.more fun p g1 g2 => by
  by_cases e : p = i
  · rw [e]; exact h1
  · exact hO.ntrans _ _ _ h1 (h p i g1 (by omega) (by omega))
/-- Exchanges behind i leave what is ahead sorted. -/
theorem Srt.keep (h : Srt lt c a i) (hs : Seg i b c d) (hb : b ≤ c.length) : Srt lt d a i := fun p q g1 g2 g3 => by
  rw [hs.out hb (.inl (by omega)), hs.out hb (.inl (by omega))]
  exact h p q g1 g2 g3
/-- The parts about a pivot, each sorted: all is. -/
theorem Srt.join {m : Nat} (hO : Ord lt) (hl : Srt lt c a m) (hr : Srt lt c (m + 1) b) (h1 : ∀ i, a ≤ i → i < m → ¬ lt (nth c m) (nth c i)) (h2 : ∀ i, m < i → i < b → ¬ lt (nth c i) (nth c m)) : Srt lt c a b := fun p q g1 g2 g3 => by
  by_cases e : q < m
  · exact hl p q g1 g2 e
  · by_cases e2 : q = m
    · rw [e2]; exact h1 p g1 (by omega)
    · by_cases e3 : p < m
      · exact hO.ntrans _ _ _ (h2 q (by omega) g3) (h1 p g1 e3)
      · by_cases e4 : p = m
        · rw [e4]; exact h2 q (by omega) g3
        · exact hr p q (by omega) g2 g3
end

end Go.Proofs.Ytmpmjkbjnklgfaa

/- The sort's partial insertion sort, walked. -/



namespace Go.Proofs.Ytmpmjkbjnklgfaa
open Go.RowKit Go.Sort
set_option linter.unusedVariables false
set_option linter.unusedSimpArgs false

/-- All that stands left of a is at most what stands from a to b. -/
def Low (lt : HitP → HitP → Prop) (c : List HitP) (a b : Nat) : Prop := ∀ p q, p < a → a ≤ q → q < b → ¬ lt (nth c q) (nth c p)
theorem Low.seg {lt : HitP → HitP → Prop} {c d : List HitP} {a b : Nat} (h : Low lt c a b) (hs : Seg a b c d) (hb : b ≤ c.length) : Low lt d a b := fun p q h1 h2 h3 => by
  rw [hs.out hb (.inl h1)]
  exact hs.all hb (P := fun x => ¬ lt x (nth c p)) (fun i g1 g2 => h p i h1 g1 g2) q h2 h3

/-- The state of the partial insertion sort, of which P says more. -/
structure PS (S : HitP → Prop) (C : World → Prop) (w : World) (g cap n a b : Nat) (l c : List HitP) (P : Prop) (W : World) : Prop where
  seg : Seg a b l c
  len : c.length = n
  mem : ∀ h ∈ c, S h
  st : SSt C w g cap c W
  p : P
section
variable {cf : FuncId} {rv : Value} {ord : HitP → HitP → Int} {S : HitP → Prop} {C : World → Prop} {g cap n a b i j : Nat} {l c : List HitP} {w W W' : World} {P Q : Prop}
theorem PS.below (hB : CmpB cf rv ord S C g) (h : PS S C w g cap n a b l c P W) (hb : Below W.heap.size W W') : PS S C w g cap n a b l c P W' := ⟨h.seg, h.len, h.mem, h.st.below hB hb, h.p⟩
theorem PS.to (h : PS S C w g cap n a b l c P W) (q : Q) : PS S C w g cap n a b l c Q W := ⟨h.seg, h.len, h.mem, h.st, q⟩
theorem PS.swap (h : PS S C w g cap n a b l c P W) (hi : a ≤ i ∧ i < b) (hj : a ≤ j ∧ j < b) (hb : b ≤ n) (hs : SSt C w g cap (swp c i j) W') (q : Q) : PS S C w g cap n a b l (swp c i j) Q W' :=
  ⟨h.seg.trans (Seg.swap c hi hj), by rw [swp_length, h.len], seg_S (Seg.swap c hi hj) (by rw [h.len]; exact hb) h.mem, hs, q⟩
end

end Go.Proofs.Ytmpmjkbjnklgfaa
