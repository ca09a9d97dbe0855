/- Parts of the proof, one behind the other: R2, R3, T1, T2. No condition but what each theorem states. -/
import Derived.Test.YtmpmjkbjnklgfaaQ8
import Derived.Test.YtmpmjkbjnklgfaaQ11

/- All hits of a text, as the document has them (layer 6): walked. -/


namespace Go.Proofs.Ytmpmjkbjnklgfaa
open Go.RowKit Go.Sort
set_option linter.unusedVariables false
set_option linter.unusedSimpArgs false

theorem OwnH.below {w w' : World} {base : Nat} {v : Value} {l : List HitP} (h : OwnH w base v l) (hb : Below w.heap.size w w') : OwnH w' base v l := by
  obtain ⟨h1, h2 | ⟨g, cap, cur, e, hg, hh, hr⟩⟩ := h
  · exact ⟨h1, .inl h2⟩
  · exact ⟨h1, .inr ⟨g, cap, cur, e, hg, (hb.block g (Array.getElem?_eq_some_iff.1 hh).1).trans hh, hr⟩⟩
theorem hereD_bd {fold : Bool} {wss : List (List Int)} {frm : Int} {text : List Int} {p n : Nat} (h0 : 0 ≤ frm) (h1 : frm ≤ 4611686018427387904) (hp : p ≤ 1000001) (hn : n ≤ 1000000) : ∀ h ∈ hereD fold wss frm text p n, I64 h.1 ∧ I64 h.2 := by
  intro h hm
  obtain ⟨k, hk, _, rfl⟩ := mem_hereD.1 hm
  unfold I64
  dsimp only
  omega
theorem hereD_le (fold : Bool) (wss : List (List Int)) (frm : Int) (text : List Int) (p n : Nat) : (hereD fold wss frm text p n).length ≤ n := by
  rw [hereD_length]
  have := List.length_filter_le (fun k => stands fold wss text p k) (List.range n)
  simpa using this
theorem occTo_le (fold : Bool) (wss : List (List Int)) (frm : Int) (text : List Int) : ∀ n, (occTo fold wss frm text n).length ≤ n * wss.length
  | 0 => by simp [occTo]
  | n + 1 => by
    have h1 := occTo_le fold wss frm text n
    have h2 := hereD_le fold wss frm text n wss.length
    rw [occTo_succ, List.length_append, Nat.add_mul, Nat.one_mul]
    omega

set_option maxHeartbeats 1000000 in
theorem rocc_no (fold : Bool) (a b : Option Addr) (la ca lb cb : Nat) (frm : Int) (wss : List (List Int)) (w : World) (hA : Wds w a la wss) (hla : la ≤ 1000000) (hM : ∀ x ∈ wss, x.length ≤ 1000000) (hm : mayP fold wss frm = false) :
    Calls Try.prog 29 #[.agg (setV fold a la ca), .int .i64 frm, .slice b lb cb] w fun e w' => e = .returned (.tuple #[.slice none 0 0, .int .i64 2]) ∧ Below w.heap.size w w' := by
  have hB0 : Below w.heap.size w (w.alloc (.cells (setV fold a la ca) 39)) := (Below.refl _ _).alloc (Nat.le_refl _) _
  unfold mayP at hm
  rw [right_eq] at hm
  by_cases h0 : 0 ≤ frm ∧ frm ≤ 4611686018427387904
  · rw [decide_eq_true h0, Bool.true_and] at hm
    have HM := Lib.hid hm
    clear hm
    go_enter Try.func29, Try.ntmps29
    go_wp2_with fail
    refine (rright_any fold a la ca wss _ (hA.below hB0) hla hM).mono ?_
    rintro e w1 ⟨rfl, hb⟩
    rw [HM.out]
    go_wp2
    go_ret2
    exact ⟨rfl, hB0.trans (hb.mono (by simp))⟩
  · clear hm
    by_cases h1 : 0 ≤ frm
    · have h2 : 4611686018427387904 < frm := by omega
      clear h0
      go_enter Try.func29, Try.ntmps29
      go_wp2_with fail
      refine (rright_any fold a la ca wss _ (hA.below hB0) hla hM).mono ?_
      rintro e w1 ⟨rfl, hb⟩
      cases rightR fold wss
      all_goals
        go_wp2
        go_ret2
        exact ⟨rfl, hB0.trans (hb.mono (by simp))⟩
    · clear h0
      go_enter Try.func29, Try.ntmps29
      go_wp2_with fail
      refine (rright_any fold a la ca wss _ (hA.below hB0) hla hM).mono ?_
      rintro e w1 ⟨rfl, hb⟩
      cases rightR fold wss
      all_goals
        go_wp2
        go_ret2
        exact ⟨rfl, hB0.trans (hb.mono (by simp))⟩

set_option maxRecDepth 100000 in
set_option maxHeartbeats 8000000 in
theorem rocc_yes (fold : Bool) (a b : Option Addr) (la ca lb cb : Nat) (frm : Int) (text : List Int) (wss : List (List Int)) (w : World) (hA : Wds w a la wss) (hL : Bys w b lb text) (hla : la ≤ 1000) (hlb : lb ≤ 1000000) (hcb : lb ≤ cb) (hM : ∀ x ∈ wss, x.length ≤ 1000000) (hm : mayP fold wss frm = true) :
    Calls Try.prog 29 #[.agg (setV fold a la ca), .int .i64 frm, .slice b lb cb] w fun e w' => ∃ v, e = .returned (.tuple #[v, .int .i64 0]) ∧ OwnH w' w.heap.size v (occD fold wss frm text) ∧ Below w.heap.size w w' := by
  obtain ⟨i0, hi, hz0, hz1, hz2⟩ := info_parts hit_info
  have hB0 : Below w.heap.size w (w.alloc (.cells (setV fold a la ca) 39)) := (Below.refl _ _).alloc (Nat.le_refl _) _
  have hnew := World.alloc_heap_new w (.cells (setV fold a la ca) 39)
  obtain ⟨hf0, hf1⟩ := mayP_frm hm
  unfold mayP at hm
  rw [right_eq, decide_eq_true ⟨hf0, hf1⟩, Bool.true_and] at hm
  have HM := Lib.hid hm
  have HWL := Lib.hid hA.len
  have HTL := Lib.hid hL.len
  clear hm
  go_enter Try.func29, Try.ntmps29
  go_wp2_with fail
  refine (rright_any fold a la ca wss _ (hA.below hB0) (by omega) hM).mono ?_
  rintro e w1 ⟨rfl, hb⟩
  rw [HM.out]
  have hB1 : Below w.heap.size w w1 := hB0.trans (hb.mono (by simp))
  have n1 : w1.heap[w.heap.size]? = some (.cells (setV fold a la ca) 39 (0, 0)) := (hb.block _ (by simp)).trans hnew
  clear hb hnew hB0
  go_wp2
  go_loopw [8, 9, 10, 11] (fun s8 s9 _ _ wr => ∃ (p : Nat) (v : Value), v = s8 ∧ p ≤ lb + 1 ∧ s9 = .int .i64 p ∧ OwnH wr w.heap.size v (occTo fold wss frm text p) ∧ Below w.heap.size w wr ∧ wr.heap[w.heap.size]? = some (.cells (setV fold a la ca) 39 (0, 0))) (fun _ s9 _ _ _ => lb + 1 - (intOf s9).toNat)
  case atStart => exact ⟨0, _, rfl, by omega, rfl, World.ownsRow_nil _ _ _ _, hB1, n1⟩
  case round =>
    clear hB1 n1
    obtain ⟨p, v, rfl, hp, rfl, hown, hBe, n1⟩ := hrel
    have hol := occTo_le fold wss frm text p
    have hom : p * wss.length ≤ 1000001 * 1000 := Nat.mul_le_mul (by omega) (by rw [HWL.out]; exact hla)
    by_cases hlt : p ≤ lb
    · have hd : decide ((p : Int) ≤ lb) = true := by simp; omega
      go_upto_block 2 with fail
      go_cut [10] (fun s10 wx => ∃ (a' : Option Addr) (c' : Nat) (l : List HitP), s10 = .slice a' l.length c' ∧ l.length ≤ c' ∧ Hid (l = hereD fold wss frm text p la) ∧ Hts wx a' l.length l ∧ OwnH wx w.heap.size v (occTo fold wss frm text p) ∧ Below w.heap.size w wx ∧ wx.heap[w.heap.size]? = some (.cells (setV fold a la ca) 39 (0, 0)))
      case first =>
        go_wp2_with fail
        go_loopw [10, 11] (fun s10 s11 wx => ∃ (k : Nat) (a' : Option Addr) (c' : Nat) (l : List HitP), k ≤ la ∧ s11 = .int .i64 k ∧ s10 = .slice a' l.length c' ∧ l.length ≤ c' ∧ Hid (l = hereD fold wss frm text p k) ∧ Hts wx a' l.length l ∧ OwnH wx w.heap.size v (occTo fold wss frm text p) ∧ Below w.heap.size w wx ∧ wx.heap[w.heap.size]? = some (.cells (setV fold a la ca) 39 (0, 0))) (fun _ s11 _ => la - (intOf s11).toNat)
        case atStart => exact ⟨0, none, 0, [], Nat.zero_le _, rfl, rfl, Nat.le_refl _, rfl, ⟨⟨rfl, .inl rfl⟩, by simp⟩, hown, hBe, n1⟩
        case round =>
          clear hown hBe n1
          obtain ⟨k, a', c', l, hk, rfl, rfl, hlc, HH, hts, hown, hBe, n1⟩ := hrel
          have n0 : w.heap.size < wr.heap.size := (Array.getElem?_eq_some_iff.1 n1).1
          have s0 : ∀ d os, (grow (redrawn wr d) os).cell? ⟨w.heap.size, 0, none⟩ = some (.bool fold) := fun d os => ((below_regrown wr d os).cell (p := ⟨w.heap.size, 0, none⟩) n0).trans (by simp [World.cell?, n1])
          have s1 : ∀ d os, (grow (redrawn wr d) os).cell? ⟨w.heap.size, 1, none⟩ = some (.slice a la ca) := fun d os => ((below_regrown wr d os).cell (p := ⟨w.heap.size, 1, none⟩) n0).trans (by simp [World.cell?, n1])
          have t1 : wr.cell? ⟨w.heap.size, 1, none⟩ = some (.slice a la ca) := by simp [World.cell?, n1]
          by_cases hkl : k < la
          · obtain ⟨bb, off, aw, lw, cw, x, rfl, hbl, hcell, hx, hX, hlc2⟩ := (hA.below hBe).at_ hkl
            have hlw : lw ≤ 1000000 := by have := mem_bd hM hx; rw [hX.len] at this; exact this
            have hcell2 : ∀ d os, (grow (redrawn wr d) os).cell? ⟨bb, off + k, none⟩ = some (.slice aw lw cw) := fun d os => ((below_regrown wr d os).cell (p := ⟨bb, off + k, none⟩) hbl).trans hcell
            have hX2 : ∀ d os, Bys (grow (redrawn wr d) os) aw lw x := fun d os => hX.below (below_regrown wr d os)
            have hL2 : ∀ d os, Bys (grow (redrawn wr d) os) b lb text := fun d os => (hL.below hBe).below (below_regrown wr d os)
            have HST : Hid (stands fold wss text p k = atL fold text (p : Int) x) := stands_is hx
            have hdk : decide ((k : Int) < la) = true := by simp; omega
            clear hx hcell
            go_wp2
            refine wp_region_quiet_below mixed (by kernel_rfl) ?_
            repeat (go_big_quiet_step (exact grown_below (rat_any fold b aw lb cb lw cw (p : Int) text x _ (hL2 _ _) (hX2 _ _) hcb hlb hlw (by omega))))
            refine wpQuiet_nil ?_
            rintro _ ⟨⟨dq, osq⟩, rfl⟩
            have hBq := below_regrown wr dq osq
            have hB5 : Below w.heap.size w (grow (redrawn wr dq) osq) := hBe.trans (hBq.mono hBe.size)
            have m1 : (grow (redrawn wr dq) osq).heap[w.heap.size]? = _ := (hBq.block _ n0).trans n1
            have hown5 := hown.below hBq
            have hts5 := hts.below hBq
            have q0 := s0 dq osq
            have q1 := s1 dq osq
            clear s0 s1 t1 hcell2 hX2 hL2 hX n1 hBe hown hts
            obtain ⟨W5, hW5⟩ : ∃ W5, W5 = grow (redrawn wr dq) osq := ⟨_, rfl⟩
            rw [← hW5] at hB5 m1 hown5 hts5 q0 q1 ⊢
            clear hW5 hBq
            cases e : atL fold text (p : Int) x with
            | false =>
              have HH2 : Hid (l = hereD fold wss frm text p (k + 1)) := by rw [Hid, hereD_succ, HST.out, e, HH.out]; rfl
              go_wp2
              go_roundw
              case rel => exact ⟨k + 1, a', c', l, by omega, by go_num, rfl, hlc, HH2, hts5, hown5, hB5, m1⟩
              case measure => simp [intOf]; omega
            | true =>
              have HH2 : Hid (putH wss l (frm + (p : Int), (k : Int)) = hereD fold wss frm text p (k + 1)) := by rw [Hid, hereD_succ, HST.out, e, HH.out]; rfl
              have hll : l.length ≤ 1000000 := by rw [HH.out]; have := hereD_le fold wss frm text p k; omega
              have hb' : ∀ x ∈ putH wss l (frm + (p : Int), (k : Int)), I64 x.1 ∧ I64 x.2 := by rw [HH2.out]; exact hereD_bd hf0 hf1 (by omega) (by omega)
              have HB' := Lib.hid hb'
              have hA5 := hA.below hB5
              clear hb'
              go_wp2_with fail
              refine (rput_any fold _ a' la ca l.length c' l (frm + (p : Int), (k : Int)) wss _ hA5 hts5 (by omega) (by omega) hlc).mono ?_
              rintro e w6 ⟨v6, rfl, hown6, hb6⟩
              obtain ⟨a2, c2, rfl, hc2, hts6⟩ := hown6.hts HB'.out
              have hB6 : Below w.heap.size w w6 := hB5.trans (hb6.mono hB5.size)
              have m6 : w6.heap[w.heap.size]? = _ := (hb6.block _ (Array.getElem?_eq_some_iff.1 m1).1).trans m1
              have hown7 := hown5.below hb6
              clear hown6 hown5 hts5 q0 q1 hb6 m1 hB5 hA5
              go_wp2
              go_roundw
              case rel => exact ⟨k + 1, a2, c2, _, by omega, by go_num, rfl, hc2, HH2, hts6, hown7, hB6, m6⟩
              case measure => simp [intOf]; omega
          · obtain rfl : k = la := by omega
            have hdk : decide ((k : Int) < k) = false := by simp
            go_wp2_with fail
            go_meet
            exact ⟨a', c', l, rfl, hlc, HH, hts, hown, hBe, n1⟩
      case rest =>
        clear hown hBe n1
        obtain ⟨a', c', l, rfl, hlc, HH, hts, hown, hBe, n1⟩ := hcut
        have n0 : w.heap.size < wc.heap.size := (Array.getElem?_eq_some_iff.1 n1).1
        have hll : l.length ≤ 1000000 := by rw [HH.out]; have := hereD_le fold wss frm text p la; omega
        have hne := own_far hown n1 (of_decide_eq_true (by kernel_rfl))
        have HS : Hid (occTo fold wss frm text (p + 1) = occTo fold wss frm text p ++ l) := by rw [Hid, occTo_succ, HWL.out, HH.out]
        obtain ⟨m, hm⟩ : ∃ m, (occTo fold wss frm text p).length = m := ⟨_, rfl⟩
        unfold OwnH at hown
        rw [hm] at hown hol
        have HM2 := Lib.hid hm
        clear hm
        go_wp2_with (at_builtin; refine wpList_append_slK rfl _ _ 41 rfl w.heap.size 43 i0 (.agg #[.int .i64 0, .int .i64 0]) 2 16 Try.underlying41 hi hz0 hz1 hz2 rfl (by decide) _ _ _ rfl hown a' l.length c' (hcells l) rfl hts.1 (hcells_one l) (by unfold maxLen; omega) (by omega) hBe.size ?_; intro v' w5 hown' hgrow hat)
        have hB5 : Below w.heap.size w w5 := hBe.grown hgrow hBe.size (fun j hj => (hown.lt j hj).1)
        have n5 : w5.heap[w.heap.size]? = _ := (hgrow.block _ n0 (Ne.symm hne)).trans n1
        go_roundw
        case rel =>
          refine ⟨p + 1, _, rfl, by omega, by go_num, ?_, hB5, n5⟩
          unfold OwnH
          rw [HS.out, List.length_append, HM2.out, hcells_append]
          exact hown'
        case measure => simp [intOf]; omega
    · obtain rfl : p = lb + 1 := by omega
      have HO : Hid (occTo fold wss frm text (lb + 1) = occD fold wss frm text) := by unfold Hid occD; rw [HTL.out]
      rw [HO.out] at hown
      go_wp2
      go_ret2
      exact ⟨_, rfl, hown, hBe⟩

end Go.Proofs.Ytmpmjkbjnklgfaa

/- Which hits stand, whether they rise, those between two places, as the document has them (layer 6): walked. -/

namespace Go.Proofs.Ytmpmjkbjnklgfaa
open Go.RowKit Go.Sort
set_option linter.unusedVariables false
set_option linter.unusedSimpArgs false

set_option maxHeartbeats 2000000 in
theorem rrise6_any (fold : Bool) (a b : Option Addr) (la ca lb cb : Nat) (l : List HitP) (wss : List (List Int)) (w : World) (hA : Wds w a la wss) (hL : Hts w b lb l) (hla : la ≤ 1000000) (hlb : lb ≤ 4611686018427387904) :
    Calls Try.prog 36 #[.agg (setV fold a la ca), .slice b lb cb] w fun e w' => e = .returned (.bool (riseH wss l)) ∧ Below w.heap.size w w' := by
  have hB0 : Below w.heap.size w (w.alloc (.cells (setV fold a la ca) 39)) := (Below.refl _ _).alloc (Nat.le_refl _) _
  have hnew := World.alloc_heap_new w (.cells (setV fold a la ca) 39)
  have HLN := Lib.hid hL.len
  go_enter Try.func36, Try.ntmps36
  go_wp2
  go_loopw [5] (fun i wr => ∃ k : Nat, (k = 0 ∨ k < lb) ∧ i = .int .i64 ((k : Int) + 1) ∧ Hid (riseH wss (l.take (k + 1)) = true) ∧ Below w.heap.size w wr ∧ wr.heap[w.heap.size]? = some (.cells (setV fold a la ca) 39 (0, 0))) (fun i _ => lb - (intOf i).toNat)
  case atStart =>
    refine ⟨0, .inl rfl, rfl, ?_, hB0, hnew⟩
    cases l <;> simp [Hid, riseH]
  case round =>
    obtain ⟨k, hk, rfl, HK, hBe, hsr⟩ := hrel
    by_cases hlt : k + 1 < lb
    · have hLr := hL.below hBe
      obtain ⟨bb, off, x, rfl, hbl, cx0, cx1, hx, _, _⟩ := hLr.at_ (show k < lb by omega)
      obtain ⟨_, _, y, e, _, cy0, cy1, hy, _, _⟩ := hLr.at_ hlt
      injection e with e
      injection e with e1 e2
      subst e1 e2
      clear hk
      have HS : Hid (riseH wss (l.take (k + 1 + 1)) = lessH wss x y) := by
        have := riseH_take (wss := wss) hx hy
        rw [HK.out, Bool.true_and] at this
        exact this
      have hAr := hA.below hBe
      clear hx hy hLr
      have hszr : w.heap.size < wr.heap.size := (Array.getElem?_eq_some_iff.1 hsr).1
      have s0 : ∀ d os, (grow (redrawn wr d) os).cell? ⟨w.heap.size, 0, none⟩ = some (.bool fold) := fun d os => ((below_regrown wr d os).cell (p := ⟨w.heap.size, 0, none⟩) hszr).trans (by simp [World.cell?, hsr])
      have s1 : ∀ d os, (grow (redrawn wr d) os).cell? ⟨w.heap.size, 1, none⟩ = some (.slice a la ca) := fun d os => ((below_regrown wr d os).cell (p := ⟨w.heap.size, 1, none⟩) hszr).trans (by simp [World.cell?, hsr])
      have x0 : ∀ d os, (grow (redrawn wr d) os).cell? ⟨bb, off + k * 2, none⟩ = some (.int .i64 x.1) := fun d os => ((below_regrown wr d os).cell (p := ⟨bb, off + k * 2, none⟩) hbl).trans cx0
      have x1 : ∀ d os, (grow (redrawn wr d) os).cell? ⟨bb, off + k * 2 + 1, none⟩ = some (.int .i64 x.2) := fun d os => ((below_regrown wr d os).cell (p := ⟨bb, off + k * 2 + 1, none⟩) hbl).trans cx1
      have y0 : ∀ d os, (grow (redrawn wr d) os).cell? ⟨bb, off + (k + 1) * 2, none⟩ = some (.int .i64 y.1) := fun d os => ((below_regrown wr d os).cell (p := ⟨bb, off + (k + 1) * 2, none⟩) hbl).trans cy0
      have y1 : ∀ d os, (grow (redrawn wr d) os).cell? ⟨bb, off + (k + 1) * 2 + 1, none⟩ = some (.int .i64 y.2) := fun d os => ((below_regrown wr d os).cell (p := ⟨bb, off + (k + 1) * 2 + 1, none⟩) hbl).trans cy1
      have hA2 : ∀ d os, Wds (grow (redrawn wr d) os) a la wss := fun d os => hAr.below (below_regrown wr d os)
      clear cx0 cx1 cy0 cy1
      have hd : decide ((k : Int) + 1 < lb) = true := by simp; omega
      go_wp2
      refine wp_region_quiet_below mixed (by kernel_rfl) ?_
      repeat (go_big_quiet_step (exact grown_below (rless6_any fold a la ca x y wss _ (hA2 _ _) hla)))
      refine wpQuiet_nil ?_
      rintro _ ⟨⟨dq, osq⟩, rfl⟩
      have hBq := below_regrown wr dq osq
      have hB1 : Below w.heap.size w (grow (redrawn wr dq) osq) := hBe.trans (hBq.mono hBe.size)
      have hs1 : (grow (redrawn wr dq) osq).heap[w.heap.size]? = _ := (hBq.block _ hszr).trans hsr
      clear s0 s1 x0 x1 y0 y1 hA2
      cases e : lessH wss x y with
      | true =>
        rw [e] at HS
        go_wp2
        go_roundw
        case rel => exact ⟨k + 1, by omega, by go_num, HS, hB1, hs1⟩
        case measure => simp [intOf]; omega
      | false =>
        rw [e] at HS
        have HN := Lib.hid (riseH_no HS.out)
        go_wp2
        go_ret
        exact ⟨by rw [HN.out]; rfl, hB1⟩
    · have HN : Hid (riseH wss l = true) := by
        have h := HK.out
        rwa [List.take_of_length_le (by rw [HLN.out]; omega)] at h
      go_wp2
      go_ret
      exact ⟨by rw [HN.out]; rfl, hBe⟩

set_option maxRecDepth 100000 in
set_option maxHeartbeats 2000000 in
theorem rbetween6_h (low high : Int) (a : Option Addr) (la ca : Nat) (l : List HitP) (w : World) (hL : Hts w a la l) (hla : la ≤ 1000000000000) :
    Calls Try.prog 38 #[.int .i64 low, .int .i64 high, .slice a la ca] w fun e w' => ∃ v, e = .returned v ∧ OwnH w' w.heap.size v (betwH low high l) ∧ Below w.heap.size w w' := by
  obtain ⟨i0, hi, hz0, hz1, hz2⟩ := info_parts hit_info
  have HLN := Lib.hid hL.len
  go_enter Try.func38, Try.ntmps38
  go_wp2
  go_loopw [7, 8] (fun v i wr => ∃ k : Nat, k ≤ la ∧ i = .int .i64 k ∧ Below w.heap.size w wr ∧ OwnH wr w.heap.size v (betwH low high (l.take k))) (fun _ i _ => la - (intOf i).toNat)
  case atStart => exact ⟨0, Nat.zero_le _, rfl, Below.refl _ _, by simpa [OwnH, betwH, hcells] using World.ownsRow_nil w w.heap.size 43 2⟩
  case round =>
    obtain ⟨k, hk, rfl, hBe, hown⟩ := hrel
    by_cases hlt : k < la
    · obtain ⟨b, off, x, rfl, hbl, c0, c1, hx, hxb⟩ := (hL.below hBe).at_ hlt
      have HX := Lib.hid hx
      clear hx
      have hlen : (betwH low high (l.take k)).length ≤ k := by
        have h1 := List.length_filter_le (fun h : HitP => decide (low < h.1) && decide (h.1 ≤ high)) (l.take k)
        have h2 := List.length_take_le k l
        unfold betwH
        omega
      have HSN := Lib.hid (betwH_snoc low high (l.take k) x)
      have HTK := Lib.hid (take_step HX.out)
      by_cases h1 : low < x.1
      · by_cases h2 : x.1 ≤ high
        · obtain ⟨m, hm⟩ : ∃ m, (betwH low high (l.take k)).length = m := ⟨_, rfl⟩
          unfold OwnH at hown
          rw [hm] at hown hlen
          have HM := Lib.hid hm
          clear hm
          go_wp2_with (at_builtin; refine wpList_append_own _ rfl _ _ 41 rfl w.heap.size 43 i0 (.agg #[.int .i64 0, .int .i64 0]) 2 16 Try.underlying41 hi hz0 hz1 hz2 rfl (by decide) _ _ _ rfl (hown.alloc _) ⟨wr.heap.size, 0, none⟩ 1 1 [.int .i64 x.1, .int .i64 x.2] rfl rfl (cells_new _ _ (by simp)) (by simp [Value.oneCell']) (by unfold maxLen; omega) (by omega) (by have := hBe.size; simp; omega) ?_; intro v' w5 hown' hgrow hnil)
          have hB5 : Below w.heap.size w w5 := (hBe.alloc hBe.size _).grown hgrow (by have := hBe.size; simp; omega) (fun j hj => (hown.lt j hj).1)
          go_roundw
          case rel =>
            refine ⟨k + 1, by omega, by go_num, hB5, ?_⟩
            unfold OwnH
            rw [HTK.out, HSN.out, if_pos ⟨h1, h2⟩, List.length_append, HM.out, hcells_snoc]
            exact hown'
          case measure => simp [intOf]; omega
        · go_wp2
          go_roundw
          case rel =>
            refine ⟨k + 1, by omega, by go_num, hBe, ?_⟩
            rw [HTK.out, HSN.out, if_neg (by omega)]
            exact hown
          case measure => simp [intOf]; omega
      · go_wp2
        go_roundw
        case rel =>
          refine ⟨k + 1, by omega, by go_num, hBe, ?_⟩
          rw [HTK.out, HSN.out, if_neg (by omega)]
          exact hown
        case measure => simp [intOf]; omega
    · obtain rfl : k = la := by omega
      have HF : Hid (l.take k = l) := List.take_of_length_le (by rw [HLN.out]; exact Nat.le_refl _)
      rw [HF.out] at hown
      go_wp2
      go_ret
      exact ⟨_, rfl, hown, hBe⟩

theorem right_pos {fold : Bool} {wss : List (List Int)} (h : rightP fold wss = true) : ∀ x ∈ wss, x.length ≠ 0 := by
  unfold rightP at h
  rw [Bool.and_eq_true] at h
  have h1 : checkP fold wss = 0 := of_decide_eq_true h.1
  unfold checkP at h1
  rw [firstAsk_eq] at h1
  intro x hx e
  have hne : wss ≠ [] := by intro e; subst e; cases hx
  have h2 := ((cnt_spec wss).2.2.2.2 hne).2 ⟨x, hx, e⟩
  have h3 : askB (cnt wss).1 (cnt wss).2.1 (cnt wss).2.2.1 (cnt wss).2.2.2 (nrun (begL fold wss)).many 2 = true := by simp [askB, h2]
  rw [h3] at h1
  split at h1
  · cases h1
  · split at h1
    · cases h1
    · simp at h1
theorem lenW_pos {wss : List (List Int)} (h : ∀ x ∈ wss, x.length ≠ 0) {k : Int} (h0 : 0 ≤ k) (h1 : k < wss.length) : 0 < lenW wss k := by
  unfold lenW
  rw [if_pos ⟨h0, h1⟩]
  obtain ⟨x, hx⟩ : ∃ x, wss[k.toNat]? = some x := ⟨wss[k.toNat]'(by omega), by simp⟩
  rw [hx, Option.getD_some]
  have := h x (List.mem_of_getElem? hx)
  omega

/-- The boxes of a set and of a hit. -/
theorem box_sh {w : World} {fold : Bool} {a : Option Addr} {la ca : Nat} {x y : Int} {W : World} (hb : Below (w.heap.size + 2) ((w.alloc (.cells (setV fold a la ca) 39)).alloc (.cells #[.int .i64 x, .int .i64 y] 43)) W) :
    Below w.heap.size w W ∧ W.heap[w.heap.size]? = some (.cells (setV fold a la ca) 39 (0, 0)) ∧ W.heap[w.heap.size + 1]? = some (.cells #[.int .i64 x, .int .i64 y] 43 (0, 0)) := by
  refine ⟨(((Below.refl _ _).alloc (Nat.le_refl _) _).alloc (by simp) _).trans (hb.mono (by omega)), ?_, ?_⟩
  · exact (hb.block _ (by omega)).trans ((Below.heap_alloc _ _ _ (by simp)).trans (World.alloc_heap_new _ _))
  · exact (hb.block _ (by omega)).trans (alloc_at (by simp) _)

set_option maxHeartbeats 4000000 in
theorem rstands6_any (fold : Bool) (a b : Option Addr) (la ca lb cb : Nat) (frm : Int) (text : List Int) (h : HitP) (wss : List (List Int)) (w : World) (hA : Wds w a la wss) (hL : Bys w b lb text) (hla : la ≤ 1000000) (hlb : lb ≤ 1000000) (hcb : lb ≤ cb) (hM : ∀ x ∈ wss, x.length ≤ 1000000) (hh : I64 h.1 ∧ I64 h.2) :
    Calls Try.prog 32 #[.agg (setV fold a la ca), .int .i64 frm, .slice b lb cb, .agg #[.int .i64 h.1, .int .i64 h.2]] w fun e w' => e = .returned (.bool (mayP fold wss frm && standsH fold wss frm text h)) ∧ Below w.heap.size w w' := by
  obtain ⟨hE, hW⟩ := h
  obtain ⟨⟨hh1, hh2⟩, hh3, hh4⟩ := hh
  dsimp only at hh1 hh2 hh3 hh4 ⊢
  have HL := Lib.hid hA.len
  have HT := Lib.hid hL.len
  have hB2 : Below w.heap.size w ((w.alloc (.cells (setV fold a la ca) 39)).alloc (.cells #[.int .i64 hE, .int .i64 hW] 43)) := ((Below.refl _ _).alloc (Nat.le_refl _) _).alloc (by simp) _
  have HC := Lib.hid (rright_any fold a la ca wss _ (hA.below hB2) hla hM)
  have after : ∀ w1 : World, Below ((w.alloc (.cells (setV fold a la ca) 39)).alloc (.cells #[.int .i64 hE, .int .i64 hW] 43)).heap.size ((w.alloc (.cells (setV fold a la ca) 39)).alloc (.cells #[.int .i64 hE, .int .i64 hW] 43)) w1 →
      Below w.heap.size w w1 ∧ w1.heap[w.heap.size]? = some (.cells (setV fold a la ca) 39 (0, 0)) ∧ w1.heap[w.heap.size + 1]? = some (.cells #[.int .i64 hE, .int .i64 hW] 43 (0, 0)) := fun w1 hb => box_sh (hb.mono (by simp))
  clear hB2
  cases hm : mayP fold wss frm with
  | false =>
    have HE : Hid ((false && standsH fold wss frm text (hE, hW)) = false) := Bool.false_and _
    unfold mayP at hm
    rw [right_eq] at hm
    by_cases h0 : 0 ≤ frm ∧ frm ≤ 4611686018427387904
    · rw [decide_eq_true h0, Bool.true_and] at hm
      have HM := Lib.hid hm
      clear hm
      rw [HE.out]
      go_enter Try.func32, Try.ntmps32
      go_wp2_with fail
      refine HC.out.mono ?_
      rintro e w1 ⟨rfl, hb⟩
      obtain ⟨hB1, n0, n1⟩ := after w1 hb
      rw [HM.out]
      clear hb n0 n1
      go_wp2
      go_ret
      exact ⟨rfl, hB1⟩
    · clear hm
      rw [HE.out]
      by_cases h1 : 0 ≤ frm
      · have h2 : 4611686018427387904 < frm := by omega
        clear h0
        go_enter Try.func32, Try.ntmps32
        go_wp2_with fail
        refine HC.out.mono ?_
        rintro e w1 ⟨rfl, hb⟩
        obtain ⟨hB1, n0, n1⟩ := after w1 hb
        clear hb n0 n1
        cases rightR fold wss
        all_goals
          go_wp2
          go_ret
          exact ⟨rfl, hB1⟩
      · clear h0
        go_enter Try.func32, Try.ntmps32
        go_wp2_with fail
        refine HC.out.mono ?_
        rintro e w1 ⟨rfl, hb⟩
        obtain ⟨hB1, n0, n1⟩ := after w1 hb
        clear hb n0 n1
        cases rightR fold wss
        all_goals
          go_wp2
          go_ret
          exact ⟨rfl, hB1⟩
  | true =>
    obtain ⟨hf0, hf1⟩ := mayP_frm hm
    have hpos : rightP fold wss = true := by
      unfold mayP at hm
      rw [Bool.and_eq_true] at hm
      exact hm.2
    have HM : Hid (rightR fold wss = true) := by rw [Hid, ← right_eq]; exact hpos
    have HPOS := Lib.hid (right_pos hpos)
    clear hm hpos
    rw [Bool.true_and]
    by_cases g1 : 0 ≤ hW ∧ hW < la
    · obtain ⟨k, rfl⟩ : ∃ k : Nat, hW = k := ⟨hW.toNat, by omega⟩
      obtain ⟨x, hx⟩ : ∃ x, wss[k]? = some x := ⟨wss[k]'(by rw [HL.out]; omega), by simp⟩
      have hlen := lenW_pos HPOS.out g1.1 (by rw [HL.out]; omega)
      have hl0 : (lenW wss (k : Int) == 0) = false := by simp; omega
      have hkl : k < la := by omega
      by_cases g3 : frm ≤ hE
      · by_cases g4 : hE ≤ frm + lb
        · obtain ⟨p, hp⟩ : ∃ p : Nat, hE - frm = p := ⟨(hE - frm).toNat, by omega⟩
          have HP := Lib.hid hp
          have HE : Hid (standsH fold wss frm text (hE, (k : Int)) = atL fold text (hE - frm) x) := by
            unfold Hid standsH
            dsimp only
            rw [decide_eq_true ⟨g1.1, by rw [HL.out]; exact g1.2, g3, by rw [HT.out]; omega⟩, Bool.true_and, HP.out, Int.toNat_natCast, Int.toNat_natCast, stands_is hx]
          have HX := Lib.hid hx
          clear hx hp g1
          go_enter Try.func32, Try.ntmps32
          go_wp2_with fail
          refine HC.out.mono ?_
          rintro e w1 ⟨rfl, hb⟩
          obtain ⟨hB1, n0, n1⟩ := after w1 hb
          rw [HM.out]
          have z1 : w.heap.size + 1 < w1.heap.size := (Array.getElem?_eq_some_iff.1 n1).1
          have c0 : w1.cell? ⟨w.heap.size, 0, none⟩ = some (.bool fold) := by simp [World.cell?, n0]
          have c1 : w1.cell? ⟨w.heap.size, 1, none⟩ = some (.slice a la ca) := by simp [World.cell?, n0]
          have c2 : w1.cell? ⟨w.heap.size + 1, 0, none⟩ = some (.int .i64 hE) := by simp [World.cell?, n1]
          have c3 : w1.cell? ⟨w.heap.size + 1, 1, none⟩ = some (.int .i64 k) := by simp [World.cell?, n1]
          clear hb
          go_wp2_with fail
          refine (rlen6_any fold a la ca (k : Int) wss w1 (hA.below hB1) hla).mono ?_
          rintro e w2 ⟨rfl, hb⟩
          have hB2 : Below w.heap.size w w2 := hB1.trans (hb.mono hB1.size)
          have m0 : w2.heap[w.heap.size]? = _ := (hb.block _ (by omega)).trans n0
          have m1 : w2.heap[w.heap.size + 1]? = _ := (hb.block _ z1).trans n1
          clear c0 c1 c2 c3 hb n0 n1 z1
          have z1 : w.heap.size + 1 < w2.heap.size := (Array.getElem?_eq_some_iff.1 m1).1
          have hcell : ∀ (n i : Nat) (cs : Array Value) (t : TypeId) (v : Value), n < w2.heap.size → w2.heap[n]? = some (.cells cs t (0, 0)) → cs[i]? = some v → w2.cell? ⟨n, i, none⟩ = some v ∧ ∀ d os, (grow (redrawn w2 d) os).cell? ⟨n, i, none⟩ = some v := fun n i cs t v hn hb hv => by
            have e : w2.cell? ⟨n, i, none⟩ = some v := by simp [World.cell?, hb, hv]
            exact ⟨e, fun d os => ((below_regrown w2 d os).cell (p := ⟨n, i, none⟩) hn).trans e⟩
          obtain ⟨c0, d0⟩ := hcell w.heap.size 0 _ _ (.bool fold) (by omega) m0 rfl
          obtain ⟨c1, d1⟩ := hcell w.heap.size 1 _ _ (.slice a la ca) (by omega) m0 rfl
          obtain ⟨c2, d2⟩ := hcell (w.heap.size + 1) 0 _ _ (.int .i64 hE) (by omega) m1 rfl
          obtain ⟨c3, d3⟩ := hcell (w.heap.size + 1) 1 _ _ (.int .i64 k) (by omega) m1 rfl
          obtain ⟨bb, off, aw, lw, cw, x', rfl, hbl, hcl, hx', hX, hlc⟩ := (hA.below hB2).at_ hkl
          obtain rfl : x = x' := by have := HX.out; rw [hx'] at this; exact (Option.some.inj this).symm
          have hlw : lw ≤ 1000000 := by have := mem_bd hM HX.out; rw [hX.len] at this; exact this
          have hcl2 : ∀ d os, (grow (redrawn w2 d) os).cell? ⟨bb, off + k, none⟩ = some (.slice aw lw cw) := fun d os => ((below_regrown w2 d os).cell (p := ⟨bb, off + k, none⟩) hbl).trans hcl
          have hX2 : ∀ d os, Bys (grow (redrawn w2 d) os) aw lw x := fun d os => hX.below (below_regrown w2 d os)
          have hL2 : ∀ d os, Bys (grow (redrawn w2 d) os) b lb text := fun d os => (hL.below hB2).below (below_regrown w2 d os)
          clear hcell m0 m1 hX hx' hcl
          go_wp2
          refine wp_region_quiet_below mixed (by kernel_rfl) ?_
          repeat (go_big_quiet_step (exact grown_below (rat_any fold b aw lb cb lw cw (hE - frm) text x _ (hL2 _ _) (hX2 _ _) hcb hlb hlw (by omega))))
          refine wpQuiet_nil ?_
          rintro _ ⟨⟨dq, osq⟩, rfl⟩
          go_wp2
          go_ret
          exact ⟨by rw [HE.out]; rfl, hB2.trans ((below_regrown w2 dq osq).mono hB2.size)⟩
        · have HE : Hid (standsH fold wss frm text (hE, (k : Int)) = false) := standsH_no (by dsimp only; rw [HT.out]; omega)
          go_enter Try.func32, Try.ntmps32
          go_wp2_with fail
          refine HC.out.mono ?_
          rintro e w1 ⟨rfl, hb⟩
          obtain ⟨hB1, n0, n1⟩ := after w1 hb
          rw [HM.out]
          have z1 : w.heap.size + 1 < w1.heap.size := (Array.getElem?_eq_some_iff.1 n1).1
          have c0 : w1.cell? ⟨w.heap.size, 0, none⟩ = some (.bool fold) := by simp [World.cell?, n0]
          have c1 : w1.cell? ⟨w.heap.size, 1, none⟩ = some (.slice a la ca) := by simp [World.cell?, n0]
          have c2 : w1.cell? ⟨w.heap.size + 1, 0, none⟩ = some (.int .i64 hE) := by simp [World.cell?, n1]
          have c3 : w1.cell? ⟨w.heap.size + 1, 1, none⟩ = some (.int .i64 k) := by simp [World.cell?, n1]
          clear hb
          go_wp2_with fail
          refine (rlen6_any fold a la ca (k : Int) wss w1 (hA.below hB1) hla).mono ?_
          rintro e w2 ⟨rfl, hb⟩
          have hB2 : Below w.heap.size w w2 := hB1.trans (hb.mono hB1.size)
          have m1 : w2.heap[w.heap.size + 1]? = _ := (hb.block _ z1).trans n1
          have d2 : w2.cell? ⟨w.heap.size + 1, 0, none⟩ = some (.int .i64 hE) := by simp [World.cell?, m1]
          clear c0 c1 c2 c3 hb n0 n1 z1 m1
          go_wp2
          go_ret
          exact ⟨by rw [HE.out]; rfl, hB2⟩
      · have HE : Hid (standsH fold wss frm text (hE, (k : Int)) = false) := standsH_no (by dsimp only; omega)
        go_enter Try.func32, Try.ntmps32
        go_wp2_with fail
        refine HC.out.mono ?_
        rintro e w1 ⟨rfl, hb⟩
        obtain ⟨hB1, n0, n1⟩ := after w1 hb
        rw [HM.out]
        have z1 : w.heap.size + 1 < w1.heap.size := (Array.getElem?_eq_some_iff.1 n1).1
        have c0 : w1.cell? ⟨w.heap.size, 0, none⟩ = some (.bool fold) := by simp [World.cell?, n0]
        have c1 : w1.cell? ⟨w.heap.size, 1, none⟩ = some (.slice a la ca) := by simp [World.cell?, n0]
        have c2 : w1.cell? ⟨w.heap.size + 1, 0, none⟩ = some (.int .i64 hE) := by simp [World.cell?, n1]
        have c3 : w1.cell? ⟨w.heap.size + 1, 1, none⟩ = some (.int .i64 k) := by simp [World.cell?, n1]
        clear hb
        go_wp2_with fail
        refine (rlen6_any fold a la ca (k : Int) wss w1 (hA.below hB1) hla).mono ?_
        rintro e w2 ⟨rfl, hb⟩
        have hB2 : Below w.heap.size w w2 := hB1.trans (hb.mono hB1.size)
        have m1 : w2.heap[w.heap.size + 1]? = _ := (hb.block _ z1).trans n1
        have d2 : w2.cell? ⟨w.heap.size + 1, 0, none⟩ = some (.int .i64 hE) := by simp [World.cell?, m1]
        clear c0 c1 c2 c3 hb n0 n1 z1 m1
        go_wp2
        go_ret
        exact ⟨by rw [HE.out]; rfl, hB2⟩
    · have HE : Hid (standsH fold wss frm text (hE, hW) = false) := standsH_no (by dsimp only; rw [HL.out]; omega)
      have hl0 : lenW wss hW = 0 := by unfold lenW; rw [if_neg (by rw [HL.out]; exact g1)]
      have HL0 := Lib.hid hl0
      clear hl0
      go_enter Try.func32, Try.ntmps32
      go_wp2_with fail
      refine HC.out.mono ?_
      rintro e w1 ⟨rfl, hb⟩
      obtain ⟨hB1, n0, n1⟩ := after w1 hb
      rw [HM.out]
      have z1 : w.heap.size + 1 < w1.heap.size := (Array.getElem?_eq_some_iff.1 n1).1
      have c0 : w1.cell? ⟨w.heap.size, 0, none⟩ = some (.bool fold) := by simp [World.cell?, n0]
      have c1 : w1.cell? ⟨w.heap.size, 1, none⟩ = some (.slice a la ca) := by simp [World.cell?, n0]
      have c2 : w1.cell? ⟨w.heap.size + 1, 0, none⟩ = some (.int .i64 hE) := by simp [World.cell?, n1]
      have c3 : w1.cell? ⟨w.heap.size + 1, 1, none⟩ = some (.int .i64 hW) := by simp [World.cell?, n1]
      clear hb
      go_wp2_with fail
      refine (rlen6_any fold a la ca hW wss w1 (hA.below hB1) hla).mono ?_
      rintro e w2 ⟨rfl, hb⟩
      rw [HL0.out]
      have hB2 : Below w.heap.size w w2 := hB1.trans (hb.mono hB1.size)
      have m1 : w2.heap[w.heap.size + 1]? = _ := (hb.block _ z1).trans n1
      have d2 : w2.cell? ⟨w.heap.size + 1, 0, none⟩ = some (.int .i64 hE) := by simp [World.cell?, m1]
      clear c0 c1 c2 c3 hb n0 n1 z1 m1
      go_wp2
      go_ret
      exact ⟨by rw [HE.out]; rfl, hB2⟩

end Go.Proofs.Ytmpmjkbjnklgfaa

/- The law that tells all hits (layer 6), walked. -/


namespace Go.Proofs.Ytmpmjkbjnklgfaa
open Go.RowKit Go.Sort
set_option linter.unusedVariables false
set_option linter.unusedSimpArgs false

/-- Blocks that lie one behind the other. -/
def Bx (n : Nat) (os : List Obj) (W : World) : Prop := ∀ (i : Nat) (o : Obj), os[i]? = some o → W.heap[n + i]? = some o
theorem Bx.below {n : Nat} {os : List Obj} {W W' : World} (h : Bx n os W) (hb : Below W.heap.size W W') : Bx n os W' := fun i o hi =>
  have := h i o hi
  (hb.block _ (Array.getElem?_eq_some_iff.1 this).1).trans this
theorem Bx.nil (n : Nat) (W : World) : Bx n [] W := fun i o hi => by simp at hi
theorem Bx.snoc {n : Nat} {os : List Obj} {W : World} (h : Bx n os W) (o : Obj) (hm : W.heap.size = n + os.length) : Bx n (os ++ [o]) (W.alloc o) := fun i x hi => by
  by_cases hl : i < os.length
  · rw [List.getElem?_append_left hl] at hi
    exact (Below.heap_alloc _ _ _ (by omega)).trans (h i x hi)
  · rw [List.getElem?_append_right (by omega)] at hi
    have : i - os.length = 0 := by
      by_cases e : i - os.length = 0
      · exact e
      · rw [List.getElem?_eq_none (by simp; omega)] at hi; cases hi
    rw [this] at hi
    simp at hi
    subst hi
    exact alloc_at (by omega) _
theorem Bx.cell {n i j : Nat} {os : List Obj} {W : World} (h : Bx n os W) {cs : Array Value} {t : TypeId} {fr : Nat × Nat} (hi : os[i]? = some (.cells cs t fr)) {v : Value} (hj : cs[j]? = some v) : W.cell? ⟨n + i, j, none⟩ = some v := by
  have := h i _ hi
  simp [World.cell?, this, hj]
theorem Bx.cellG {n i j : Nat} {os : List Obj} {W : World} (h : Bx n os W) {cs : Array Value} {t : TypeId} {fr : Nat × Nat} (hi : os[i]? = some (.cells cs t fr)) {v : Value} (hj : cs[j]? = some v) : ∀ d os', (grow (redrawn W d) os').cell? ⟨n + i, j, none⟩ = some v :=
  fun d os' => (h.below (below_regrown W d os')).cell hi hj

def occL (fold : Bool) (wss : List (List Int)) (frm : Int) (text : List Int) : List HitP := if mayP fold wss frm then occD fold wss frm text else []
def occE (fold : Bool) (wss : List (List Int)) (frm : Int) : Int := if mayP fold wss frm then 0 else 2
theorem occD_bd {fold : Bool} {wss : List (List Int)} {frm : Int} {text : List Int} (h0 : 0 ≤ frm) (h1 : frm ≤ 4611686018427387904) (hl : text.length ≤ 1000000) (hw : wss.length ≤ 1000000) : ∀ h ∈ occD fold wss frm text, I64 h.1 ∧ I64 h.2 := by
  intro h hm
  obtain ⟨_, h2, h3, h4, h5⟩ := occD_mem hm
  unfold I64
  omega
theorem occL_bd {fold : Bool} {wss : List (List Int)} {frm : Int} {text : List Int} (hl : text.length ≤ 1000000) (hw : wss.length ≤ 1000000) : ∀ h ∈ occL fold wss frm text, I64 h.1 ∧ I64 h.2 := by
  unfold occL
  cases e : mayP fold wss frm with
  | false => simp
  | true =>
    obtain ⟨h0, h1⟩ := mayP_frm e
    simp only [if_true]
    exact occD_bd h0 h1 hl hw
theorem occL_le (fold : Bool) (wss : List (List Int)) (frm : Int) (text : List Int) : (occL fold wss frm text).length ≤ (text.length + 1) * wss.length := by
  unfold occL
  split
  · exact occTo_le _ _ _ _ _
  · simp

theorem occ_c (fold : Bool) (a b : Option Addr) (la ca lb cb : Nat) (frm : Int) (text : List Int) (wss : List (List Int)) (w : World) (hA : Wds w a la wss) (hL : Bys w b lb text) (hla : la ≤ 1000) (hlb : lb ≤ 1000000) (hcb : lb ≤ cb) (hM : ∀ x ∈ wss, x.length ≤ 1000000) (hT : (begL fold wss).length ≤ 1000000) :
    Calls Try.prog 28 #[.agg (setV fold a la ca), .int .i64 frm, .slice b lb cb] w fun e w' => ∃ (a1 : Option Addr) (c1 : Nat), e = .returned (.tuple #[.slice a1 (occL fold wss frm text).length c1, .int .i64 (occE fold wss frm)]) ∧ (occL fold wss frm text).length ≤ c1 ∧ Hts w' a1 (occL fold wss frm text).length (occL fold wss frm text) ∧ Below w.heap.size w w' := by
  have hbd := occL_bd (fold := fold) (wss := wss) (frm := frm) (text := text) (by rw [hL.len]; exact hlb) (by rw [hA.len]; omega)
  cases e : mayP fold wss frm with
  | false =>
    refine (occ_no fold a b la ca lb cb frm text wss w hA (by omega) hM hT e).mono fun e' w' ⟨h1, h2⟩ => ?_
    have e1 : occL fold wss frm text = [] := by simp [occL, e]
    have e2 : occE fold wss frm = 2 := by simp [occE, e]
    rw [e1, e2]
    exact ⟨none, 0, h1, Nat.le_refl _, ⟨⟨rfl, .inl rfl⟩, by simp⟩, h2⟩
  | true =>
    have hn : (rawTo fold wss text (lb + 1)).length ≤ 1000000000000 := by
      have h1 := rawTo_length fold wss text (lb + 1)
      have h2 : (lb + 1) * wss.length ≤ 1000001 * 1000 := Nat.mul_le_mul (by omega) (by rw [hA.len]; exact hla)
      omega
    refine (occ_yes fold a b la ca lb cb frm text wss w hA hL hla hlb hcb hM hT e (sortOK _ hn)).mono fun e' w' ⟨v, h1, h2, h3⟩ => ?_
    have e1 : occL fold wss frm text = occD fold wss frm text := by simp [occL, e]
    have e2 : occE fold wss frm = 0 := by simp [occE, e]
    rw [e1] at hbd ⊢
    rw [e2]
    obtain ⟨a1, c1, rfl, h4, h5⟩ := h2.hts hbd
    exact ⟨a1, c1, h1, h4, h5, h3⟩
theorem rocc_c (fold : Bool) (a b : Option Addr) (la ca lb cb : Nat) (frm : Int) (text : List Int) (wss : List (List Int)) (w : World) (hA : Wds w a la wss) (hL : Bys w b lb text) (hla : la ≤ 1000) (hlb : lb ≤ 1000000) (hcb : lb ≤ cb) (hM : ∀ x ∈ wss, x.length ≤ 1000000) :
    Calls Try.prog 29 #[.agg (setV fold a la ca), .int .i64 frm, .slice b lb cb] w fun e w' => ∃ (a1 : Option Addr) (c1 : Nat), e = .returned (.tuple #[.slice a1 (occL fold wss frm text).length c1, .int .i64 (occE fold wss frm)]) ∧ (occL fold wss frm text).length ≤ c1 ∧ Hts w' a1 (occL fold wss frm text).length (occL fold wss frm text) ∧ Below w.heap.size w w' := by
  have hbd := occL_bd (fold := fold) (wss := wss) (frm := frm) (text := text) (by rw [hL.len]; exact hlb) (by rw [hA.len]; omega)
  cases e : mayP fold wss frm with
  | false =>
    refine (rocc_no fold a b la ca lb cb frm wss w hA (by omega) hM e).mono fun e' w' ⟨h1, h2⟩ => ?_
    have e1 : occL fold wss frm text = [] := by simp [occL, e]
    have e2 : occE fold wss frm = 2 := by simp [occE, e]
    rw [e1, e2]
    exact ⟨none, 0, h1, Nat.le_refl _, ⟨⟨rfl, .inl rfl⟩, by simp⟩, h2⟩
  | true =>
    refine (rocc_yes fold a b la ca lb cb frm text wss w hA hL hla hlb hcb hM e).mono fun e' w' ⟨v, h1, h2, h3⟩ => ?_
    have e1 : occL fold wss frm text = occD fold wss frm text := by simp [occL, e]
    have e2 : occE fold wss frm = 0 := by simp [occE, e]
    rw [e1] at hbd ⊢
    rw [e2]
    obtain ⟨a1, c1, rfl, h4, h5⟩ := h2.hts hbd
    exact ⟨a1, c1, h1, h4, h5, h3⟩

theorem ownH_made (w : World) (base : Nat) (h : base ≤ w.heap.size) : OwnH (w.alloc (.cells #[] 43)) base (.slice (some ⟨w.heap.size, 0, none⟩) 0 0) [] :=
  ⟨rfl, .inr ⟨w.heap.size, 0, #[], rfl, h, World.alloc_heap_new _ _, Nat.le_refl _, by unfold maxLen; omega, rfl, rfl⟩⟩

end Go.Proofs.Ytmpmjkbjnklgfaa

/- The law that tells all hits (layer 6), walked. -/

namespace Go.Proofs.Ytmpmjkbjnklgfaa
open Go.RowKit Go.Sort
set_option linter.unusedVariables false
set_option linter.unusedSimpArgs false

theorem betwH_bd {low high : Int} {l : List HitP} (h : ∀ x ∈ l, I64 x.1 ∧ I64 x.2) : ∀ x ∈ betwH low high l, I64 x.1 ∧ I64 x.2 := fun x hx => h x (List.mem_filter.1 hx).1
/-- What lies there behind the lists that are made. -/
structure TS (w : World) (a2 a3 : Option Addr) (L A : List HitP) (V : World) : Prop where
  b : Below w.heap.size w V
  h2 : Hts V a2 L.length L
  h3 : Hts V a3 A.length A
theorem TS.below {w V V' : World} {a2 a3 : Option Addr} {L A : List HitP} (h : TS w a2 a3 L A V) (hb : Below V.heap.size V V') : TS w a2 a3 L A V' := ⟨h.b.trans (hb.mono h.b.size), h.h2.below hb, h.h3.below hb⟩

set_option maxRecDepth 100000 in
set_option maxHeartbeats 8000000 in
theorem occTells_walk (fold : Bool) (a b c : Option Addr) (la ca lb cb lc cc : Nat) (frm low high : Int) (text : List Int) (l : List HitP) (x y : HitP) (wss : List (List Int)) (w : World) (hA : Wds w a la wss) (hT : Bys w b lb text) (hL : Hts w c lc l) (hcb : lb ≤ cb) (hcc : lc ≤ cc) (hx : I64 x.1 ∧ I64 x.2) (hy : I64 y.1 ∧ I64 y.2) :
    Calls Try.prog 5 #[.agg (setV fold a la ca), .int .i64 frm, .slice b lb cb, .slice c lc cc, hitV x, hitV y, .int .i64 low, .int .i64 high] w fun e w' => e = .returned (.bool true) ∧ Below w.heap.size w w' := by
  obtain ⟨i0, hi, hz0, hz1, hz2⟩ := info_parts hit_info
  obtain ⟨W3, hW3⟩ : ∃ W3, W3 = ((w.alloc (.cells (setV fold a la ca) 39)).alloc (.cells #[.int .i64 x.1, .int .i64 x.2] 43)).alloc (.cells #[.int .i64 y.1, .int .i64 y.2] 43) := ⟨_, rfl⟩
  have hB3 : Below w.heap.size w W3 := by
    rw [hW3]
    exact (((Below.refl _ _).alloc (Nat.le_refl _) _).alloc (by simp) _).alloc (by simp; omega) _
  have hO3 : Bx w.heap.size [.cells (setV fold a la ca) 39, .cells #[.int .i64 x.1, .int .i64 x.2] 43, .cells #[.int .i64 y.1, .int .i64 y.2] 43] W3 := by
    rw [hW3]
    exact (((Bx.nil _ w).snoc _ rfl).snoc _ (by simp)).snoc _ (by simp)
  have HGC := Lib.hid (great5_any fold a la ca wss W3 (hA.below hB3))
  have c0 : W3.cell? ⟨w.heap.size, 0, none⟩ = some (.bool fold) := hO3.cell (i := 0) rfl rfl
  have c1 : W3.cell? ⟨w.heap.size, 1, none⟩ = some (.slice a la ca) := hO3.cell (i := 0) rfl rfl
  cases hg : greatP wss with
  | true =>
    have HG := Lib.hid hg
    clear hg
    go_enter Try.func5, Try.ntmps5
    go_wp2_with fail
    rw [← hW3]
    refine HGC.out.mono ?_
    rintro e w5 ⟨rfl, hb5⟩
    rw [HG.out]
    have hB5 : RowKit.Below w.heap.size w w5 := hB3.trans (hb5.mono hB3.size)
    clear c0 c1
    go_wp2_with fail
    refine (wakes6 w5).mono ?_
    rintro e w6 ⟨rfl, hb6⟩
    go_wp2
    go_ret
    exact ⟨rfl, hB5.trans (hb6.mono hB5.size)⟩
  | false =>
    obtain ⟨g1, g2, g3⟩ := great_bd hg fold
    have HG := Lib.hid hg
    clear hg
    by_cases hsz : lb ≤ 300 ∧ lc ≤ 60
    · obtain ⟨h300, h60⟩ := hsz
      have hla : la ≤ 1000 := by rw [← hA.len]; omega
      have hM : ∀ x ∈ wss, x.length ≤ 1000000 := fun z hz => by have := g2 z hz; omega
      have hBL : (begL fold wss).length ≤ 1000000 := by omega
      obtain ⟨L, hLd⟩ : ∃ L, occL fold wss frm text = L := ⟨_, rfl⟩
      obtain ⟨E, hE⟩ : ∃ E, occE fold wss frm = E := ⟨_, rfl⟩
      have hLb := occL_bd (fold := fold) (wss := wss) (frm := frm) (text := text) (by rw [hT.len]; omega) (by omega)
      have hLl : L.length ≤ 301 * 80 := by
        have h1 := occL_le fold wss frm text
        rw [hLd, hT.len] at h1
        have h2 : (lb + 1) * wss.length ≤ 301 * 80 := Nat.mul_le_mul (by omega) (by omega)
        omega
      have k1 := fun (W : World) (hB : Below w.heap.size w W) => occ_c fold a b la ca lb cb frm text wss W (hA.below hB) (hT.below hB) hla (by omega) hcb hM hBL
      have k2 := fun (W : World) (hB : Below w.heap.size w W) => rocc_c fold a b la ca lb cb frm text wss W (hA.below hB) (hT.below hB) hla (by omega) hcb hM
      rw [hLd] at k1 k2 hLb
      rw [hE] at k1 k2
      have K1 := Lib.hid k1
      have K2 := Lib.hid k2
      have HLB := Lib.hid hLb
      have HM := Lib.hid hM
      have HLN := Lib.hid hL.len
      clear hLd hE k1 k2 hLb hM g2
      go_enter Try.func5, Try.ntmps5
      go_wp2_with fail
      rw [← hW3]
      refine HGC.out.mono ?_
      rintro e w4 ⟨rfl, hb4⟩
      rw [HG.out]
      have hB4 : RowKit.Below w.heap.size w w4 := hB3.trans (hb4.mono hB3.size)
      have hO4 := hO3.below hb4
      clear c0 c1 hb4 hO3 hB3 hW3 HGC
      have c0 : w4.cell? ⟨w.heap.size, 0, none⟩ = some (.bool fold) := hO4.cell (i := 0) rfl rfl
      have c1 : w4.cell? ⟨w.heap.size, 1, none⟩ = some (.slice a la ca) := hO4.cell (i := 0) rfl rfl
      go_wp2_with fail
      refine (K1.out _ hB4).mono ?_
      rintro e w5 ⟨a1, c1', rfl, hc1, hX1, hb5⟩
      have hB5 : RowKit.Below w.heap.size w w5 := hB4.trans (hb5.mono hB4.size)
      have hO5 := hO4.below hb5
      clear c0 c1 hb5 hO4 hB4
      have c0 : w5.cell? ⟨w.heap.size, 0, none⟩ = some (.bool fold) := hO5.cell (i := 0) rfl rfl
      have c1 : w5.cell? ⟨w.heap.size, 1, none⟩ = some (.slice a la ca) := hO5.cell (i := 0) rfl rfl
      go_wp2_with fail
      refine (K2.out _ hB5).mono ?_
      rintro e w6 ⟨a2, c2', rfl, hc2, hX2, hb6⟩
      have hB6 : RowKit.Below w.heap.size w w6 := hB5.trans (hb6.mono hB5.size)
      have hO6 := hO5.below hb6
      have hX1 := hX1.below hb6
      clear c0 c1 hb6 hO5 hB5
      have f0 : ∀ d os, (grow (redrawn w6 d) os).cell? ⟨w.heap.size, 0, none⟩ = some (.bool fold) := hO6.cellG (i := 0) rfl rfl
      have f1 : ∀ d os, (grow (redrawn w6 d) os).cell? ⟨w.heap.size, 1, none⟩ = some (.slice a la ca) := hO6.cellG (i := 0) rfl rfl
      have f2 : ∀ d os, (grow (redrawn w6 d) os).cell? ⟨w.heap.size + 1, 0, none⟩ = some (.int .i64 x.1) := hO6.cellG (i := 1) rfl rfl
      have f3 : ∀ d os, (grow (redrawn w6 d) os).cell? ⟨w.heap.size + 1, 1, none⟩ = some (.int .i64 x.2) := hO6.cellG (i := 1) rfl rfl
      have f4 : ∀ d os, (grow (redrawn w6 d) os).cell? ⟨w.heap.size + 1 + 1, 0, none⟩ = some (.int .i64 y.1) := hO6.cellG (i := 2) rfl rfl
      have f5 : ∀ d os, (grow (redrawn w6 d) os).cell? ⟨w.heap.size + 1 + 1, 1, none⟩ = some (.int .i64 y.2) := hO6.cellG (i := 2) rfl rfl
      have kb : ∀ d os, RowKit.Below w.heap.size w (grow (redrawn w6 d) os) := fun d os => hB6.trans ((below_regrown w6 d os).mono hB6.size)
      obtain ⟨B1, hB1⟩ : ∃ B, (mayP fold wss frm && standsH fold wss frm text x) = B := ⟨_, rfl⟩
      obtain ⟨B2, hB2⟩ : ∃ B, lessH wss x y = B := ⟨_, rfl⟩
      obtain ⟨B3, hB3⟩ : ∃ B, riseH wss l = B := ⟨_, rfl⟩
      have s30 := fun d os => rsame6_any a1 a2 L.length c1' L.length c2' L L (grow (redrawn w6 d) os) (hX1.below (below_regrown w6 d os)) (hX2.below (below_regrown w6 d os)) (by omega)
      have s31 := fun d os => stands_any fold a b la ca lb cb frm text x wss (grow (redrawn w6 d) os) (hA.below (kb d os)) (hT.below (kb d os)) (by omega) (by omega) hcb HM.out hBL hx
      have s32 := fun d os => rstands6_any fold a b la ca lb cb frm text x wss (grow (redrawn w6 d) os) (hA.below (kb d os)) (hT.below (kb d os)) (by omega) (by omega) hcb HM.out hx
      have s33 := fun d os => less_any fold a la ca x y wss (grow (redrawn w6 d) os) (hA.below (kb d os)) (by omega)
      have s34 := fun d os => rless6_any fold a la ca x y wss (grow (redrawn w6 d) os) (hA.below (kb d os)) (by omega)
      have s35 := fun d os => orise_any fold a c la ca lc cc l wss (grow (redrawn w6 d) os) (hA.below (kb d os)) (hL.below (kb d os)) (by omega) (by omega)
      have s36 := fun d os => rrise6_any fold a c la ca lc cc l wss (grow (redrawn w6 d) os) (hA.below (kb d os)) (hL.below (kb d os)) (by omega) (by omega)
      rw [decide_eq_true (rfl : L = L)] at s30
      rw [hB1] at s31 s32
      rw [hB2] at s33 s34
      rw [hB3] at s35 s36
      clear hB1 hB2 hB3 kb
      go_upto_region 5 with fail
      refine wp_region_quiet_below mixed (by kernel_rfl) ?_
      repeat (go_big_quiet_step (first | (go_at_call 30; exact grown_below (s30 _ _)) | (go_at_call 31; exact grown_below (s31 _ _)) | (go_at_call 32; exact grown_below (s32 _ _)) | (go_at_call 33; exact grown_below (s33 _ _)) | (go_at_call 34; exact grown_below (s34 _ _)) | (go_at_call 35; exact grown_below (s35 _ _)) | (go_at_call 36; exact grown_below (s36 _ _))))
      refine wpQuiet_nil ?_
      rintro _ ⟨⟨dq, osq⟩, rfl⟩
      have hBq := below_regrown w6 dq osq
      have hB7 : RowKit.Below w.heap.size w (grow (redrawn w6 dq) osq) := hB6.trans (hBq.mono hB6.size)
      have hX1 := hX1.below hBq
      have hX2 := hX2.below hBq
      clear f0 f1 f2 f3 f4 f5 s30 s31 s32 s33 s34 s35 s36 hO6 hB6 hBq
      obtain ⟨W7, hW7⟩ : ∃ W7, W7 = grow (redrawn w6 dq) osq := ⟨_, rfl⟩
      rw [← hW7] at hB7 hX1 hX2 ⊢
      clear hW7
      have hownE : (W7.alloc (.cells #[] 43)).ownsRow W7.heap.size 43 2 (.slice (some ⟨W7.heap.size, 0, none⟩) 0 0) 0 [] := ownH_made W7 W7.heap.size (Nat.le_refl _)
      have hB8 : RowKit.Below W7.heap.size W7 (W7.alloc (.cells #[] 43)) := below_alloc _ _
      have hL8 := (hL.below hB7).below hB8
      go_upto_region 8 with (first | (at_builtin; refine wpList_append_slK rfl _ _ 41 rfl W7.heap.size 43 i0 (.agg #[.int .i64 0, .int .i64 0]) 2 16 Try.underlying41 hi hz0 hz1 hz2 rfl (by decide) _ _ _ rfl hownE c lc cc (hcells l) rfl hL8.1 (hcells_one l) (by unfold maxLen; omega) (by omega) hB8.size ?_; intro v1 w8 hown1 hgrow1 hat1; have hB9 : RowKit.Below W7.heap.size W7 w8 := hB8.grown hgrow1 hB8.size (fun j hj => (hownE.lt j hj).1); have hX2'' := hX2.below hB9) | (at_builtin; refine wpList_append_slK rfl _ _ 41 rfl W7.heap.size 43 i0 (.agg #[.int .i64 0, .int .i64 0]) 2 16 Try.underlying41 hi hz0 hz1 hz2 rfl (by decide) _ _ _ rfl hown1 a2 L.length c2' (hcells L) rfl hX2''.1 (hcells_one L) (by unfold maxLen; omega) (by omega) hB9.size ?_; intro v2 w9 hown2 hgrow2 hat2))
      have hB10 : RowKit.Below W7.heap.size W7 w9 := hB9.grown hgrow2 hB9.size (fun j hj => (hown1.lt j hj).1)
      have hbb : ∀ z ∈ l ++ L, I64 z.1 ∧ I64 z.2 := fun z hz => (List.mem_append.1 hz).elim (hL.2 z) (HLB.out z)
      have hown : OwnH w9 W7.heap.size v2 (l ++ L) := by
        unfold OwnH
        rw [List.length_append, HLN.out, hcells_append]
        simpa using hown2
      obtain ⟨a3, c3, rfl, hc3, hX3⟩ := hown.hts hbb
      obtain ⟨A, hAd⟩ : ∃ A, A = l ++ L := ⟨_, rfl⟩
      have HAD := Lib.hid hAd
      rw [← hAd] at hX3 hbb hown hc3 ⊢
      have hS : TS w a2 a3 L A w9 := ⟨hB7.trans (hB10.mono hB7.size), hX2.below hB10, hX3⟩
      have hAl : A.length ≤ 60 + 301 * 80 := by rw [hAd, List.length_append, HLN.out]; omega
      have HBB := Lib.hid hbb
      clear hown hown2 hown1 hgrow1 hgrow2 hat1 hat2 hX2'' hL8 hB8 hownE hB9 hB10 hX2 hX3 hB7 hAd hbb hX1
      have hLb := hL.2
      have HLB2 := Lib.hid hLb
      clear hLb
      go_wp2_with fail
      refine (between_h low high c lc cc l _ (hL.below hS.b) (by omega)).mono ?_
      rintro e w10 ⟨v, rfl, ho, hb⟩
      obtain ⟨a4, c4, rfl, _, h4⟩ := ho.hts (betwH_bd HLB2.out)
      have hS := hS.below hb
      clear ho hb
      go_wp2_with fail
      refine (rbetween6_h low high c lc cc l _ (hL.below hS.b) (by omega)).mono ?_
      rintro e w11 ⟨v, rfl, ho, hb⟩
      obtain ⟨a5, c5, rfl, _, h5⟩ := ho.hts (betwH_bd HLB2.out)
      have hS := hS.below hb
      have h4 := h4.below hb
      clear ho hb
      have hbl : (betwH low high l).length ≤ 60 := by have := List.length_filter_le (fun h : HitP => decide (low < h.1) && decide (h.1 ≤ high)) l; have := HLN.out; unfold betwH; omega
      go_wp2_with fail
      refine (rsame6_any a4 a5 _ c4 _ c5 (betwH low high l) (betwH low high l) _ h4 h5 (by omega)).mono ?_
      rintro e w12 ⟨rfl, hb⟩
      rw [decide_eq_true (rfl : betwH low high l = betwH low high l)]
      have hS := hS.below hb
      clear hb h4 h5 hbl
      go_wp2_with fail
      refine (join_h _ 2 2 [l, L] _ (hss2 _ (hL.below hS.b) hS.h2) (by decide) (by simp; have := HLN.out; omega)).mono ?_
      rintro e w13 ⟨v, rfl, ho, hb⟩
      have e1 : [l, L].flatten = A := by rw [HAD.out]; simp
      rw [e1] at ho
      obtain ⟨a6, c6, rfl, _, h6⟩ := ho.hts HBB.out
      have hS := (hS.below (below_alloc _ _)).below hb
      clear ho hb e1
      go_wp2_with fail
      refine (rsame6_any a6 a3 _ c6 _ c3 A A _ h6 hS.h3 (by omega)).mono ?_
      rintro e w14 ⟨rfl, hb⟩
      rw [decide_eq_true (rfl : A = A)]
      have hS := hS.below hb
      clear hb h6
      go_wp2_with fail
      refine (osame_any c a2 lc cc _ c2' l L _ (hL.below hS.b) hS.h2 (by omega)).mono ?_
      rintro e w15 ⟨rfl, hb⟩
      have hS := hS.below hb
      clear hb
      obtain ⟨B4, hB4⟩ : ∃ B, decide (l = L) = B := ⟨_, rfl⟩
      rw [hB4]
      have HB4 := Lib.hid hB4
      clear hB4
      go_wp2_with fail
      refine (rsame6_any c a2 lc cc _ c2' l L _ (hL.below hS.b) hS.h2 (by omega)).mono ?_
      rintro e w16 ⟨rfl, hb⟩
      have hS := hS.below hb
      rw [HB4.out]
      clear hb
      go_wp2_with fail
      refine (join_h _ 2 2 [l, L] _ (hss2 _ (hL.below hS.b) hS.h2) (by decide) (by simp; have := HLN.out; omega)).mono ?_
      rintro e w17 ⟨v, rfl, ho, hb⟩
      have e1 : [l, L].flatten = A := by rw [HAD.out]; simp
      rw [e1] at ho
      obtain ⟨a7, c7, rfl, _, h7⟩ := ho.hts HBB.out
      have hS := (hS.below (below_alloc _ _)).below hb
      clear ho hb e1
      go_wp2_with fail
      refine (osame_any a3 a7 _ c3 _ c7 A A _ hS.h3 h7 (by omega)).mono ?_
      rintro e w18 ⟨rfl, hb⟩
      rw [decide_eq_true (rfl : A = A)]
      have hS := hS.below hb
      clear hb h7
      go_wp2_with fail
      refine (wakes6 _).mono ?_
      rintro e w19 ⟨rfl, hb⟩
      have hS := hS.below hb
      clear hb
      go_wp2
      go_ret
      exact ⟨rfl, hS.b⟩
    · by_cases h300 : lb ≤ 300
      · have h60 : 60 < lc := by omega
        clear hsz
        go_enter Try.func5, Try.ntmps5
        go_wp2_with fail
        rw [← hW3]
        refine HGC.out.mono ?_
        rintro e w5 ⟨rfl, hb5⟩
        rw [HG.out]
        have hB5 : RowKit.Below w.heap.size w w5 := hB3.trans (hb5.mono hB3.size)
        clear c0 c1
        go_wp2_with fail
        refine (wakes6 w5).mono ?_
        rintro e w6 ⟨rfl, hb6⟩
        go_wp2
        go_ret
        exact ⟨rfl, hB5.trans (hb6.mono hB5.size)⟩
      · clear hsz
        go_enter Try.func5, Try.ntmps5
        go_wp2_with fail
        rw [← hW3]
        refine HGC.out.mono ?_
        rintro e w5 ⟨rfl, hb5⟩
        rw [HG.out]
        have hB5 : RowKit.Below w.heap.size w w5 := hB3.trans (hb5.mono hB3.size)
        clear c0 c1
        go_wp2_with fail
        refine (wakes6 w5).mono ?_
        rintro e w6 ⟨rfl, hb6⟩
        go_wp2
        go_ret
        exact ⟨rfl, hB5.trans (hb6.mono hB5.size)⟩

end Go.Proofs.Ytmpmjkbjnklgfaa
