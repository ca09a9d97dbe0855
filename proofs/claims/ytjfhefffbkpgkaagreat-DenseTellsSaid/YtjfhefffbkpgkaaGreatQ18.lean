/- Parts of the proof, one behind the other: YM, YN, YO, YL, YR, YT, YS, Fd. No condition but what each theorem states. -/
import Derived.Test.YtjfhefffbkpgkaaGreatQ16
import Derived.Test.YtjfhefffbkpgkaaGreatQ14
import Derived.Test.YtjfhefffbkpgkaaGreatQ13
import Derived.Test.YtjfhefffbkpgkaaGreatQ11
import Derived.Test.YtjfhefffbkpgkaaGreatQ17
import Derived.Test.YtjfhefffbkpgkaaGreatQ12

/- The document's classes (layer 10): is a byte one of a set's; walked. Printed by exp.py. -/


namespace Go.Proofs.YtjfhefffbkpgkaaGreat
open Go.RowKit Go.Sort
set_option linter.unusedVariables false
set_option linter.unusedSimpArgs false

/-- A byte stands in a word. -/
def wordQ (ws : List (List Int)) (c : Int) : Bool := ws.any fun w => w.any fun x => decide (x = c)
/-- .. or one that is the same by fold. -/
def sameQ (fold : Bool) (ws : List (List Int)) (c : Int) : Bool := ws.any fun w => w.any fun x => sameL fold [x] [c]
theorem wordQ_iff {ws : List (List Int)} {c : Int} : wordQ ws c = true ↔ wordB ws c := by
  unfold wordQ wordB
  rw [List.any_eq_true]
  constructor
  · rintro ⟨w, h1, h2⟩
    rw [List.any_eq_true] at h2
    obtain ⟨x, h3, h4⟩ := h2
    rw [decide_eq_true_iff] at h4
    subst h4
    exact ⟨w, h1, h3⟩
  · rintro ⟨w, h1, h2⟩
    exact ⟨w, h1, by rw [List.any_eq_true]; exact ⟨c, h2, by simp⟩⟩
theorem sameQ_inB {fold : Bool} {ws : List (List Int)} (hg : noGreat fold ws) (c : Int) : sameQ fold ws c = inB fold ws c := by
  rw [Bool.eq_iff_iff, inB_fc hg]
  unfold sameQ wordB
  rw [List.any_eq_true]
  have key : ∀ x, wordB ws x → (sameL fold [x] [c] = true ↔ x = fcB fold c) := fun x hx => by
    unfold sameL
    rw [decide_eq_true_iff, foldL_fcB, foldL_fcB]
    have hfx : fcB fold x = x := by
      unfold fcB foldI
      cases fold with
      | false => rfl
      | true => rw [if_pos rfl, if_neg (hg rfl x hx)]
    simp [hfx]
  constructor
  · rintro ⟨w, h1, h2⟩
    rw [List.any_eq_true] at h2
    obtain ⟨x, h3, h4⟩ := h2
    have := (key x ⟨w, h1, h3⟩).1 h4
    subst this
    exact ⟨w, h1, h3⟩
  · rintro ⟨w, h1, h2⟩
    exact ⟨w, h1, by rw [List.any_eq_true]; exact ⟨_, h2, (key _ ⟨w, h1, h2⟩).2 rfl⟩⟩

set_option maxRecDepth 100000 in
set_option maxHeartbeats 8000000 in
theorem in11_any (fold : Bool) (a : Option Addr) (la ca : Nat) (c : Nat) (wss : List (List Int)) (w : World) (hA : Wds w a la wss) (hla : la ≤ 1000000) (hM : ∀ x ∈ wss, x.length ≤ 1000000) (hc : c < 256) :
    Calls Tryz.prog 31 #[.agg (setV fold a la ca), .int .u8 (c : Int)] w fun e w' => e = .returned (.bool (wordQ wss (c : Int))) ∧ Below w.heap.size w w' := by
  have HL := Lib.hid hA.len
  obtain ⟨W, hW⟩ : ∃ W, W = w.alloc (.cells (setV fold a la ca) 24) := ⟨_, rfl⟩
  have hB : Below w.heap.size w W := by rw [hW]; exact below_alloc _ _
  have hO : Bx w.heap.size [.cells (setV fold a la ca) 24] W := by rw [hW]; exact (Bx.nil _ w).snoc _ rfl
  have KS : Hid (∀ V, RowKit.Below W.heap.size W V → V.cell? ⟨w.heap.size, 0, none⟩ = some (.bool fold) ∧ V.cell? ⟨w.heap.size, 1, none⟩ = some (.slice a la ca)) := fun V hV =>
    have h := hO.below hV
    ⟨h.cell (i := 0) rfl rfl, h.cell (i := 0) rfl rfl⟩
  have HA := Lib.hid (hA.below hB)
  have HB := Lib.hid hB
  have HM := Lib.hid hM
  obtain ⟨res, hres⟩ : ∃ r, wordQ wss (c : Int) = r := ⟨_, rfl⟩
  rw [hres]
  have HRES := Lib.hid hres
  clear hA hO hB hM hres
  go_enter Tryz.func31, Tryz.ntmps31
  go_upto_region 1 with fail
  rw [← hW]
  clear hW
  go_wp2_with fail
  go_loopw [5] (fun s5 wr => ∃ i : Nat, i ≤ la ∧ s5 = .int .i64 i ∧ Hid ((wss.take i).any (fun w => w.any fun x => decide (x = (c : Int))) = false) ∧ RowKit.Below W.heap.size W wr) (fun s _ => la - (intOf s).toNat)
  case atStart => exact ⟨0, Nat.zero_le _, rfl, rfl, Below.refl _ _⟩
  case round =>
    obtain ⟨i, hi, rfl, HBB, hBr⟩ := hrel
    obtain ⟨c0, c1⟩ := KS.out wr hBr
    by_cases hil : i < la
    · have hd : decide ((i : Int) < (la : Int)) = true := by simp; omega
      obtain ⟨bb, off, aw, lw, cw, z, hbb, hbl, hcell, hy, hY, hlc⟩ := (HA.out.below hBr).at_ hil
      subst hbb
      have i5 : (0 : Int) ≤ (i : Int) := by omega
      have i6 : (i : Int) < (la : Int) := by omega
      have HYY := Lib.hid hy
      have HY := Lib.hid hY
      have HBr := Lib.hid hBr
      have i7 : lw ≤ 1000000 := by have := HM.out z (List.mem_of_getElem? HYY.out); rw [HY.out.len] at this; exact this
      have KS2 : Hid (∀ V, RowKit.Below wr.heap.size wr V → V.cell? ⟨w.heap.size, 0, none⟩ = some (.bool fold) ∧ V.cell? ⟨w.heap.size, 1, none⟩ = some (.slice (some ⟨bb, off, none⟩) la ca) ∧ V.cell? ⟨bb, off + i, none⟩ = some (.slice aw lw cw)) := fun V hV => by
        obtain ⟨q0, q1⟩ := KS.out V (HBr.out.trans (hV.mono HBr.out.size))
        exact ⟨q0, q1, (World.cell?_of_block (hV.block _ hbl)).trans hcell⟩
      clear hy hY hBr
      go_wp2_with fail
      go_loopw [6] (fun s6 wq => ∃ k : Nat, k ≤ lw ∧ s6 = .int .i64 k ∧ Hid ((z.take k).any (fun x => decide (x = (c : Int))) = false) ∧ Hid (RowKit.Below wr.heap.size wr wq)) (fun s _ => lw - (intOf s).toNat)
      case atStart => exact ⟨0, Nat.zero_le _, rfl, rfl, Below.refl _ _⟩
      case round =>
        obtain ⟨k, hk, rfl, HB1, hBq⟩ := hrel
        obtain ⟨c0, c1, c2⟩ := KS2.out wr hBq.out
        have HBw := Lib.hid (HBr.out.trans (hBq.out.mono HBr.out.size))
        by_cases hkl : k < lw
        · have hd2 : decide ((k : Int) < (lw : Int)) = true := by simp; omega
          obtain ⟨b3, o3, cI, e3, hl3, cc, hc3⟩ := sl1_at ((HY.out.below hBq.out).1) hkl
          subst e3
          have hcr := HY.out.2 cI (List.mem_of_getElem? hc3)
          obtain ⟨x, rfl⟩ : ∃ x : Nat, cI = (x : Int) := ⟨cI.toNat, by omega⟩
          have j1 : (0 : Int) ≤ (k : Int) := by omega
          have j2 : (k : Int) < (lw : Int) := by omega
          obtain ⟨H, hH⟩ : ∃ H, (fun x => decide (x = (c : Int))) (x : Int) = H := ⟨_, rfl⟩
          have HT : Hid (H = true → res = true) := fun e => by
            rw [← HRES.out]
            unfold wordQ
            rw [List.any_eq_true]
            refine ⟨z, List.mem_of_getElem? HYY.out, ?_⟩
            rw [List.any_eq_true]
            exact ⟨_, List.mem_of_getElem? hc3, hH.trans e⟩
          have HF : Hid (H = false → (z.take (k + 1)).any (fun x => decide (x = (c : Int))) = false) := fun e => by
            rw [any_take _ hc3, HB1.out]; exact hH.trans e
          by_cases e : x = c
          · have hh : H = true := by rw [← hH]; simp [e]
            have hr := HT.out hh
            subst hr
            clear hc3 hH hh HF HT
            subst e
            go_wp2_with fail
            go_ret
            exact ⟨rfl, HB.out.trans (HBw.out.mono HB.out.size)⟩
          · have hh : H = false := by rw [← hH]; simp; omega
            have HN := HF.out hh
            have HNX := Lib.hid HN
            have q1 : ((x : Int) == (c : Int)) = false := by simp; omega
            have q1' : (x == c) = false := by simpa using e
            clear hc3 hH hh HF HT e HN
            go_wp2_with fail
            go_roundw
            case rel => exact ⟨k + 1, by omega, by go_num, HNX, hBq⟩
            case measure => simp [intOf]; omega
        · obtain rfl : k = lw := by omega
          have hd2 : decide ((k : Int) < (k : Int)) = false := by simp
          have HNX : Hid ((wss.take (i + 1)).any (fun w => w.any fun x => decide (x = (c : Int))) = false) := by
            have := HB1.out
            rw [List.take_of_length_le (by rw [HY.out.len]; exact Nat.le_refl _)] at this
            rw [Hid, any_take _ HYY.out, HBB.out, this]
            rfl
          go_wp2_with fail
          go_roundw
          case rel => exact ⟨i + 1, by omega, by go_num, HNX, HBw.out⟩
          case measure => simp [intOf]; omega
    · obtain rfl : i = la := by omega
      have hd : decide ((i : Int) < (i : Int)) = false := by simp
      have hr : res = false := by
        have := HBB.out
        rw [List.take_of_length_le (by rw [HL.out]; exact Nat.le_refl _)] at this
        exact HRES.out.symm.trans this
      subst hr
      go_wp2_with fail
      go_ret
      exact ⟨rfl, HB.out.trans (hBr.mono HB.out.size)⟩

set_option maxRecDepth 100000 in
set_option maxHeartbeats 8000000 in
theorem in10_any (fold : Bool) (a : Option Addr) (la ca : Nat) (c : Nat) (wss : List (List Int)) (w : World) (hA : Wds w a la wss) (hla : la ≤ 1000000) (hM : ∀ x ∈ wss, x.length ≤ 1000000) (hc : c < 256) :
    Calls Tryz.prog 47 #[.agg (setV fold a la ca), .int .u8 (c : Int)] w fun e w' => e = .returned (.bool (sameQ fold wss (c : Int))) ∧ Below w.heap.size w w' := by
  have HL := Lib.hid hA.len
  obtain ⟨W, hW⟩ : ∃ W, W = w.alloc (.cells (setV fold a la ca) 24) := ⟨_, rfl⟩
  have hB : Below w.heap.size w W := by rw [hW]; exact below_alloc _ _
  have hO : Bx w.heap.size [.cells (setV fold a la ca) 24] W := by rw [hW]; exact (Bx.nil _ w).snoc _ rfl
  have KS : Hid (∀ V, RowKit.Below W.heap.size W V → V.cell? ⟨w.heap.size, 0, none⟩ = some (.bool fold) ∧ V.cell? ⟨w.heap.size, 1, none⟩ = some (.slice a la ca)) := fun V hV =>
    have h := hO.below hV
    ⟨h.cell (i := 0) rfl rfl, h.cell (i := 0) rfl rfl⟩
  have HA := Lib.hid (hA.below hB)
  have HB := Lib.hid hB
  have HM := Lib.hid hM
  obtain ⟨res, hres⟩ : ∃ r, sameQ fold wss (c : Int) = r := ⟨_, rfl⟩
  rw [hres]
  have HRES := Lib.hid hres
  clear hA hO hB hM hres
  go_enter Tryz.func47, Tryz.ntmps47
  go_upto_region 1 with fail
  rw [← hW]
  clear hW
  go_wp2_with fail
  go_loopw [5] (fun s5 wr => ∃ i : Nat, i ≤ la ∧ s5 = .int .i64 i ∧ Hid ((wss.take i).any (fun w => w.any fun x => sameL fold [x] [(c : Int)]) = false) ∧ RowKit.Below W.heap.size W wr) (fun s _ => la - (intOf s).toNat)
  case atStart => exact ⟨0, Nat.zero_le _, rfl, rfl, Below.refl _ _⟩
  case round =>
    obtain ⟨i, hi, rfl, HBB, hBr⟩ := hrel
    obtain ⟨c0, c1⟩ := KS.out wr hBr
    by_cases hil : i < la
    · have hd : decide ((i : Int) < (la : Int)) = true := by simp; omega
      obtain ⟨bb, off, aw, lw, cw, z, hbb, hbl, hcell, hy, hY, hlc⟩ := (HA.out.below hBr).at_ hil
      subst hbb
      have i5 : (0 : Int) ≤ (i : Int) := by omega
      have i6 : (i : Int) < (la : Int) := by omega
      have HYY := Lib.hid hy
      have HY := Lib.hid hY
      have HBr := Lib.hid hBr
      have i7 : lw ≤ 1000000 := by have := HM.out z (List.mem_of_getElem? HYY.out); rw [HY.out.len] at this; exact this
      have KS2 : Hid (∀ V, RowKit.Below wr.heap.size wr V → V.cell? ⟨w.heap.size, 0, none⟩ = some (.bool fold) ∧ V.cell? ⟨w.heap.size, 1, none⟩ = some (.slice (some ⟨bb, off, none⟩) la ca) ∧ V.cell? ⟨bb, off + i, none⟩ = some (.slice aw lw cw)) := fun V hV => by
        obtain ⟨q0, q1⟩ := KS.out V (HBr.out.trans (hV.mono HBr.out.size))
        exact ⟨q0, q1, (World.cell?_of_block (hV.block _ hbl)).trans hcell⟩
      clear hy hY hBr
      go_wp2_with fail
      go_loopw [6] (fun s6 wq => ∃ k : Nat, k ≤ lw ∧ s6 = .int .i64 k ∧ Hid ((z.take k).any (fun x => sameL fold [x] [(c : Int)]) = false) ∧ Hid (RowKit.Below wr.heap.size wr wq)) (fun s _ => lw - (intOf s).toNat)
      case atStart => exact ⟨0, Nat.zero_le _, rfl, rfl, Below.refl _ _⟩
      case round =>
        obtain ⟨k, hk, rfl, HB1, hBq⟩ := hrel
        obtain ⟨c0, c1, c2⟩ := KS2.out wr hBq.out
        have HBw := Lib.hid (HBr.out.trans (hBq.out.mono HBr.out.size))
        by_cases hkl : k < lw
        · have hd2 : decide ((k : Int) < (lw : Int)) = true := by simp; omega
          obtain ⟨b3, o3, cI, e3, hl3, cc, hc3⟩ := sl1_at ((HY.out.below hBq.out).1) hkl
          subst e3
          have hcr := HY.out.2 cI (List.mem_of_getElem? hc3)
          obtain ⟨x, rfl⟩ : ∃ x : Nat, cI = (x : Int) := ⟨cI.toNat, by omega⟩
          have j1 : (0 : Int) ≤ (k : Int) := by omega
          have j2 : (k : Int) < (lw : Int) := by omega
          obtain ⟨H, hH⟩ : ∃ H, (fun x => sameL fold [x] [(c : Int)]) (x : Int) = H := ⟨_, rfl⟩
          have HT : Hid (H = true → res = true) := fun e => by
            rw [← HRES.out]
            unfold sameQ
            rw [List.any_eq_true]
            refine ⟨z, List.mem_of_getElem? HYY.out, ?_⟩
            rw [List.any_eq_true]
            exact ⟨_, List.mem_of_getElem? hc3, hH.trans e⟩
          have HF : Hid (H = false → (z.take (k + 1)).any (fun x => sameL fold [x] [(c : Int)]) = false) := fun e => by
            rw [any_take _ hc3, HB1.out]; exact hH.trans e
          have hyw := HY.out.below hBq.out
          have hcut := hyw.cut (lo := k) (m := 1) (by omega)
          have hz1 : (z.drop k).take 1 = [(x : Int)] := by
            obtain ⟨hlt, he⟩ := List.getElem?_eq_some_iff.1 hc3
            rw [List.drop_eq_getElem_cons hlt, he]; rfl
          rw [hz1] at hcut
          have KQ : Hid (∀ V, RowKit.Below wr.heap.size wr V → V.cell? ⟨w.heap.size, 0, none⟩ = some (.bool fold) ∧ V.cell? ⟨w.heap.size, 1, none⟩ = some (.slice (some ⟨bb, off, none⟩) la ca) ∧ V.cell? ⟨bb, off + i, none⟩ = some (.slice (some ⟨b3, o3, none⟩) lw cw)) := fun V hV => KS2.out V (hBq.out.trans (hV.mono hBq.out.size))
          have hcut2 : Bys wr (some ⟨b3, o3 + k, none⟩) 1 [(x : Int)] := by simpa [add_plain] using hcut
          have HCUT := Lib.hid hcut2
          have e4 : IntKind.i64.wrap ((k : Int) + 1) = (k : Int) + 1 := by have := wrap_nat (x := k + 1) (by omega); simpa using this
          have e5 : ((k : Int) + 1).toNat = k + 1 := by omega
          have e6 : ¬ cw = k := by omega
          have e7 : (0 : Int) ≤ (k : Int) + 1 := by omega
          have j3 : (k : Int) + 1 ≤ (cw : Int) := by omega
          have j4 : (k : Int) ≤ (k : Int) + 1 := by omega
          have j5 : (k : Int) ≤ (cw : Int) := by omega
          clear hc3 hyw hcut hcut2 hz1 cc
          go_upto_region 7 with fail
          refine wp_region_noPanic ?_
          refine wp_region_held_drew (S := RowKit.Below wr.heap.size wr) (by kernel_rfl) (bel_drewN wr 1) (fun hHeld => ?_)
          refine wpAnyH_take (i := 0) (v := ?_) (by simp only [List.getElem?_toArray, List.getElem?_cons_zero, List.getElem?_cons_succ]; rfl) (by as_aux_lemma => kernel_rfl) (by as_aux_lemma => kernel_rfl) (by as_aux_lemma => kernel_rfl) (fun _ _ _ h => h) (Or.inl ⟨by rfl, ?_⟩) (by assumption) ?_
          rotate_left
          · intro V hV
            first | (go_simp; done) | (go_simp; with_reducible rfl)
          try simp only [Act.put, List.setIfInBounds_toArray, List.set_cons_zero, List.set_cons_succ]
          refine wpAnyH_take (i := 1) (v := ?_) (by simp only [List.getElem?_toArray, List.getElem?_cons_zero, List.getElem?_cons_succ]; rfl) (by as_aux_lemma => kernel_rfl) (by as_aux_lemma => kernel_rfl) (by as_aux_lemma => kernel_rfl) (fun _ _ _ h => h) (Or.inl ⟨by rfl, ?_⟩) (by assumption) ?_
          rotate_left
          · intro V hV
            obtain ⟨q0, q1, q2⟩ := KQ.out V hV
            first | (go_simp; done) | (go_simp; with_reducible rfl)
          try simp only [Act.put, List.setIfInBounds_toArray, List.set_cons_zero, List.set_cons_succ]
          refine wpAnyH_take (i := 2) (v := ?_) (by simp only [List.getElem?_toArray, List.getElem?_cons_zero, List.getElem?_cons_succ]; rfl) (by as_aux_lemma => kernel_rfl) (by as_aux_lemma => kernel_rfl) (by as_aux_lemma => kernel_rfl) (fun _ _ _ h => h) (Or.inl ⟨by rfl, ?_⟩) (by assumption) ?_
          rotate_left
          · intro V hV
            first | (go_simp; done) | (go_simp; with_reducible rfl)
          try simp only [Act.put, List.setIfInBounds_toArray, List.set_cons_zero, List.set_cons_succ]
          refine wpAnyH_take (i := 3) (v := ?_) (by simp only [List.getElem?_toArray, List.getElem?_cons_zero, List.getElem?_cons_succ]; rfl) (by as_aux_lemma => kernel_rfl) (by as_aux_lemma => kernel_rfl) (by as_aux_lemma => kernel_rfl) (fun _ _ _ h => h) (Or.inl ⟨by rfl, ?_⟩) (by assumption) ?_
          rotate_left
          · intro V hV
            obtain ⟨q0, q1, q2⟩ := KQ.out V hV
            first | (go_simp; done) | (go_simp; with_reducible rfl)
          try simp only [Act.put, List.setIfInBounds_toArray, List.set_cons_zero, List.set_cons_succ]
          refine wpAnyH_take (i := 4) (v := ?_) (by simp only [List.getElem?_toArray, List.getElem?_cons_zero, List.getElem?_cons_succ]; rfl) (by as_aux_lemma => kernel_rfl) (by as_aux_lemma => kernel_rfl) (by as_aux_lemma => kernel_rfl) (fun _ _ _ h => h) (Or.inl ⟨by rfl, ?_⟩) (by assumption) ?_
          rotate_left
          · intro V hV
            first | (go_simp; done) | (go_simp; with_reducible rfl)
          try simp only [Act.put, List.setIfInBounds_toArray, List.set_cons_zero, List.set_cons_succ]
          refine wpAnyH_take (i := 5) (v := ?_) (by simp only [List.getElem?_toArray, List.getElem?_cons_zero, List.getElem?_cons_succ]; rfl) (by as_aux_lemma => kernel_rfl) (by as_aux_lemma => kernel_rfl) (by as_aux_lemma => kernel_rfl) (fun _ _ _ h => h) (Or.inl ⟨by rfl, ?_⟩) (by assumption) ?_
          rotate_left
          · intro V hV
            first | (go_simp; done) | (go_simp; with_reducible rfl)
          try simp only [Act.put, List.setIfInBounds_toArray, List.set_cons_zero, List.set_cons_succ]
          refine wpAnyH_take (i := 6) (v := ?_) (by simp only [List.getElem?_toArray, List.getElem?_cons_zero, List.getElem?_cons_succ]; rfl) (by as_aux_lemma => kernel_rfl) (by as_aux_lemma => kernel_rfl) (by as_aux_lemma => kernel_rfl) (fun _ _ _ h => h) (Or.inl ⟨by rfl, ?_⟩) (by assumption) ?_
          rotate_left
          · intro V hV
            obtain ⟨q0, q1, q2⟩ := KQ.out V hV
            first | (go_simp; done) | (go_simp; with_reducible rfl)
          try simp only [Act.put, List.setIfInBounds_toArray, List.set_cons_zero, List.set_cons_succ]
          refine wpAnyH_take (i := 7) (v := ?_) (by simp only [List.getElem?_toArray, List.getElem?_cons_zero, List.getElem?_cons_succ]; rfl) (by as_aux_lemma => kernel_rfl) (by as_aux_lemma => kernel_rfl) (by as_aux_lemma => kernel_rfl) (fun _ _ _ h => h) (Or.inl ⟨by rfl, ?_⟩) (by assumption) ?_
          rotate_left
          · intro V hV
            first | (go_simp; done) | (go_simp; with_reducible rfl)
          try simp only [Act.put, List.setIfInBounds_toArray, List.set_cons_zero, List.set_cons_succ]
          refine wpAnyH_take (i := 8) (v := ?_) (by simp only [List.getElem?_toArray, List.getElem?_cons_zero, List.getElem?_cons_succ]; rfl) (by as_aux_lemma => kernel_rfl) (by as_aux_lemma => kernel_rfl) (by as_aux_lemma => kernel_rfl) (fun _ _ _ h => h) (Or.inl ⟨by rfl, ?_⟩) (by assumption) ?_
          rotate_left
          · intro V hV
            first | (go_simp; done) | (go_simp; with_reducible rfl)
          try simp only [Act.put, List.setIfInBounds_toArray, List.set_cons_zero, List.set_cons_succ]
          refine wpAnyH_take (i := 9) (v := ?_) (by simp only [List.getElem?_toArray, List.getElem?_cons_zero, List.getElem?_cons_succ]; rfl) (by as_aux_lemma => kernel_rfl) (by as_aux_lemma => kernel_rfl) (by as_aux_lemma => kernel_rfl) (fun _ _ _ h => h) (Or.inl ⟨by rfl, ?_⟩) (by assumption) ?_
          rotate_left
          · intro V hV
            first | (go_simp; done) | (go_simp; with_reducible rfl)
          try simp only [Act.put, List.setIfInBounds_toArray, List.set_cons_zero, List.set_cons_succ]
          refine wpAnyH_take (i := 10) (v := ?_) (by simp only [List.getElem?_toArray, List.getElem?_cons_zero, List.getElem?_cons_succ]; rfl) (by as_aux_lemma => kernel_rfl) (by as_aux_lemma => kernel_rfl) (by as_aux_lemma => kernel_rfl) (fun _ _ _ h => h) (Or.inl ⟨by rfl, ?_⟩) (by assumption) ?_
          rotate_left
          · intro V hV
            first | (go_simp; done) | (go_simp; with_reducible rfl)
          try simp only [Act.put, List.setIfInBounds_toArray, List.set_cons_zero, List.set_cons_succ]
          refine wpAnyH_take (i := 11) (v := ?_) (by simp only [List.getElem?_toArray, List.getElem?_cons_zero, List.getElem?_cons_succ]; rfl) (by as_aux_lemma => kernel_rfl) (by as_aux_lemma => kernel_rfl) (by as_aux_lemma => kernel_rfl) (fun _ _ _ h => h) (Or.inl ⟨by rfl, ?_⟩) (by assumption) ?_
          rotate_left
          · intro V hV
            first | (go_simp; done) | (go_simp; with_reducible rfl)
          try simp only [Act.put, List.setIfInBounds_toArray, List.set_cons_zero, List.set_cons_succ]
          refine wpAnyH_ready (rs := [12]) (by as_aux_lemma => kernel_rfl) (by simp) ?_
          refine AllReadyH.cons (by simp only [List.getElem?_toArray, List.getElem?_cons_zero, List.getElem?_cons_succ]; rfl) (fun K hK => ?_) AllReadyH.nil
          go_simp
          obtain ⟨WX, hWX⟩ : ∃ WX, WX = (wr.alloc (.cells #[.int .u8 (c : Int)] 5)).drew := ⟨_, rfl⟩
          have hBX : RowKit.Below wr.heap.size wr WX := by rw [hWX]; exact (below_alloc wr _).drew
          have hX1 : Bys WX (some ⟨wr.heap.size, 0, none⟩) 1 [(c : Int)] := by
            rw [hWX]
            exact (bys_lay [(c : Int)] (fun y hy => by simp at hy; omega) _ _ rfl).below (Below.refl _ _).drew
          have hX2 := HCUT.out.below hBX
          rw [← hWX]
          refine hK.out _ _ hBX (fun hNew => ?_)
          clear hK K hHeld hNew hWX
          try simp only [Act.put, List.setIfInBounds_toArray, List.set_cons_zero, List.set_cons_succ]
          refine wpAnyH_ready (rs := [13]) (by as_aux_lemma => kernel_rfl) (by simp) ?_
          refine AllReadyH.cons (by simp only [List.getElem?_toArray, List.getElem?_cons_zero, List.getElem?_cons_succ]; rfl) (fun K hK => ?_) AllReadyH.nil
          go_simp
          go_at_call 67; refine (rsame_any fold (some ⟨b3, o3 + k, none⟩) (some ⟨wr.heap.size, 0, none⟩) 1 (cw - k) 1 1 [(x : Int)] [(c : Int)] WX hX2 hX1 (by decide) (by decide)).mono ?_; rintro e w4 ⟨rfl, hb4⟩
          have hB4 : RowKit.Below wr.heap.size wr w4 := hBX.trans (hb4.mono hBX.size)
          refine hK.out _ _ hB4 (fun hNew => ?_)
          clear hK K hNew hX1 hX2 hBX hb4
          try simp only [Act.put, List.setIfInBounds_toArray, List.set_cons_zero, List.set_cons_succ]
          refine wpAnyH_done (by kernel_rfl) ?_ _
          refine NoPanic.normal ?_
          have hH2 : sameL fold [(x : Int)] [(c : Int)] = H := hH
          rw [hH2]
          have HB4 := Lib.hid hB4
          clear hB4 hH hH2
          cases H with
          | true =>
            have hr := HT.out rfl
            subst hr
            clear HT HF
            go_wp2_with fail
            go_ret
            exact ⟨rfl, HB.out.trans ((HBw.out.trans (HB4.out.mono HBw.out.size)).mono HB.out.size)⟩
          | false =>
            have HNX := Lib.hid (HF.out rfl)
            clear HT HF
            go_wp2_with fail
            go_roundw
            case rel => exact ⟨k + 1, by omega, by go_num, HNX, hBq.out.trans (HB4.out.mono hBq.out.size)⟩
            case measure => simp [intOf]; omega
        · obtain rfl : k = lw := by omega
          have hd2 : decide ((k : Int) < (k : Int)) = false := by simp
          have HNX : Hid ((wss.take (i + 1)).any (fun w => w.any fun x => sameL fold [x] [(c : Int)]) = false) := by
            have := HB1.out
            rw [List.take_of_length_le (by rw [HY.out.len]; exact Nat.le_refl _)] at this
            rw [Hid, any_take _ HYY.out, HBB.out, this]
            rfl
          go_wp2_with fail
          go_roundw
          case rel => exact ⟨i + 1, by omega, by go_num, HNX, HBw.out⟩
          case measure => simp [intOf]; omega
    · obtain rfl : i = la := by omega
      have hd : decide ((i : Int) < (i : Int)) = false := by simp
      have hr : res = false := by
        have := HBB.out
        rw [List.take_of_length_le (by rw [HL.out]; exact Nat.le_refl _)] at this
        exact HRES.out.symm.trans this
      subst hr
      go_wp2_with fail
      go_ret
      exact ⟨rfl, HB.out.trans (hBr.mono HB.out.size)⟩

end Go.Proofs.YtjfhefffbkpgkaaGreat

/- The document's classes (layer 10): of each byte its class; walked. -/

namespace Go.Proofs.YtjfhefffbkpgkaaGreat
open Go.RowKit Go.Sort
set_option linter.unusedVariables false
set_option linter.unusedSimpArgs false

/-- 256 numbers, of which the first ones are told. -/
def fullC (p : Int → Bool) (fold : Bool) (i : Nat) : List Int := (clsN p fold i).1 ++ List.replicate (256 - i) 0
theorem fullC_len (p : Int → Bool) (fold : Bool) {i : Nat} (h : i ≤ 256) : (fullC p fold i).length = 256 := by
  unfold fullC
  rw [List.length_append, clsN_len, List.length_replicate]; omega
theorem fullC_end (p : Int → Bool) (fold : Bool) : fullC p fold 256 = (clsN p fold 256).1 := by
  unfold fullC
  rw [Nat.sub_self, List.replicate_zero, List.append_nil]
theorem fullC_at {p : Int → Bool} {fold : Bool} {i j : Nat} (h : j < i) : (fullC p fold i)[j]? = (clsN p fold i).1[j]? := by
  unfold fullC
  exact List.getElem?_append_left (by rw [clsN_len]; exact h)
theorem fullC_set {p : Int → Bool} {fold : Bool} {i : Nat} (h : i < 256) (v : Int) (hv : (clsN p fold (i + 1)).1 = (clsN p fold i).1 ++ [v]) : (fullC p fold i).set i v = fullC p fold (i + 1) := by
  unfold fullC
  obtain ⟨m, hm⟩ : ∃ m, 256 - i = m + 1 := ⟨255 - i, by omega⟩
  rw [hm, List.set_append_right _ _ (by rw [clsN_len]; exact Nat.le_refl _), clsN_len, Nat.sub_self, List.replicate_succ, List.set_cons_zero, hv, List.append_assoc, show 256 - (i + 1) = m by omega]
  rfl
theorem fullC_zero {p : Int → Bool} {fold : Bool} {i : Nat} (h : i < 256) (hv : (clsN p fold (i + 1)).1 = (clsN p fold i).1 ++ [0]) : fullC p fold i = fullC p fold (i + 1) := by
  unfold fullC
  obtain ⟨m, hm⟩ : ∃ m, 256 - i = m + 1 := ⟨255 - i, by omega⟩
  rw [hm, List.replicate_succ, hv, List.append_assoc, show 256 - (i + 1) = m by omega]
  rfl
/-- A row of numbers in a variable of 256. -/
def ArrB (W : World) (B : Nat) (l : List Int) : Prop := W.heap[B]? = some (.cells (l.map (Value.int .i64)).toArray 25 (0, 0))
theorem ArrB.lt {W : World} {B : Nat} {l : List Int} (h : ArrB W B l) : B < W.heap.size := (Array.getElem?_eq_some_iff.1 h).1
theorem ArrB.cell {W : World} {B : Nat} {l : List Int} (h : ArrB W B l) {i : Nat} {v : Int} (hv : l[i]? = some v) : W.cell? ⟨B, i, none⟩ = some (.int .i64 v) := by
  rw [cell_of_row W B i _ _ _ h]
  simp [hv]
theorem ArrB.frozen {W : World} {B : Nat} {l : List Int} (h : ArrB W B l) (i : Nat) : W.frozen? ⟨B, i, none⟩ = false := by
  have h2 : W.heap[B]? = some (.cells (l.map (Value.int .i64)).toArray 25 (0, 0)) := h
  simp [World.frozen?, h2]
theorem ArrB.set {W : World} {B : Nat} {l : List Int} (h : ArrB W B l) (i : Nat) (v : Int) : ArrB (W.setCell ⟨B, i, none⟩ (.int .i64 v)) B (l.set i v) := by
  have h2 : W.heap[B]? = some (.cells (l.map (Value.int .i64)).toArray 25 (0, 0)) := h
  unfold ArrB
  rw [setCell_eq_setRow W B i _ _ _ _ h2, setRow_heap W B _ _ _ _ h2]
  simp [List.map_set]
theorem ArrB.below {W V : World} {B : Nat} {l : List Int} (h : ArrB W B l) (hb : Below W.heap.size W V) : ArrB V B l := (hb.block B h.lt).trans h

set_option maxRecDepth 100000 in
set_option maxHeartbeats 8000000 in
theorem rof10_yes (fold : Bool) (a : Option Addr) (la ca : Nat) (wss : List (List Int)) (w : World) (hA : Wds w a la wss) (hla : la ≤ 1000000) (hM : ∀ x ∈ wss, x.length ≤ 1000000) (hr : rightP fold wss = true) :
    Calls Tryz.prog 29 #[.agg (setV fold a la ca)] w fun e w' => e = .returned (.tuple #[clsV (clsP fold wss), .int .i64 (manyP fold wss), .int .i64 0]) ∧ Below w.heap.size w w' := by
  obtain ⟨W, hW⟩ : ∃ W, W = ((w.alloc (.cells (setV fold a la ca) 24)).alloc (.cells Tryz.zeroCells25 25)).alloc (.cells Tryz.zeroCells25 25) := ⟨_, rfl⟩
  have hB : Below w.heap.size w W := by rw [hW]; exact (((Below.refl _ _).alloc (Nat.le_refl _) _).alloc (by simp) _).alloc (by simp; omega) _
  have hO : Bx w.heap.size [.cells (setV fold a la ca) 24, .cells Tryz.zeroCells25 25, .cells Tryz.zeroCells25 25] W := by rw [hW]; exact (((Bx.nil _ w).snoc _ rfl).snoc _ (by simp)).snoc _ (by simp)
  have HO := Lib.hid hO
  have HA0 := Lib.hid hA
  have HB := Lib.hid hB
  have hg : noGreat fold wss := noGreat_of (right_nodup hr).2
  have HG := Lib.hid hg
  have hR := rright_any fold a la ca wss W (hA.below hB) hla hM
  rw [← right_eq, hr] at hR
  have HR := Lib.hid hR
  have s0 : W.cell? ⟨w.heap.size, 0, none⟩ = some (.bool fold) := hO.cell (i := 0) rfl rfl
  have s1 : W.cell? ⟨w.heap.size, 1, none⟩ = some (.slice a la ca) := hO.cell (i := 0) rfl rfl
  clear hA hO hB hg hR hr
  go_enter Tryz.func29, Tryz.ntmps29
  go_upto_region 2 with fail
  rw [← hW]
  clear hW
  go_wp2_with fail
  refine HR.out.mono ?_
  rintro e w1 ⟨rfl, hb1⟩
  have hO1 := HO.out.below hb1
  obtain ⟨p, hp⟩ : ∃ p, inB fold wss = p := ⟨_, rfl⟩
  have HP := Lib.hid hp
  have hA1 : ArrB w1 (w.heap.size + 2) (fullC p fold 0) := by
    have h := hO1 2 _ rfl
    rw [zero25] at h
    exact h
  have KS : Hid (∀ V, RowKit.Below (w.heap.size + 2) w1 V → V.cell? ⟨w.heap.size, 0, none⟩ = some (.bool fold) ∧ V.cell? ⟨w.heap.size, 1, none⟩ = some (.slice a la ca)) := fun V hV => by
    have h0 := hO1 0 _ rfl
    have h1 : V.heap[w.heap.size]? = _ := (hV.block _ (by omega)).trans h0
    simp [World.cell?, h1]
  have HZ1 : Hid (w1.heap[w.heap.size + 1]? = some (.cells Tryz.zeroCells25 25 (0, 0))) := hO1 1 _ rfl
  have HBB := Lib.hid (HB.out.trans (hb1.mono HB.out.size))
  have hl1 : w.heap.size + 2 < w1.heap.size := hA1.lt
  have hIN : Hid (∀ V, RowKit.Below (w.heap.size + 2) w1 V → ∀ c : Nat, c < 256 → Calls Tryz.prog 47 #[.agg (setV fold a la ca), .int .u8 (c : Int)] V fun e w' => e = .returned (.bool (p (c : Int))) ∧ RowKit.Below V.heap.size V w') := fun V hV c hc => by
    have hAV : Wds V a la wss := HA0.out.below (HBB.out.trans (hV.mono (by omega)))
    have h := in10_any fold a la ca c wss V hAV hla hM hc
    rw [sameQ_inB HG.out, HP.out] at h
    exact h
  clear s0 s1 hO1 hb1
  go_wp2_with fail
  go_loopw [6, 7] (fun s6 s7 wr => ∃ i : Nat, i ≤ 256 ∧ s7 = .int .i64 i ∧ s6 = .int .i64 ((clsN p fold i).2 : Int) ∧ Hid (ArrB wr (w.heap.size + 2) (fullC p fold i)) ∧ Hid (RowKit.Below (w.heap.size + 2) w1 wr)) (fun _ s _ => 256 - (intOf s).toNat)
  case atStart => exact ⟨0, by decide, rfl, rfl, hA1, Below.refl _ _⟩
  case round =>
    obtain ⟨i, hi, rfl, rfl, HAr, HBr⟩ := hrel
    obtain ⟨c0, c1⟩ := KS.out wr HBr.out
    by_cases hil : i < 256
    · have hd : decide ((i : Int) < 256) = true := by simp; omega
      have hd' : decide (i < 256) = true := by simpa using hil
      have i1 : (0 : Int) ≤ (i : Int) := by omega
      have i2 : (i : Int) < 256 := by omega
      have e1 : IntKind.u8.wrap (i : Int) = (i : Int) := by simp [IntKind.wrap, IntKind.bits, IntKind.signed]; omega
      have HC := Lib.hid (hIN.out wr HBr.out i hil)
      have hl2 : w.heap.size + 2 < wr.heap.size := HAr.out.lt
      cases hb : p (i : Int) with
      | false =>
        rw [hb] at HC
        have HPB := Lib.hid hb
        clear hb
        go_upto_region 9 with (go_at_call 47; refine HC.out.mono ?_; rintro e w3 ⟨rfl, hb3⟩; have hA3 := HAr.out.below hb3; have hB3 := HBr.out.trans (hb3.mono (Nat.le_of_lt (Nat.lt_of_lt_of_le hl1 HBr.out.size))); obtain ⟨g0, g1⟩ := KS.out w3 hB3; have HA3 := Lib.hid hA3; have HB3 := Lib.hid hB3; clear hb3 hB3 hA3)
        have HAn : Hid (ArrB w3 (w.heap.size + 2) (fullC p fold (i + 1))) := by
          rw [Hid, ← fullC_zero hil (by rw [clsN_succ, if_pos HPB.out])]
          exact HA3.out
        have hm2 : (clsN p fold (i + 1)).2 = (clsN p fold i).2 := by rw [clsN_succ, if_pos HPB.out]
        have HM2 := Lib.hid hm2
        clear hm2
        go_roundw
        case rel => exact ⟨i + 1, by omega, by go_num, by rw [HM2.out], HAn, HB3⟩
        case measure => simp [intOf]; omega
      | true =>
        rw [hb] at HC
        have HPB := Lib.hid hb
        clear hb
        go_upto_region 9 with (go_at_call 47; refine HC.out.mono ?_; rintro e w3 ⟨rfl, hb3⟩; have hA3 := HAr.out.below hb3; have hB3 := HBr.out.trans (hb3.mono (Nat.le_of_lt (Nat.lt_of_lt_of_le hl1 HBr.out.size))); obtain ⟨g0, g1⟩ := KS.out w3 hB3; have HA3 := Lib.hid hA3; have HB3 := Lib.hid hB3; clear hb3 hB3 hA3)
        clear c0 c1
        cases fold with
        | false =>

          have hsm : ¬ (false && smallI (i : Int)) = true := by simp
          have f3 := HA3.out.frozen i
          obtain ⟨y0, hy0⟩ : ∃ y, (fullC p false i)[i]? = some y := ⟨(fullC p false i)[i]'(by rw [fullC_len p false hi]; exact hil), by simp⟩
          have f4 := HA3.out.cell hy0
          have HAn : Hid (ArrB (w3.setCell ⟨w.heap.size + 2, i, none⟩ (.int .i64 ((clsN p false i).2 : Int))) (w.heap.size + 2) (fullC p false (i + 1))) := by
            rw [Hid, ← fullC_set hil _ (by rw [clsN_succ, if_neg (by rw [HPB.out]; decide), if_neg hsm])]
            exact HA3.out.set i _
          have hm2 : (clsN p false (i + 1)).2 = (clsN p false i).2 + 1 := by rw [clsN_succ, if_neg (by rw [HPB.out]; decide), if_neg hsm]
          have HM2 := Lib.hid hm2
          have hmb := (clsN_many p false i).2
          have hBn : Hid (RowKit.Below (w.heap.size + 2) w1 (w3.setCell ⟨w.heap.size + 2, i, none⟩ (.int .i64 ((clsN p false i).2 : Int)))) := HB3.out.setCell (Nat.le_refl _) _
          obtain ⟨mi, hmi⟩ : ∃ m, (clsN p false i).2 = m := ⟨_, rfl⟩
          rw [hmi] at hmb HAn HM2 hBn ⊢
          clear hm2 hmi hy0 hsm
          go_wp2_with fail
          go_roundw
          case rel => exact ⟨i + 1, by omega, by go_num, by rw [HM2.out]; go_num, HAn, hBn⟩
          case measure => simp [intOf]; omega
        | true =>

          by_cases h97 : 97 ≤ i
          · have q2 : decide ((97 : Int) ≤ (i : Int)) = true := by simp; omega
            have q2' : decide (97 ≤ i) = true := by simpa using h97
            by_cases h122 : i ≤ 122
            · have q3 : decide ((i : Int) ≤ 122) = true := by simp; omega
              have q3' : decide (i ≤ 122) = true := by simpa using h122
              have hsm : (true && smallI (i : Int)) = true := by unfold smallI; simp; omega
              obtain ⟨j, hj⟩ : ∃ j, i = j + 32 := ⟨i - 32, by omega⟩
              have hij : i - 32 = j := by omega
              obtain ⟨v, hv⟩ : ∃ v, (clsN p true i).1[j]? = some v := ⟨(clsN p true i).1[j]'(by rw [clsN_len]; omega), by simp⟩
              have hsu : clsN p true (i + 1) = ((clsN p true i).1 ++ [v], (clsN p true i).2) := by rw [clsN_succ, if_neg (by rw [HPB.out]; decide), if_pos hsm, hij, hv]; rfl
              have f3 := HA3.out.frozen i
              obtain ⟨y0, hy0⟩ : ∃ y, (fullC p true i)[i]? = some y := ⟨(fullC p true i)[i]'(by rw [fullC_len p true hi]; exact hil), by simp⟩
              have f4 := HA3.out.cell hy0
              have f5 := HA3.out.cell ((fullC_at (show j < i by omega)).trans hv)
              have e2 : IntKind.i64.wrap ((i : Int) - 32) = (j : Int) := by have := wrap_nat (x := j) (by omega); rw [show (i : Int) - 32 = (j : Int) by omega]; exact this
              have e3 : wrap64 ((i : Int) - 32) = (j : Int) := by unfold wrap64; omega
              have j1 : (0 : Int) ≤ (j : Int) := by omega
              have j2 : (j : Int) < 256 := by omega
              have HAn : Hid (ArrB (w3.setCell ⟨w.heap.size + 2, i, none⟩ (.int .i64 v)) (w.heap.size + 2) (fullC p true (i + 1))) := by
                rw [Hid, ← fullC_set hil v (by rw [hsu])]
                exact HA3.out.set i _
              have HM2 : Hid ((clsN p true (i + 1)).2 = (clsN p true i).2) := by rw [Hid, hsu]
              have hBn : Hid (RowKit.Below (w.heap.size + 2) w1 (w3.setCell ⟨w.heap.size + 2, i, none⟩ (.int .i64 v))) := HB3.out.setCell (Nat.le_refl _) _
              obtain ⟨mi, hmi⟩ : ∃ m, (clsN p true i).2 = m := ⟨_, rfl⟩
              rw [hmi] at HM2 ⊢
              clear hmi hy0 hsm hsu hv hij hj
              go_wp2_with fail
              go_roundw
              case rel => exact ⟨i + 1, by omega, by go_num, by rw [HM2.out], HAn, hBn⟩
              case measure => simp [intOf]; omega
            · have q3 : decide ((i : Int) ≤ 122) = false := by simp; omega
              have q3' : decide (i ≤ 122) = false := by simp; omega
              have hsm : ¬ (true && smallI (i : Int)) = true := by unfold smallI; simp; omega
              have f3 := HA3.out.frozen i
              obtain ⟨y0, hy0⟩ : ∃ y, (fullC p true i)[i]? = some y := ⟨(fullC p true i)[i]'(by rw [fullC_len p true hi]; exact hil), by simp⟩
              have f4 := HA3.out.cell hy0
              have HAn : Hid (ArrB (w3.setCell ⟨w.heap.size + 2, i, none⟩ (.int .i64 ((clsN p true i).2 : Int))) (w.heap.size + 2) (fullC p true (i + 1))) := by
                rw [Hid, ← fullC_set hil _ (by rw [clsN_succ, if_neg (by rw [HPB.out]; decide), if_neg hsm])]
                exact HA3.out.set i _
              have hm2 : (clsN p true (i + 1)).2 = (clsN p true i).2 + 1 := by rw [clsN_succ, if_neg (by rw [HPB.out]; decide), if_neg hsm]
              have HM2 := Lib.hid hm2
              have hmb := (clsN_many p true i).2
              have hBn : Hid (RowKit.Below (w.heap.size + 2) w1 (w3.setCell ⟨w.heap.size + 2, i, none⟩ (.int .i64 ((clsN p true i).2 : Int)))) := HB3.out.setCell (Nat.le_refl _) _
              obtain ⟨mi, hmi⟩ : ∃ m, (clsN p true i).2 = m := ⟨_, rfl⟩
              rw [hmi] at hmb HAn HM2 hBn ⊢
              clear hm2 hmi hy0 hsm
              go_wp2_with fail
              go_roundw
              case rel => exact ⟨i + 1, by omega, by go_num, by rw [HM2.out]; go_num, HAn, hBn⟩
              case measure => simp [intOf]; omega
          · have q2 : decide ((97 : Int) ≤ (i : Int)) = false := by simp; omega
            have q2' : decide (97 ≤ i) = false := by simp; omega
            have hsm : ¬ (true && smallI (i : Int)) = true := by unfold smallI; simp; omega
            have f3 := HA3.out.frozen i
            obtain ⟨y0, hy0⟩ : ∃ y, (fullC p true i)[i]? = some y := ⟨(fullC p true i)[i]'(by rw [fullC_len p true hi]; exact hil), by simp⟩
            have f4 := HA3.out.cell hy0
            have HAn : Hid (ArrB (w3.setCell ⟨w.heap.size + 2, i, none⟩ (.int .i64 ((clsN p true i).2 : Int))) (w.heap.size + 2) (fullC p true (i + 1))) := by
              rw [Hid, ← fullC_set hil _ (by rw [clsN_succ, if_neg (by rw [HPB.out]; decide), if_neg hsm])]
              exact HA3.out.set i _
            have hm2 : (clsN p true (i + 1)).2 = (clsN p true i).2 + 1 := by rw [clsN_succ, if_neg (by rw [HPB.out]; decide), if_neg hsm]
            have HM2 := Lib.hid hm2
            have hmb := (clsN_many p true i).2
            have hBn : Hid (RowKit.Below (w.heap.size + 2) w1 (w3.setCell ⟨w.heap.size + 2, i, none⟩ (.int .i64 ((clsN p true i).2 : Int)))) := HB3.out.setCell (Nat.le_refl _) _
            obtain ⟨mi, hmi⟩ : ∃ m, (clsN p true i).2 = m := ⟨_, rfl⟩
            rw [hmi] at hmb HAn HM2 hBn ⊢
            clear hm2 hmi hy0 hsm
            go_wp2_with fail
            go_roundw
            case rel => exact ⟨i + 1, by omega, by go_num, by rw [HM2.out]; go_num, HAn, hBn⟩
            case measure => simp [intOf]; omega
    · obtain rfl : i = 256 := by omega
      have hd : decide ((256 : Int) < 256) = false := by decide
      have hfe := fullC_end p fold
      have hfl : (fullC p fold 256).length = 256 := fullC_len p fold (Nat.le_refl _)
      have hAl : wr.heap[w.heap.size + 2]? = some (.cells ((fullC p fold 256).map (Value.int .i64)).toArray 25 (0, 0)) := HAr.out
      have hz2 : wr.heap[w.heap.size + 1]? = some (.cells Tryz.zeroCells25 25 (0, 0)) := (HBr.out.block _ (by omega)).trans HZ1.out
      have hcl : clsP fold wss = fullC p fold 256 := by rw [hfe, ← HP.out]; rfl
      have hmn : manyP fold wss = (clsN p fold 256).2 := by rw [← HP.out]; rfl
      obtain ⟨Z, hZ⟩ : ∃ Z, fullC p fold 256 = Z := ⟨_, rfl⟩
      rw [hZ] at hfl hAl hcl
      obtain ⟨mm, hmm⟩ : ∃ m, (clsN p fold 256).2 = m := ⟨_, rfl⟩
      rw [hmm] at hmn ⊢
      have HCL := Lib.hid hcl
      have HMN := Lib.hid hmn
      have HAl := Lib.hid hAl
      have HZ2 := Lib.hid hz2
      have HIZ : Hid ((Tryz.prog.info? 25).map (·.size) = some (Z.map (Value.int .i64)).toArray.size) := by rw [Hid, rowI_size, hfl]; exact info25
      have HSZ : Hid ((Tryz.zeroCells25).size = (Z.map (Value.int .i64)).toArray.size) := by rw [Hid, zero25, rowI_size, rowI_size, hfl]; exact List.length_replicate
      have H2 := Lib.hid (setRow_heap wr (w.heap.size + 1) _ ((Z.map (Value.int .i64)).toArray) _ _ hz2)
      have HFL := Lib.hid hfl
      clear hfl hAl hz2 hcl hmn hZ hmm hfe
      go_upto_region 13 with fail
      go_wp2_with (first
        | (refine wpList_load_row rfl 25 _ rfl (w.heap.size + 2) rfl 25 _ (0, 0) _ HAl.out Tryz.underlying25 rfl HIZ.out ?_)
        | (refine wpList_store_row rfl 25 _ _ rfl (w.heap.size + 1) _ rfl rfl 25 _ HZ2.out HIZ.out HSZ.out (rowI_one Z) ?_))
      refine bodyPost_ret (results_row3 rfl rfl H2.out (by rw [rowI_size]; exact HFL.out)) rfl ?_
      exact ⟨by rw [HCL.out, HMN.out]; rfl, below_setRow (HBB.out.trans (HBr.out.mono (by omega))) (by omega) _⟩
end Go.Proofs.YtjfhefffbkpgkaaGreat

/- The document's table (layer 11), row by row: plain. -/

namespace Go.Proofs.YtjfhefffbkpgkaaGreat
set_option linter.unusedVariables false

/-- A node's row as the document fills it, byte by byte. -/
def rowC (fold : Bool) (ws : List (List Int)) (x : List Int) : Nat → List Int
  | 0 => List.replicate (manyP fold ws) 0
  | c + 1 => if wordQ ws (c : Int) = true then (rowC fold ws x c).set (clsO (inB fold ws) fold c) (goesV ws x (c : Int)) else rowC fold ws x c
theorem rowC_len (fold : Bool) (ws : List (List Int)) (x : List Int) : ∀ c, (rowC fold ws x c).length = manyP fold ws
  | 0 => by simp [rowC]
  | c + 1 => by
    unfold rowC
    split
    · rw [List.length_set]; exact rowC_len fold ws x c
    · exact rowC_len fold ws x c
theorem rowC_no {fold : Bool} {ws : List (List Int)} {x : List Int} {p : Nat} : ∀ {i : Nat}, (∀ d < i, wordB ws ((d : Nat) : Int) → clsO (inB fold ws) fold d ≠ p) → (rowC fold ws x i)[p]? = (List.replicate (manyP fold ws) (0 : Int))[p]?
  | 0, _ => rfl
  | i + 1, h => by
    have ih := rowC_no (fold := fold) (ws := ws) (x := x) (p := p) (i := i) (fun d hd => h d (by omega))
    unfold rowC
    split
    · rename_i hw
      rw [List.getElem?_set_ne (h i (by omega) (wordQ_iff.1 hw))]
      exact ih
    · exact ih
theorem rowC_yes {fold : Bool} {ws : List (List Int)} (hg : noGreat fold ws) (hb : ∀ x, wordB ws x → 0 ≤ x ∧ x ≤ 255) {x : List Int} {d : Nat} (hd : wordB ws (d : Int)) : ∀ {i : Nat}, d < i → (rowC fold ws x i)[clsO (inB fold ws) fold d]? = some (goesV ws x (d : Int))
  | 0, h => absurd h (Nat.not_lt_zero _)
  | i + 1, h => by
    have hlt : clsO (inB fold ws) fold d < manyP fold ws := clsO_lt (inB_shut hg) (inB_word hd) (by have := hb _ hd; omega)
    unfold rowC
    by_cases e : d = i
    · subst e
      rw [if_pos (wordQ_iff.2 hd), List.getElem?_set_self (by rw [rowC_len]; exact hlt)]
    · have ih := rowC_yes hg hb (x := x) hd (i := i) (by omega)
      split
      · rename_i hw
        have hw2 := wordQ_iff.1 hw
        rw [List.getElem?_set_ne (fun e2 => e (word_inj hg hw2 hd e2).symm)]
        exact ih
      · exact ih
/-- Each class is one of a word's byte. -/
theorem cls_surj {p : Int → Bool} {fold : Bool} {q : Nat} (h1 : 1 ≤ q) : ∀ {i : Nat}, q < (clsN p fold i).2 → ∃ j, j < i ∧ ownB p fold j ∧ (clsN p fold j).2 = q
  | 0, h => by have : q < 1 := h; omega
  | i + 1, h => by
    rw [clsN_succ] at h
    split at h
    · obtain ⟨j, h2, h3, h4⟩ := cls_surj h1 (i := i) h
      exact ⟨j, by omega, h3, h4⟩
    · rename_i hp
      split at h
      · obtain ⟨j, h2, h3, h4⟩ := cls_surj h1 (i := i) h
        exact ⟨j, by omega, h3, h4⟩
      · rename_i hs
        have h : q < (clsN p fold i).2 + 1 := h
        by_cases e : q = (clsN p fold i).2
        · exact ⟨i, by omega, ⟨by simpa using hp, by simpa using hs⟩, e.symm⟩
        · obtain ⟨j, h2, h3, h4⟩ := cls_surj h1 (i := i) (Nat.lt_of_le_of_ne (Nat.le_of_lt_succ h) e)
          exact ⟨j, by omega, h3, h4⟩
theorem word_surj {fold : Bool} {ws : List (List Int)} (hg : noGreat fold ws) {q : Nat} (h1 : 1 ≤ q) (h2 : q < manyP fold ws) : ∃ d : Nat, d < 256 ∧ wordB ws (d : Int) ∧ clsO (inB fold ws) fold d = q := by
  obtain ⟨j, hj, ⟨ho1, ho2⟩, hq⟩ := cls_surj h1 (i := 256) h2
  obtain ⟨d, hd, hd2⟩ := fcB_byte (fold := fold) hj
  refine ⟨d, hd2, ?_, ?_⟩
  · have := (inB_fc hg).1 ho1
    rwa [hd] at this
  · rw [← clsO_fc hd]
    unfold clsO repB
    rw [if_neg (by rw [ho2]; decide)]
    exact hq
/-- There is but one such row. -/
theorem rowC_only {fold : Bool} {ws : List (List Int)} (hg : noGreat fold ws) (hb : ∀ x, wordB ws x → 0 ≤ x ∧ x ≤ 255) {x r : List Int} (h : RowOK fold ws r x) : rowC fold ws x 256 = r := by
  obtain ⟨h1, h2, h3⟩ := h
  have hm := many_pos fold ws
  refine List.ext_getElem? fun p => ?_
  by_cases hp : p < manyP fold ws
  · by_cases h0 : p = 0
    · subst h0
      rw [rowC_no (fun d _ _ e => by have := clsO_pos (inB fold ws) fold d; omega), h2, List.getElem?_replicate, if_pos hp]
    · obtain ⟨d, hd, hw, rfl⟩ := word_surj hg (q := p) (by omega) hp
      rw [rowC_yes hg hb hw hd, h3 d hw]
  · rw [List.getElem?_eq_none (by rw [rowC_len]; omega), List.getElem?_eq_none (by omega)]
/-- The rows, one behind the other. -/
def rowsC (fold : Bool) (ws : List (List Int)) : Nat → List Int
  | 0 => []
  | k + 1 => rowsC fold ws k ++ rowC fold ws (((nodesL ws)[k]?).getD []) 256
theorem rowsC_len (fold : Bool) (ws : List (List Int)) : ∀ k, (rowsC fold ws k).length = k * manyP fold ws
  | 0 => by simp [rowsC]
  | k + 1 => by unfold rowsC; rw [List.length_append, rowsC_len fold ws k, rowC_len, Nat.succ_mul]
theorem rowsC_take {fold : Bool} {ws : List (List Int)} (h : OkT fold ws) : ∀ {k : Nat}, k ≤ (nodesL ws).length → rowsC fold ws k = (tabP fold ws).take (k * manyP fold ws)
  | 0, _ => by simp [rowsC]
  | k + 1, hk => by
    have ih := rowsC_take h (k := k) (by omega)
    obtain ⟨hl, hrow, _⟩ := tab_ok h.great h.byt (Nat.le_refl (nodesL ws).length)
    have hx := List.getElem?_eq_getElem (show k < (nodesL ws).length by omega)
    have hr := rowC_only h.great h.byt (hrow k (by omega) _ hx)
    unfold rowsC
    rw [ih, hx, Option.getD_some, hr, Nat.succ_mul, List.take_add]
    rfl
theorem rowsC_all {fold : Bool} {ws : List (List Int)} (h : OkT fold ws) : rowsC fold ws (nodesL ws).length = tabP fold ws := by
  rw [rowsC_take h (Nat.le_refl _), List.take_of_length_le]
  rw [tabP_len h, Nat.mul_comm]
  exact Nat.le_refl _
end Go.Proofs.YtjfhefffbkpgkaaGreat

/- The document's tables (layer 11): how many rows, where one goes on, whether two are the same; walked. Printed by exp.py. -/



namespace Go.Proofs.YtjfhefffbkpgkaaGreat
open Go.RowKit Go.Sort
set_option linter.unusedVariables false
set_option linter.unusedSimpArgs false

set_option maxRecDepth 100000 in
set_option maxHeartbeats 4000000 in
theorem rstates11_any (L : List Int) (m : Int) (a : Option Addr) (n c : Nat) (w : World) (hL : L.length = 256) (hn : n ≤ 1000000000000) :
    Calls Tryz.prog 18 #[.agg (dvC L m (.slice a n c)).toArray] w fun e w' => e = .returned (.int .i64 (statesZ m n)) ∧ Below w.heap.size w w' := by
  have hD := Dv.new w L m (.slice a n c) hL
  have hB : Below w.heap.size w (w.alloc (.cells (dvC L m (.slice a n c)).toArray 28)) := below_alloc _ _
  obtain ⟨W, hW⟩ : ∃ W, W = w.alloc (.cells (dvC L m (.slice a n c)).toArray 28) := ⟨_, rfl⟩
  rw [← hW] at hD hB
  obtain ⟨s1, s2⟩ := hD.cells
  obtain ⟨A, hA⟩ : ∃ A, (dvC L m (.slice a n c)).toArray = A := ⟨_, rfl⟩
  rw [hA] at hW ⊢
  clear hA hD
  by_cases hm : m < 1
  · have dm : decide (m < 1) = true := by simpa using hm
    have hz : statesZ m n = 0 := by unfold statesZ; rw [if_pos hm]
    rw [hz]
    clear hz hm
    go_enter Tryz.func18, Tryz.ntmps18
    go_upto_region 1 with fail
    rw [← hW]
    clear hW
    go_wp2_with fail
    go_ret
    exact ⟨rfl, hB⟩
  · have dm : decide (m < 1) = false := by simpa using hm
    obtain ⟨k, rfl⟩ : ∃ k : Nat, m = (k : Int) := ⟨m.toNat, by omega⟩
    have hz : statesZ k n = ((n / k : Nat) : Int) := by unfold statesZ; rw [if_neg hm]; exact (Int.natCast_ediv n k).symm
    rw [hz]
    have hk0 : ¬ ((k : Int) = 0) := by omega
    have hk1 : ((k : Int) == 0) = false := by simp; omega
    have hq : (n : Int).tdiv (k : Int) = ((n / k : Nat) : Int) := (Int.ofNat_tdiv n k).symm
    have hle : n / k ≤ n := Nat.div_le_self _ _
    have hwr : wrap64 ((n : Int) / (k : Int)) = ((n / k : Nat) : Int) := by
      have h2 : n / k ≤ 1000000000000 := Nat.le_trans hle hn
      rw [← Int.natCast_ediv]
      clear hq hk0 hk1 hle
      generalize n / k = d at h2 ⊢
      unfold wrap64
      omega
    have HWR := Lib.hid hwr
    clear hwr hq
    clear hz hm
    go_enter Tryz.func18, Tryz.ntmps18
    go_upto_region 1 with fail
    rw [← hW]
    clear hW
    go_wp2_with fail
    rw [HWR.out]
    go_ret
    exact ⟨rfl, hB⟩
set_option maxRecDepth 100000 in
set_option maxHeartbeats 8000000 in
theorem rnext11_any (L F : List Int) (m : Int) (a : Option Addr) (n c0 : Nat) (node : Int) (c : Nat) (w : World) (hL : L.length = 256) (hF : Sl1 (Value.int .i64) w a n F) (hn : n ≤ 1000000000) (hc : c < 256) :
    Calls Tryz.prog 13 #[.agg (dvC L m (.slice a n c0)).toArray, .int .i64 node, .int .u8 (c : Int)] w fun e w' => e = .returned (goDV (goD L m F node c)) ∧ Below w.heap.size w w' := by
  have hFl := hF.1
  obtain ⟨v, hv⟩ : ∃ v, L[c]? = some v := ⟨L[c]'(by omega), by simp⟩
  have hD := Dv.new w L m (.slice a n c0) hL
  have hB : Below w.heap.size w (w.alloc (.cells (dvC L m (.slice a n c0)).toArray 28)) := below_alloc _ _
  obtain ⟨W, hW⟩ : ∃ W, W = w.alloc (.cells (dvC L m (.slice a n c0)).toArray 28) := ⟨_, rfl⟩
  rw [← hW] at hD hB
  have HB := Lib.hid hB
  have KC : Hid (∀ V, RowKit.Below W.heap.size W V → V.cell? ⟨w.heap.size, c, none⟩ = some (.int .i64 v) ∧ V.cell? ⟨w.heap.size, 256, none⟩ = some (.int .i64 m) ∧ V.cell? ⟨w.heap.size, 257, none⟩ = some (.slice a n c0)) := fun V hV => by
    have h := hD.below hV
    exact ⟨h.cls hv, h.cells.1, h.cells.2⟩
  have HBX : Hid (∀ V, RowKit.Below W.heap.size W V → V.heap[w.heap.size]? = some (.cells (dvC L m (.slice a n c0)).toArray 28 (0, 0))) := fun V hV => (hD.below hV).box
  have hsz : (Tryz.prog.info? 28).map (·.size) = some (dvC L m (.slice a n c0)).toArray.size := by rw [dvC_size hL]; exact info28
  have HSt := Lib.hid (fun V => rstates11_any L m a n c0 V hL (by omega))
  have HF2 := Lib.hid (hF.below hB)
  have i1 : (0 : Int) ≤ (c : Int) := by omega
  have i2 : (c : Int) < 256 := by omega
  unfold goD
  rw [hv, Option.getD_some, hFl]
  obtain ⟨A, hA⟩ : ∃ A, (dvC L m (.slice a n c0)).toArray = A := ⟨_, rfl⟩
  rw [hA] at hW HBX hsz HSt ⊢
  have HSz := Lib.hid hsz
  obtain ⟨Z, hZ⟩ : ∃ Z, statesZ m n = Z := ⟨_, rfl⟩
  clear hA hD hF hFl hB hsz hv
  by_cases h0 : m < 1
  · rw [if_pos (by rcases Decidable.em (v < 0) with h | h; exact .inl (.inl h); exact .inl (.inr (by omega)))]
    have d0 : decide (m < 1) = true := by simpa using h0
    clear h0 hZ
    go_enter Tryz.func13, Tryz.ntmps13
    go_upto_region 1 with fail
    rw [← hW]
    clear hW
    refine wp_region_noPanic ?_
    refine wp_region_held_drew (S := RowKit.Below W.heap.size W) (by kernel_rfl) (bel_drewN W 1) (fun hHeld => ?_)
    refine wpAnyH_take (i := 0) (v := ?_) (by simp only [List.getElem?_toArray, List.getElem?_cons_zero, List.getElem?_cons_succ]; rfl) (by as_aux_lemma => kernel_rfl) (by as_aux_lemma => kernel_rfl) (by as_aux_lemma => kernel_rfl) (fun _ _ _ h => h) (Or.inl ⟨by rfl, ?_⟩) (by assumption) ?_
    rotate_left
    · intro V hV
      first | (go_simp; done) | (go_simp; with_reducible rfl)
    try simp only [Act.put, List.setIfInBounds_toArray, List.set_cons_zero, List.set_cons_succ]
    refine wpAnyH_take (i := 1) (v := ?_) (by simp only [List.getElem?_toArray, List.getElem?_cons_zero, List.getElem?_cons_succ]; rfl) (by as_aux_lemma => kernel_rfl) (by as_aux_lemma => kernel_rfl) (by as_aux_lemma => kernel_rfl) (fun _ _ _ h => h) (Or.inl ⟨by rfl, ?_⟩) (by assumption) ?_
    rotate_left
    · intro V hV
      obtain ⟨q0, q1, q2⟩ := KC.out V hV
      first | (go_simp; done) | (go_simp; with_reducible rfl)
    try simp only [Act.put, List.setIfInBounds_toArray, List.set_cons_zero, List.set_cons_succ]
    refine wpAnyH_take (i := 2) (v := ?_) (by simp only [List.getElem?_toArray, List.getElem?_cons_zero, List.getElem?_cons_succ]; rfl) (by as_aux_lemma => kernel_rfl) (by as_aux_lemma => kernel_rfl) (by as_aux_lemma => kernel_rfl) (fun _ _ _ h => h) (Or.inl ⟨by rfl, ?_⟩) (by assumption) ?_
    rotate_left
    · intro V hV
      first | (go_simp; done) | (go_simp; with_reducible rfl)
    try simp only [Act.put, List.setIfInBounds_toArray, List.set_cons_zero, List.set_cons_succ]
    refine wpAnyH_take (i := 3) (v := ?_) (by simp only [List.getElem?_toArray, List.getElem?_cons_zero, List.getElem?_cons_succ]; rfl) (by as_aux_lemma => kernel_rfl) (by as_aux_lemma => kernel_rfl) (by as_aux_lemma => kernel_rfl) (fun _ _ _ h => h) (Or.inl ⟨by rfl, ?_⟩) (by assumption) ?_
    rotate_left
    · intro V hV
      first | (go_simp; done) | (go_simp; with_reducible rfl)
    try simp only [Act.put, List.setIfInBounds_toArray, List.set_cons_zero, List.set_cons_succ]
    refine wpAnyH_take (i := 4) (v := undef) (by simp only [List.getElem?_toArray, List.getElem?_cons_zero, List.getElem?_cons_succ]; rfl) (by as_aux_lemma => kernel_rfl) (by as_aux_lemma => kernel_rfl) (by as_aux_lemma => kernel_rfl) (fun _ _ _ h => h) (Or.inr ⟨by rfl, rfl⟩) (by assumption) ?_
    try simp only [Act.put, List.setIfInBounds_toArray, List.set_cons_zero, List.set_cons_succ]
    refine wpAnyH_take (i := 5) (v := undef) (by simp only [List.getElem?_toArray, List.getElem?_cons_zero, List.getElem?_cons_succ]; rfl) (by as_aux_lemma => kernel_rfl) (by as_aux_lemma => kernel_rfl) (by as_aux_lemma => kernel_rfl) (fun _ _ _ h => h) (Or.inr ⟨by rfl, rfl⟩) (by assumption) ?_
    try simp only [Act.put, List.setIfInBounds_toArray, List.set_cons_zero, List.set_cons_succ]
    refine wpAnyH_take (i := 6) (v := undef) (by simp only [List.getElem?_toArray, List.getElem?_cons_zero, List.getElem?_cons_succ]; rfl) (by as_aux_lemma => kernel_rfl) (by as_aux_lemma => kernel_rfl) (by as_aux_lemma => kernel_rfl) (fun _ _ _ h => h) (Or.inr ⟨by rfl, rfl⟩) (by assumption) ?_
    try simp only [Act.put, List.setIfInBounds_toArray, List.set_cons_zero, List.set_cons_succ]
    refine wpAnyH_take (i := 7) (v := undef) (by simp only [List.getElem?_toArray, List.getElem?_cons_zero, List.getElem?_cons_succ]; rfl) (by as_aux_lemma => kernel_rfl) (by as_aux_lemma => kernel_rfl) (by as_aux_lemma => kernel_rfl) (fun _ _ _ h => h) (Or.inr ⟨by rfl, rfl⟩) (by assumption) ?_
    try simp only [Act.put, List.setIfInBounds_toArray, List.set_cons_zero, List.set_cons_succ]
    refine wpAnyH_take (i := 8) (v := undef) (by simp only [List.getElem?_toArray, List.getElem?_cons_zero, List.getElem?_cons_succ]; rfl) (by as_aux_lemma => kernel_rfl) (by as_aux_lemma => kernel_rfl) (by as_aux_lemma => kernel_rfl) (fun _ _ _ h => h) (Or.inr ⟨by rfl, rfl⟩) (by assumption) ?_
    try simp only [Act.put, List.setIfInBounds_toArray, List.set_cons_zero, List.set_cons_succ]
    refine wpAnyH_take (i := 9) (v := ?_) (by simp only [List.getElem?_toArray, List.getElem?_cons_zero, List.getElem?_cons_succ]; rfl) (by as_aux_lemma => kernel_rfl) (by as_aux_lemma => kernel_rfl) (by as_aux_lemma => kernel_rfl) (fun _ _ _ h => h) (Or.inl ⟨by rfl, ?_⟩) (by assumption) ?_
    rotate_left
    · intro V hV
      first | (go_simp; done) | (go_simp; with_reducible rfl)
    try simp only [Act.put, List.setIfInBounds_toArray, List.set_cons_zero, List.set_cons_succ]
    refine wpAnyH_take (i := 10) (v := ?_) (by simp only [List.getElem?_toArray, List.getElem?_cons_zero, List.getElem?_cons_succ]; rfl) (by as_aux_lemma => kernel_rfl) (by as_aux_lemma => kernel_rfl) (by as_aux_lemma => kernel_rfl) (fun _ _ _ h => h) (Or.inl ⟨by rfl, ?_⟩) (by assumption) ?_
    rotate_left
    · intro V hV
      first | (go_simp; done) | (go_simp; with_reducible rfl)
    try simp only [Act.put, List.setIfInBounds_toArray, List.set_cons_zero, List.set_cons_succ]
    refine wpAnyH_take (i := 11) (v := undef) (by simp only [List.getElem?_toArray, List.getElem?_cons_zero, List.getElem?_cons_succ]; rfl) (by as_aux_lemma => kernel_rfl) (by as_aux_lemma => kernel_rfl) (by as_aux_lemma => kernel_rfl) (fun _ _ _ h => h) (Or.inr ⟨by rfl, rfl⟩) (by assumption) ?_
    try simp only [Act.put, List.setIfInBounds_toArray, List.set_cons_zero, List.set_cons_succ]
    refine wpAnyH_take (i := 12) (v := undef) (by simp only [List.getElem?_toArray, List.getElem?_cons_zero, List.getElem?_cons_succ]; rfl) (by as_aux_lemma => kernel_rfl) (by as_aux_lemma => kernel_rfl) (by as_aux_lemma => kernel_rfl) (fun _ _ _ h => h) (Or.inr ⟨by rfl, rfl⟩) (by assumption) ?_
    try simp only [Act.put, List.setIfInBounds_toArray, List.set_cons_zero, List.set_cons_succ]
    refine wpAnyH_take (i := 13) (v := undef) (by simp only [List.getElem?_toArray, List.getElem?_cons_zero, List.getElem?_cons_succ]; rfl) (by as_aux_lemma => kernel_rfl) (by as_aux_lemma => kernel_rfl) (by as_aux_lemma => kernel_rfl) (fun _ _ _ h => h) (Or.inr ⟨by rfl, rfl⟩) (by assumption) ?_
    try simp only [Act.put, List.setIfInBounds_toArray, List.set_cons_zero, List.set_cons_succ]
    refine wpAnyH_take (i := 14) (v := undef) (by simp only [List.getElem?_toArray, List.getElem?_cons_zero, List.getElem?_cons_succ]; rfl) (by as_aux_lemma => kernel_rfl) (by as_aux_lemma => kernel_rfl) (by as_aux_lemma => kernel_rfl) (fun _ _ _ h => h) (Or.inr ⟨by rfl, rfl⟩) (by assumption) ?_
    try simp only [Act.put, List.setIfInBounds_toArray, List.set_cons_zero, List.set_cons_succ]
    refine wpAnyH_take (i := 15) (v := undef) (by simp only [List.getElem?_toArray, List.getElem?_cons_zero, List.getElem?_cons_succ]; rfl) (by as_aux_lemma => kernel_rfl) (by as_aux_lemma => kernel_rfl) (by as_aux_lemma => kernel_rfl) (fun _ _ _ h => h) (Or.inr ⟨by rfl, rfl⟩) (by assumption) ?_
    try simp only [Act.put, List.setIfInBounds_toArray, List.set_cons_zero, List.set_cons_succ]
    refine wpAnyH_take (i := 16) (v := undef) (by simp only [List.getElem?_toArray, List.getElem?_cons_zero, List.getElem?_cons_succ]; rfl) (by as_aux_lemma => kernel_rfl) (by as_aux_lemma => kernel_rfl) (by as_aux_lemma => kernel_rfl) (fun _ _ _ h => h) (Or.inr ⟨by rfl, rfl⟩) (by assumption) ?_
    try simp only [Act.put, List.setIfInBounds_toArray, List.set_cons_zero, List.set_cons_succ]
    refine wpAnyH_take (i := 17) (v := undef) (by simp only [List.getElem?_toArray, List.getElem?_cons_zero, List.getElem?_cons_succ]; rfl) (by as_aux_lemma => kernel_rfl) (by as_aux_lemma => kernel_rfl) (by as_aux_lemma => kernel_rfl) (fun _ _ _ h => h) (Or.inr ⟨by rfl, rfl⟩) (by assumption) ?_
    try simp only [Act.put, List.setIfInBounds_toArray, List.set_cons_zero, List.set_cons_succ]
    refine wpAnyH_take (i := 18) (v := ?_) (by simp only [List.getElem?_toArray, List.getElem?_cons_zero, List.getElem?_cons_succ]; rfl) (by as_aux_lemma => kernel_rfl) (by as_aux_lemma => kernel_rfl) (by as_aux_lemma => kernel_rfl) (fun _ _ _ h => h) (Or.inl ⟨by rfl, ?_⟩) (by assumption) ?_
    rotate_left
    · intro V hV
      first | (go_simp; done) | (go_simp; with_reducible rfl)
    try simp only [Act.put, List.setIfInBounds_toArray, List.set_cons_zero, List.set_cons_succ]
    refine wpAnyH_take (i := 19) (v := ?_) (by simp only [List.getElem?_toArray, List.getElem?_cons_zero, List.getElem?_cons_succ]; rfl) (by as_aux_lemma => kernel_rfl) (by as_aux_lemma => kernel_rfl) (by as_aux_lemma => kernel_rfl) (fun _ _ _ h => h) (Or.inl ⟨by rfl, ?_⟩) (by assumption) ?_
    rotate_left
    · intro V hV
      first | (go_simp; done) | (go_simp; with_reducible rfl)
    try simp only [Act.put, List.setIfInBounds_toArray, List.set_cons_zero, List.set_cons_succ]
    refine wpAnyH_take (i := 20) (v := undef) (by simp only [List.getElem?_toArray, List.getElem?_cons_zero, List.getElem?_cons_succ]; rfl) (by as_aux_lemma => kernel_rfl) (by as_aux_lemma => kernel_rfl) (by as_aux_lemma => kernel_rfl) (fun _ _ _ h => h) (Or.inr ⟨by rfl, rfl⟩) (by assumption) ?_
    try simp only [Act.put, List.setIfInBounds_toArray, List.set_cons_zero, List.set_cons_succ]
    refine wpAnyH_take (i := 21) (v := undef) (by simp only [List.getElem?_toArray, List.getElem?_cons_zero, List.getElem?_cons_succ]; rfl) (by as_aux_lemma => kernel_rfl) (by as_aux_lemma => kernel_rfl) (by as_aux_lemma => kernel_rfl) (fun _ _ _ h => h) (Or.inr ⟨by rfl, rfl⟩) (by assumption) ?_
    try simp only [Act.put, List.setIfInBounds_toArray, List.set_cons_zero, List.set_cons_succ]
    refine wpAnyH_take (i := 22) (v := ?_) (by simp only [List.getElem?_toArray, List.getElem?_cons_zero, List.getElem?_cons_succ]; rfl) (by as_aux_lemma => kernel_rfl) (by as_aux_lemma => kernel_rfl) (by as_aux_lemma => kernel_rfl) (fun _ _ _ h => h) (Or.inl ⟨by rfl, ?_⟩) (by assumption) ?_
    rotate_left
    · intro V hV
      first | (go_simp; done) | (go_simp; with_reducible rfl)
    try simp only [Act.put, List.setIfInBounds_toArray, List.set_cons_zero, List.set_cons_succ]
    refine wpAnyH_take (i := 23) (v := ?_) (by simp only [List.getElem?_toArray, List.getElem?_cons_zero, List.getElem?_cons_succ]; rfl) (by as_aux_lemma => kernel_rfl) (by as_aux_lemma => kernel_rfl) (by as_aux_lemma => kernel_rfl) (fun _ _ _ h => h) (Or.inl ⟨by rfl, ?_⟩) (by assumption) ?_
    rotate_left
    · intro V hV
      first | (go_simp; done) | (go_simp; with_reducible rfl)
    try simp only [Act.put, List.setIfInBounds_toArray, List.set_cons_zero, List.set_cons_succ]
    refine wpAnyH_take (i := 24) (v := undef) (by simp only [List.getElem?_toArray, List.getElem?_cons_zero, List.getElem?_cons_succ]; rfl) (by as_aux_lemma => kernel_rfl) (by as_aux_lemma => kernel_rfl) (by as_aux_lemma => kernel_rfl) (fun _ _ _ h => h) (Or.inr ⟨by rfl, rfl⟩) (by assumption) ?_
    try simp only [Act.put, List.setIfInBounds_toArray, List.set_cons_zero, List.set_cons_succ]
    refine wpAnyH_take (i := 25) (v := undef) (by simp only [List.getElem?_toArray, List.getElem?_cons_zero, List.getElem?_cons_succ]; rfl) (by as_aux_lemma => kernel_rfl) (by as_aux_lemma => kernel_rfl) (by as_aux_lemma => kernel_rfl) (fun _ _ _ h => h) (Or.inr ⟨by rfl, rfl⟩) (by assumption) ?_
    try simp only [Act.put, List.setIfInBounds_toArray, List.set_cons_zero, List.set_cons_succ]
    refine wpAnyH_take (i := 26) (v := undef) (by simp only [List.getElem?_toArray, List.getElem?_cons_zero, List.getElem?_cons_succ]; rfl) (by as_aux_lemma => kernel_rfl) (by as_aux_lemma => kernel_rfl) (by as_aux_lemma => kernel_rfl) (fun _ _ _ h => h) (Or.inr ⟨by rfl, rfl⟩) (by assumption) ?_
    try simp only [Act.put, List.setIfInBounds_toArray, List.set_cons_zero, List.set_cons_succ]
    refine wpAnyH_take (i := 27) (v := undef) (by simp only [List.getElem?_toArray, List.getElem?_cons_zero, List.getElem?_cons_succ]; rfl) (by as_aux_lemma => kernel_rfl) (by as_aux_lemma => kernel_rfl) (by as_aux_lemma => kernel_rfl) (fun _ _ _ h => h) (Or.inr ⟨by rfl, rfl⟩) (by assumption) ?_
    try simp only [Act.put, List.setIfInBounds_toArray, List.set_cons_zero, List.set_cons_succ]
    refine wpAnyH_take (i := 28) (v := ?_) (by simp only [List.getElem?_toArray, List.getElem?_cons_zero, List.getElem?_cons_succ]; rfl) (by as_aux_lemma => kernel_rfl) (by as_aux_lemma => kernel_rfl) (by as_aux_lemma => kernel_rfl) (fun _ _ _ h => h) (Or.inl ⟨by rfl, ?_⟩) (by assumption) ?_
    rotate_left
    · intro V hV
      first | (go_simp; done) | (go_simp; with_reducible rfl)
    try simp only [Act.put, List.setIfInBounds_toArray, List.set_cons_zero, List.set_cons_succ]
    refine wpAnyH_done (by kernel_rfl) ?_ _
    refine NoPanic.normal ?_
    go_wp2_with fail
    go_ret2
    exact ⟨rfl, HB.out.trans ((bel_drewN W 1).mono HB.out.size)⟩
  have d0 : decide (m < 1) = false := by simpa using h0
  by_cases h1 : v < 0
  · rw [if_pos (.inl (.inl h1))]
    have d1 : decide (v < 0) = true := by simpa using h1
    clear h0 h1 hZ
    go_enter Tryz.func13, Tryz.ntmps13
    go_upto_region 1 with fail
    rw [← hW]
    clear hW
    refine wp_region_noPanic ?_
    refine wp_region_held_drew (S := RowKit.Below W.heap.size W) (by kernel_rfl) (bel_drewN W 1) (fun hHeld => ?_)
    refine wpAnyH_take (i := 0) (v := ?_) (by simp only [List.getElem?_toArray, List.getElem?_cons_zero, List.getElem?_cons_succ]; rfl) (by as_aux_lemma => kernel_rfl) (by as_aux_lemma => kernel_rfl) (by as_aux_lemma => kernel_rfl) (fun _ _ _ h => h) (Or.inl ⟨by rfl, ?_⟩) (by assumption) ?_
    rotate_left
    · intro V hV
      first | (go_simp; done) | (go_simp; with_reducible rfl)
    try simp only [Act.put, List.setIfInBounds_toArray, List.set_cons_zero, List.set_cons_succ]
    refine wpAnyH_take (i := 1) (v := ?_) (by simp only [List.getElem?_toArray, List.getElem?_cons_zero, List.getElem?_cons_succ]; rfl) (by as_aux_lemma => kernel_rfl) (by as_aux_lemma => kernel_rfl) (by as_aux_lemma => kernel_rfl) (fun _ _ _ h => h) (Or.inl ⟨by rfl, ?_⟩) (by assumption) ?_
    rotate_left
    · intro V hV
      obtain ⟨q0, q1, q2⟩ := KC.out V hV
      first | (go_simp; done) | (go_simp; with_reducible rfl)
    try simp only [Act.put, List.setIfInBounds_toArray, List.set_cons_zero, List.set_cons_succ]
    refine wpAnyH_take (i := 2) (v := ?_) (by simp only [List.getElem?_toArray, List.getElem?_cons_zero, List.getElem?_cons_succ]; rfl) (by as_aux_lemma => kernel_rfl) (by as_aux_lemma => kernel_rfl) (by as_aux_lemma => kernel_rfl) (fun _ _ _ h => h) (Or.inl ⟨by rfl, ?_⟩) (by assumption) ?_
    rotate_left
    · intro V hV
      first | (go_simp; done) | (go_simp; with_reducible rfl)
    try simp only [Act.put, List.setIfInBounds_toArray, List.set_cons_zero, List.set_cons_succ]
    refine wpAnyH_take (i := 3) (v := ?_) (by simp only [List.getElem?_toArray, List.getElem?_cons_zero, List.getElem?_cons_succ]; rfl) (by as_aux_lemma => kernel_rfl) (by as_aux_lemma => kernel_rfl) (by as_aux_lemma => kernel_rfl) (fun _ _ _ h => h) (Or.inl ⟨by rfl, ?_⟩) (by assumption) ?_
    rotate_left
    · intro V hV
      first | (go_simp; done) | (go_simp; with_reducible rfl)
    try simp only [Act.put, List.setIfInBounds_toArray, List.set_cons_zero, List.set_cons_succ]
    refine wpAnyH_take (i := 4) (v := ?_) (by simp only [List.getElem?_toArray, List.getElem?_cons_zero, List.getElem?_cons_succ]; rfl) (by as_aux_lemma => kernel_rfl) (by as_aux_lemma => kernel_rfl) (by as_aux_lemma => kernel_rfl) (fun _ _ _ h => h) (Or.inl ⟨by rfl, ?_⟩) (by assumption) ?_
    rotate_left
    · intro V hV
      first | (go_simp; done) | (go_simp; with_reducible rfl)
    try simp only [Act.put, List.setIfInBounds_toArray, List.set_cons_zero, List.set_cons_succ]
    refine wpAnyH_take (i := 5) (v := ?_) (by simp only [List.getElem?_toArray, List.getElem?_cons_zero, List.getElem?_cons_succ]; rfl) (by as_aux_lemma => kernel_rfl) (by as_aux_lemma => kernel_rfl) (by as_aux_lemma => kernel_rfl) (fun _ _ _ h => h) (Or.inl ⟨by rfl, ?_⟩) (by assumption) ?_
    rotate_left
    · intro V hV
      first | (go_simp; done) | (go_simp; with_reducible rfl)
    try simp only [Act.put, List.setIfInBounds_toArray, List.set_cons_zero, List.set_cons_succ]
    refine wpAnyH_take (i := 6) (v := ?_) (by simp only [List.getElem?_toArray, List.getElem?_cons_zero, List.getElem?_cons_succ]; rfl) (by as_aux_lemma => kernel_rfl) (by as_aux_lemma => kernel_rfl) (by as_aux_lemma => kernel_rfl) (fun _ _ _ h => h) (Or.inl ⟨by rfl, ?_⟩) (by assumption) ?_
    rotate_left
    · intro V hV
      first | (go_simp; done) | (go_simp; with_reducible rfl)
    try simp only [Act.put, List.setIfInBounds_toArray, List.set_cons_zero, List.set_cons_succ]
    refine wpAnyH_take (i := 7) (v := ?_) (by simp only [List.getElem?_toArray, List.getElem?_cons_zero, List.getElem?_cons_succ]; rfl) (by as_aux_lemma => kernel_rfl) (by as_aux_lemma => kernel_rfl) (by as_aux_lemma => kernel_rfl) (fun _ _ _ h => h) (Or.inl ⟨by rfl, ?_⟩) (by assumption) ?_
    rotate_left
    · intro V hV
      obtain ⟨q0, q1, q2⟩ := KC.out V hV
      first | (go_simp; done) | (go_simp; with_reducible rfl)
    try simp only [Act.put, List.setIfInBounds_toArray, List.set_cons_zero, List.set_cons_succ]
    refine wpAnyH_take (i := 8) (v := ?_) (by simp only [List.getElem?_toArray, List.getElem?_cons_zero, List.getElem?_cons_succ]; rfl) (by as_aux_lemma => kernel_rfl) (by as_aux_lemma => kernel_rfl) (by as_aux_lemma => kernel_rfl) (fun _ _ _ h => h) (Or.inl ⟨by rfl, ?_⟩) (by assumption) ?_
    rotate_left
    · intro V hV
      first | (go_simp; done) | (go_simp; with_reducible rfl)
    try simp only [Act.put, List.setIfInBounds_toArray, List.set_cons_zero, List.set_cons_succ]
    refine wpAnyH_take (i := 9) (v := ?_) (by simp only [List.getElem?_toArray, List.getElem?_cons_zero, List.getElem?_cons_succ]; rfl) (by as_aux_lemma => kernel_rfl) (by as_aux_lemma => kernel_rfl) (by as_aux_lemma => kernel_rfl) (fun _ _ _ h => h) (Or.inl ⟨by rfl, ?_⟩) (by assumption) ?_
    rotate_left
    · intro V hV
      first | (go_simp; done) | (go_simp; with_reducible rfl)
    try simp only [Act.put, List.setIfInBounds_toArray, List.set_cons_zero, List.set_cons_succ]
    refine wpAnyH_take (i := 10) (v := ?_) (by simp only [List.getElem?_toArray, List.getElem?_cons_zero, List.getElem?_cons_succ]; rfl) (by as_aux_lemma => kernel_rfl) (by as_aux_lemma => kernel_rfl) (by as_aux_lemma => kernel_rfl) (fun _ _ _ h => h) (Or.inl ⟨by rfl, ?_⟩) (by assumption) ?_
    rotate_left
    · intro V hV
      first | (go_simp; done) | (go_simp; with_reducible rfl)
    try simp only [Act.put, List.setIfInBounds_toArray, List.set_cons_zero, List.set_cons_succ]
    refine wpAnyH_take (i := 11) (v := undef) (by simp only [List.getElem?_toArray, List.getElem?_cons_zero, List.getElem?_cons_succ]; rfl) (by as_aux_lemma => kernel_rfl) (by as_aux_lemma => kernel_rfl) (by as_aux_lemma => kernel_rfl) (fun _ _ _ h => h) (Or.inr ⟨by rfl, rfl⟩) (by assumption) ?_
    try simp only [Act.put, List.setIfInBounds_toArray, List.set_cons_zero, List.set_cons_succ]
    refine wpAnyH_take (i := 12) (v := undef) (by simp only [List.getElem?_toArray, List.getElem?_cons_zero, List.getElem?_cons_succ]; rfl) (by as_aux_lemma => kernel_rfl) (by as_aux_lemma => kernel_rfl) (by as_aux_lemma => kernel_rfl) (fun _ _ _ h => h) (Or.inr ⟨by rfl, rfl⟩) (by assumption) ?_
    try simp only [Act.put, List.setIfInBounds_toArray, List.set_cons_zero, List.set_cons_succ]
    refine wpAnyH_take (i := 13) (v := undef) (by simp only [List.getElem?_toArray, List.getElem?_cons_zero, List.getElem?_cons_succ]; rfl) (by as_aux_lemma => kernel_rfl) (by as_aux_lemma => kernel_rfl) (by as_aux_lemma => kernel_rfl) (fun _ _ _ h => h) (Or.inr ⟨by rfl, rfl⟩) (by assumption) ?_
    try simp only [Act.put, List.setIfInBounds_toArray, List.set_cons_zero, List.set_cons_succ]
    refine wpAnyH_take (i := 14) (v := undef) (by simp only [List.getElem?_toArray, List.getElem?_cons_zero, List.getElem?_cons_succ]; rfl) (by as_aux_lemma => kernel_rfl) (by as_aux_lemma => kernel_rfl) (by as_aux_lemma => kernel_rfl) (fun _ _ _ h => h) (Or.inr ⟨by rfl, rfl⟩) (by assumption) ?_
    try simp only [Act.put, List.setIfInBounds_toArray, List.set_cons_zero, List.set_cons_succ]
    refine wpAnyH_take (i := 15) (v := undef) (by simp only [List.getElem?_toArray, List.getElem?_cons_zero, List.getElem?_cons_succ]; rfl) (by as_aux_lemma => kernel_rfl) (by as_aux_lemma => kernel_rfl) (by as_aux_lemma => kernel_rfl) (fun _ _ _ h => h) (Or.inr ⟨by rfl, rfl⟩) (by assumption) ?_
    try simp only [Act.put, List.setIfInBounds_toArray, List.set_cons_zero, List.set_cons_succ]
    refine wpAnyH_take (i := 16) (v := undef) (by simp only [List.getElem?_toArray, List.getElem?_cons_zero, List.getElem?_cons_succ]; rfl) (by as_aux_lemma => kernel_rfl) (by as_aux_lemma => kernel_rfl) (by as_aux_lemma => kernel_rfl) (fun _ _ _ h => h) (Or.inr ⟨by rfl, rfl⟩) (by assumption) ?_
    try simp only [Act.put, List.setIfInBounds_toArray, List.set_cons_zero, List.set_cons_succ]
    refine wpAnyH_take (i := 17) (v := undef) (by simp only [List.getElem?_toArray, List.getElem?_cons_zero, List.getElem?_cons_succ]; rfl) (by as_aux_lemma => kernel_rfl) (by as_aux_lemma => kernel_rfl) (by as_aux_lemma => kernel_rfl) (fun _ _ _ h => h) (Or.inr ⟨by rfl, rfl⟩) (by assumption) ?_
    try simp only [Act.put, List.setIfInBounds_toArray, List.set_cons_zero, List.set_cons_succ]
    refine wpAnyH_take (i := 18) (v := ?_) (by simp only [List.getElem?_toArray, List.getElem?_cons_zero, List.getElem?_cons_succ]; rfl) (by as_aux_lemma => kernel_rfl) (by as_aux_lemma => kernel_rfl) (by as_aux_lemma => kernel_rfl) (fun _ _ _ h => h) (Or.inl ⟨by rfl, ?_⟩) (by assumption) ?_
    rotate_left
    · intro V hV
      first | (go_simp; done) | (go_simp; with_reducible rfl)
    try simp only [Act.put, List.setIfInBounds_toArray, List.set_cons_zero, List.set_cons_succ]
    refine wpAnyH_take (i := 19) (v := ?_) (by simp only [List.getElem?_toArray, List.getElem?_cons_zero, List.getElem?_cons_succ]; rfl) (by as_aux_lemma => kernel_rfl) (by as_aux_lemma => kernel_rfl) (by as_aux_lemma => kernel_rfl) (fun _ _ _ h => h) (Or.inl ⟨by rfl, ?_⟩) (by assumption) ?_
    rotate_left
    · intro V hV
      first | (go_simp; done) | (go_simp; with_reducible rfl)
    try simp only [Act.put, List.setIfInBounds_toArray, List.set_cons_zero, List.set_cons_succ]
    refine wpAnyH_take (i := 20) (v := undef) (by simp only [List.getElem?_toArray, List.getElem?_cons_zero, List.getElem?_cons_succ]; rfl) (by as_aux_lemma => kernel_rfl) (by as_aux_lemma => kernel_rfl) (by as_aux_lemma => kernel_rfl) (fun _ _ _ h => h) (Or.inr ⟨by rfl, rfl⟩) (by assumption) ?_
    try simp only [Act.put, List.setIfInBounds_toArray, List.set_cons_zero, List.set_cons_succ]
    refine wpAnyH_take (i := 21) (v := undef) (by simp only [List.getElem?_toArray, List.getElem?_cons_zero, List.getElem?_cons_succ]; rfl) (by as_aux_lemma => kernel_rfl) (by as_aux_lemma => kernel_rfl) (by as_aux_lemma => kernel_rfl) (fun _ _ _ h => h) (Or.inr ⟨by rfl, rfl⟩) (by assumption) ?_
    try simp only [Act.put, List.setIfInBounds_toArray, List.set_cons_zero, List.set_cons_succ]
    refine wpAnyH_take (i := 22) (v := ?_) (by simp only [List.getElem?_toArray, List.getElem?_cons_zero, List.getElem?_cons_succ]; rfl) (by as_aux_lemma => kernel_rfl) (by as_aux_lemma => kernel_rfl) (by as_aux_lemma => kernel_rfl) (fun _ _ _ h => h) (Or.inl ⟨by rfl, ?_⟩) (by assumption) ?_
    rotate_left
    · intro V hV
      first | (go_simp; done) | (go_simp; with_reducible rfl)
    try simp only [Act.put, List.setIfInBounds_toArray, List.set_cons_zero, List.set_cons_succ]
    refine wpAnyH_take (i := 23) (v := ?_) (by simp only [List.getElem?_toArray, List.getElem?_cons_zero, List.getElem?_cons_succ]; rfl) (by as_aux_lemma => kernel_rfl) (by as_aux_lemma => kernel_rfl) (by as_aux_lemma => kernel_rfl) (fun _ _ _ h => h) (Or.inl ⟨by rfl, ?_⟩) (by assumption) ?_
    rotate_left
    · intro V hV
      first | (go_simp; done) | (go_simp; with_reducible rfl)
    try simp only [Act.put, List.setIfInBounds_toArray, List.set_cons_zero, List.set_cons_succ]
    refine wpAnyH_take (i := 24) (v := undef) (by simp only [List.getElem?_toArray, List.getElem?_cons_zero, List.getElem?_cons_succ]; rfl) (by as_aux_lemma => kernel_rfl) (by as_aux_lemma => kernel_rfl) (by as_aux_lemma => kernel_rfl) (fun _ _ _ h => h) (Or.inr ⟨by rfl, rfl⟩) (by assumption) ?_
    try simp only [Act.put, List.setIfInBounds_toArray, List.set_cons_zero, List.set_cons_succ]
    refine wpAnyH_take (i := 25) (v := undef) (by simp only [List.getElem?_toArray, List.getElem?_cons_zero, List.getElem?_cons_succ]; rfl) (by as_aux_lemma => kernel_rfl) (by as_aux_lemma => kernel_rfl) (by as_aux_lemma => kernel_rfl) (fun _ _ _ h => h) (Or.inr ⟨by rfl, rfl⟩) (by assumption) ?_
    try simp only [Act.put, List.setIfInBounds_toArray, List.set_cons_zero, List.set_cons_succ]
    refine wpAnyH_take (i := 26) (v := undef) (by simp only [List.getElem?_toArray, List.getElem?_cons_zero, List.getElem?_cons_succ]; rfl) (by as_aux_lemma => kernel_rfl) (by as_aux_lemma => kernel_rfl) (by as_aux_lemma => kernel_rfl) (fun _ _ _ h => h) (Or.inr ⟨by rfl, rfl⟩) (by assumption) ?_
    try simp only [Act.put, List.setIfInBounds_toArray, List.set_cons_zero, List.set_cons_succ]
    refine wpAnyH_take (i := 27) (v := undef) (by simp only [List.getElem?_toArray, List.getElem?_cons_zero, List.getElem?_cons_succ]; rfl) (by as_aux_lemma => kernel_rfl) (by as_aux_lemma => kernel_rfl) (by as_aux_lemma => kernel_rfl) (fun _ _ _ h => h) (Or.inr ⟨by rfl, rfl⟩) (by assumption) ?_
    try simp only [Act.put, List.setIfInBounds_toArray, List.set_cons_zero, List.set_cons_succ]
    refine wpAnyH_take (i := 28) (v := ?_) (by simp only [List.getElem?_toArray, List.getElem?_cons_zero, List.getElem?_cons_succ]; rfl) (by as_aux_lemma => kernel_rfl) (by as_aux_lemma => kernel_rfl) (by as_aux_lemma => kernel_rfl) (fun _ _ _ h => h) (Or.inl ⟨by rfl, ?_⟩) (by assumption) ?_
    rotate_left
    · intro V hV
      first | (go_simp; done) | (go_simp; with_reducible rfl)
    try simp only [Act.put, List.setIfInBounds_toArray, List.set_cons_zero, List.set_cons_succ]
    refine wpAnyH_done (by kernel_rfl) ?_ _
    refine NoPanic.normal ?_
    go_wp2_with fail
    go_ret2
    exact ⟨rfl, HB.out.trans ((bel_drewN W 1).mono HB.out.size)⟩
  have d1 : decide (v < 0) = false := by simpa using h1
  by_cases h2 : m ≤ v
  · rw [if_pos (.inl (.inr h2))]
    have d2 : decide (m ≤ v) = true := by simpa using h2
    clear h0 h1 h2 hZ
    go_enter Tryz.func13, Tryz.ntmps13
    go_upto_region 1 with fail
    rw [← hW]
    clear hW
    refine wp_region_noPanic ?_
    refine wp_region_held_drew (S := RowKit.Below W.heap.size W) (by kernel_rfl) (bel_drewN W 1) (fun hHeld => ?_)
    refine wpAnyH_take (i := 0) (v := ?_) (by simp only [List.getElem?_toArray, List.getElem?_cons_zero, List.getElem?_cons_succ]; rfl) (by as_aux_lemma => kernel_rfl) (by as_aux_lemma => kernel_rfl) (by as_aux_lemma => kernel_rfl) (fun _ _ _ h => h) (Or.inl ⟨by rfl, ?_⟩) (by assumption) ?_
    rotate_left
    · intro V hV
      first | (go_simp; done) | (go_simp; with_reducible rfl)
    try simp only [Act.put, List.setIfInBounds_toArray, List.set_cons_zero, List.set_cons_succ]
    refine wpAnyH_take (i := 1) (v := ?_) (by simp only [List.getElem?_toArray, List.getElem?_cons_zero, List.getElem?_cons_succ]; rfl) (by as_aux_lemma => kernel_rfl) (by as_aux_lemma => kernel_rfl) (by as_aux_lemma => kernel_rfl) (fun _ _ _ h => h) (Or.inl ⟨by rfl, ?_⟩) (by assumption) ?_
    rotate_left
    · intro V hV
      obtain ⟨q0, q1, q2⟩ := KC.out V hV
      first | (go_simp; done) | (go_simp; with_reducible rfl)
    try simp only [Act.put, List.setIfInBounds_toArray, List.set_cons_zero, List.set_cons_succ]
    refine wpAnyH_take (i := 2) (v := ?_) (by simp only [List.getElem?_toArray, List.getElem?_cons_zero, List.getElem?_cons_succ]; rfl) (by as_aux_lemma => kernel_rfl) (by as_aux_lemma => kernel_rfl) (by as_aux_lemma => kernel_rfl) (fun _ _ _ h => h) (Or.inl ⟨by rfl, ?_⟩) (by assumption) ?_
    rotate_left
    · intro V hV
      first | (go_simp; done) | (go_simp; with_reducible rfl)
    try simp only [Act.put, List.setIfInBounds_toArray, List.set_cons_zero, List.set_cons_succ]
    refine wpAnyH_take (i := 3) (v := ?_) (by simp only [List.getElem?_toArray, List.getElem?_cons_zero, List.getElem?_cons_succ]; rfl) (by as_aux_lemma => kernel_rfl) (by as_aux_lemma => kernel_rfl) (by as_aux_lemma => kernel_rfl) (fun _ _ _ h => h) (Or.inl ⟨by rfl, ?_⟩) (by assumption) ?_
    rotate_left
    · intro V hV
      first | (go_simp; done) | (go_simp; with_reducible rfl)
    try simp only [Act.put, List.setIfInBounds_toArray, List.set_cons_zero, List.set_cons_succ]
    refine wpAnyH_take (i := 4) (v := ?_) (by simp only [List.getElem?_toArray, List.getElem?_cons_zero, List.getElem?_cons_succ]; rfl) (by as_aux_lemma => kernel_rfl) (by as_aux_lemma => kernel_rfl) (by as_aux_lemma => kernel_rfl) (fun _ _ _ h => h) (Or.inl ⟨by rfl, ?_⟩) (by assumption) ?_
    rotate_left
    · intro V hV
      first | (go_simp; done) | (go_simp; with_reducible rfl)
    try simp only [Act.put, List.setIfInBounds_toArray, List.set_cons_zero, List.set_cons_succ]
    refine wpAnyH_take (i := 5) (v := ?_) (by simp only [List.getElem?_toArray, List.getElem?_cons_zero, List.getElem?_cons_succ]; rfl) (by as_aux_lemma => kernel_rfl) (by as_aux_lemma => kernel_rfl) (by as_aux_lemma => kernel_rfl) (fun _ _ _ h => h) (Or.inl ⟨by rfl, ?_⟩) (by assumption) ?_
    rotate_left
    · intro V hV
      first | (go_simp; done) | (go_simp; with_reducible rfl)
    try simp only [Act.put, List.setIfInBounds_toArray, List.set_cons_zero, List.set_cons_succ]
    refine wpAnyH_take (i := 6) (v := ?_) (by simp only [List.getElem?_toArray, List.getElem?_cons_zero, List.getElem?_cons_succ]; rfl) (by as_aux_lemma => kernel_rfl) (by as_aux_lemma => kernel_rfl) (by as_aux_lemma => kernel_rfl) (fun _ _ _ h => h) (Or.inl ⟨by rfl, ?_⟩) (by assumption) ?_
    rotate_left
    · intro V hV
      first | (go_simp; done) | (go_simp; with_reducible rfl)
    try simp only [Act.put, List.setIfInBounds_toArray, List.set_cons_zero, List.set_cons_succ]
    refine wpAnyH_take (i := 7) (v := ?_) (by simp only [List.getElem?_toArray, List.getElem?_cons_zero, List.getElem?_cons_succ]; rfl) (by as_aux_lemma => kernel_rfl) (by as_aux_lemma => kernel_rfl) (by as_aux_lemma => kernel_rfl) (fun _ _ _ h => h) (Or.inl ⟨by rfl, ?_⟩) (by assumption) ?_
    rotate_left
    · intro V hV
      obtain ⟨q0, q1, q2⟩ := KC.out V hV
      first | (go_simp; done) | (go_simp; with_reducible rfl)
    try simp only [Act.put, List.setIfInBounds_toArray, List.set_cons_zero, List.set_cons_succ]
    refine wpAnyH_take (i := 8) (v := ?_) (by simp only [List.getElem?_toArray, List.getElem?_cons_zero, List.getElem?_cons_succ]; rfl) (by as_aux_lemma => kernel_rfl) (by as_aux_lemma => kernel_rfl) (by as_aux_lemma => kernel_rfl) (fun _ _ _ h => h) (Or.inl ⟨by rfl, ?_⟩) (by assumption) ?_
    rotate_left
    · intro V hV
      first | (go_simp; done) | (go_simp; with_reducible rfl)
    try simp only [Act.put, List.setIfInBounds_toArray, List.set_cons_zero, List.set_cons_succ]
    refine wpAnyH_take (i := 9) (v := ?_) (by simp only [List.getElem?_toArray, List.getElem?_cons_zero, List.getElem?_cons_succ]; rfl) (by as_aux_lemma => kernel_rfl) (by as_aux_lemma => kernel_rfl) (by as_aux_lemma => kernel_rfl) (fun _ _ _ h => h) (Or.inl ⟨by rfl, ?_⟩) (by assumption) ?_
    rotate_left
    · intro V hV
      first | (go_simp; done) | (go_simp; with_reducible rfl)
    try simp only [Act.put, List.setIfInBounds_toArray, List.set_cons_zero, List.set_cons_succ]
    refine wpAnyH_take (i := 10) (v := ?_) (by simp only [List.getElem?_toArray, List.getElem?_cons_zero, List.getElem?_cons_succ]; rfl) (by as_aux_lemma => kernel_rfl) (by as_aux_lemma => kernel_rfl) (by as_aux_lemma => kernel_rfl) (fun _ _ _ h => h) (Or.inl ⟨by rfl, ?_⟩) (by assumption) ?_
    rotate_left
    · intro V hV
      first | (go_simp; done) | (go_simp; with_reducible rfl)
    try simp only [Act.put, List.setIfInBounds_toArray, List.set_cons_zero, List.set_cons_succ]
    refine wpAnyH_take (i := 11) (v := ?_) (by simp only [List.getElem?_toArray, List.getElem?_cons_zero, List.getElem?_cons_succ]; rfl) (by as_aux_lemma => kernel_rfl) (by as_aux_lemma => kernel_rfl) (by as_aux_lemma => kernel_rfl) (fun _ _ _ h => h) (Or.inl ⟨by rfl, ?_⟩) (by assumption) ?_
    rotate_left
    · intro V hV
      first | (go_simp; done) | (go_simp; with_reducible rfl)
    try simp only [Act.put, List.setIfInBounds_toArray, List.set_cons_zero, List.set_cons_succ]
    refine wpAnyH_take (i := 12) (v := ?_) (by simp only [List.getElem?_toArray, List.getElem?_cons_zero, List.getElem?_cons_succ]; rfl) (by as_aux_lemma => kernel_rfl) (by as_aux_lemma => kernel_rfl) (by as_aux_lemma => kernel_rfl) (fun _ _ _ h => h) (Or.inl ⟨by rfl, ?_⟩) (by assumption) ?_
    rotate_left
    · intro V hV
      first | (go_simp; done) | (go_simp; with_reducible rfl)
    try simp only [Act.put, List.setIfInBounds_toArray, List.set_cons_zero, List.set_cons_succ]
    refine wpAnyH_take (i := 13) (v := ?_) (by simp only [List.getElem?_toArray, List.getElem?_cons_zero, List.getElem?_cons_succ]; rfl) (by as_aux_lemma => kernel_rfl) (by as_aux_lemma => kernel_rfl) (by as_aux_lemma => kernel_rfl) (fun _ _ _ h => h) (Or.inl ⟨by rfl, ?_⟩) (by assumption) ?_
    rotate_left
    · intro V hV
      first | (go_simp; done) | (go_simp; with_reducible rfl)
    try simp only [Act.put, List.setIfInBounds_toArray, List.set_cons_zero, List.set_cons_succ]
    refine wpAnyH_take (i := 14) (v := ?_) (by simp only [List.getElem?_toArray, List.getElem?_cons_zero, List.getElem?_cons_succ]; rfl) (by as_aux_lemma => kernel_rfl) (by as_aux_lemma => kernel_rfl) (by as_aux_lemma => kernel_rfl) (fun _ _ _ h => h) (Or.inl ⟨by rfl, ?_⟩) (by assumption) ?_
    rotate_left
    · intro V hV
      obtain ⟨q0, q1, q2⟩ := KC.out V hV
      first | (go_simp; done) | (go_simp; with_reducible rfl)
    try simp only [Act.put, List.setIfInBounds_toArray, List.set_cons_zero, List.set_cons_succ]
    refine wpAnyH_take (i := 15) (v := ?_) (by simp only [List.getElem?_toArray, List.getElem?_cons_zero, List.getElem?_cons_succ]; rfl) (by as_aux_lemma => kernel_rfl) (by as_aux_lemma => kernel_rfl) (by as_aux_lemma => kernel_rfl) (fun _ _ _ h => h) (Or.inl ⟨by rfl, ?_⟩) (by assumption) ?_
    rotate_left
    · intro V hV
      first | (go_simp; done) | (go_simp; with_reducible rfl)
    try simp only [Act.put, List.setIfInBounds_toArray, List.set_cons_zero, List.set_cons_succ]
    refine wpAnyH_take (i := 16) (v := ?_) (by simp only [List.getElem?_toArray, List.getElem?_cons_zero, List.getElem?_cons_succ]; rfl) (by as_aux_lemma => kernel_rfl) (by as_aux_lemma => kernel_rfl) (by as_aux_lemma => kernel_rfl) (fun _ _ _ h => h) (Or.inl ⟨by rfl, ?_⟩) (by assumption) ?_
    rotate_left
    · intro V hV
      obtain ⟨q0, q1, q2⟩ := KC.out V hV
      first | (go_simp; done) | (go_simp; with_reducible rfl)
    try simp only [Act.put, List.setIfInBounds_toArray, List.set_cons_zero, List.set_cons_succ]
    refine wpAnyH_take (i := 17) (v := ?_) (by simp only [List.getElem?_toArray, List.getElem?_cons_zero, List.getElem?_cons_succ]; rfl) (by as_aux_lemma => kernel_rfl) (by as_aux_lemma => kernel_rfl) (by as_aux_lemma => kernel_rfl) (fun _ _ _ h => h) (Or.inl ⟨by rfl, ?_⟩) (by assumption) ?_
    rotate_left
    · intro V hV
      first | (go_simp; done) | (go_simp; with_reducible rfl)
    try simp only [Act.put, List.setIfInBounds_toArray, List.set_cons_zero, List.set_cons_succ]
    refine wpAnyH_take (i := 18) (v := ?_) (by simp only [List.getElem?_toArray, List.getElem?_cons_zero, List.getElem?_cons_succ]; rfl) (by as_aux_lemma => kernel_rfl) (by as_aux_lemma => kernel_rfl) (by as_aux_lemma => kernel_rfl) (fun _ _ _ h => h) (Or.inl ⟨by rfl, ?_⟩) (by assumption) ?_
    rotate_left
    · intro V hV
      first | (go_simp; done) | (go_simp; with_reducible rfl)
    try simp only [Act.put, List.setIfInBounds_toArray, List.set_cons_zero, List.set_cons_succ]
    refine wpAnyH_take (i := 19) (v := ?_) (by simp only [List.getElem?_toArray, List.getElem?_cons_zero, List.getElem?_cons_succ]; rfl) (by as_aux_lemma => kernel_rfl) (by as_aux_lemma => kernel_rfl) (by as_aux_lemma => kernel_rfl) (fun _ _ _ h => h) (Or.inl ⟨by rfl, ?_⟩) (by assumption) ?_
    rotate_left
    · intro V hV
      first | (go_simp; done) | (go_simp; with_reducible rfl)
    try simp only [Act.put, List.setIfInBounds_toArray, List.set_cons_zero, List.set_cons_succ]
    refine wpAnyH_take (i := 20) (v := undef) (by simp only [List.getElem?_toArray, List.getElem?_cons_zero, List.getElem?_cons_succ]; rfl) (by as_aux_lemma => kernel_rfl) (by as_aux_lemma => kernel_rfl) (by as_aux_lemma => kernel_rfl) (fun _ _ _ h => h) (Or.inr ⟨by rfl, rfl⟩) (by assumption) ?_
    try simp only [Act.put, List.setIfInBounds_toArray, List.set_cons_zero, List.set_cons_succ]
    refine wpAnyH_take (i := 21) (v := undef) (by simp only [List.getElem?_toArray, List.getElem?_cons_zero, List.getElem?_cons_succ]; rfl) (by as_aux_lemma => kernel_rfl) (by as_aux_lemma => kernel_rfl) (by as_aux_lemma => kernel_rfl) (fun _ _ _ h => h) (Or.inr ⟨by rfl, rfl⟩) (by assumption) ?_
    try simp only [Act.put, List.setIfInBounds_toArray, List.set_cons_zero, List.set_cons_succ]
    refine wpAnyH_take (i := 22) (v := ?_) (by simp only [List.getElem?_toArray, List.getElem?_cons_zero, List.getElem?_cons_succ]; rfl) (by as_aux_lemma => kernel_rfl) (by as_aux_lemma => kernel_rfl) (by as_aux_lemma => kernel_rfl) (fun _ _ _ h => h) (Or.inl ⟨by rfl, ?_⟩) (by assumption) ?_
    rotate_left
    · intro V hV
      first | (go_simp; done) | (go_simp; with_reducible rfl)
    try simp only [Act.put, List.setIfInBounds_toArray, List.set_cons_zero, List.set_cons_succ]
    refine wpAnyH_take (i := 23) (v := ?_) (by simp only [List.getElem?_toArray, List.getElem?_cons_zero, List.getElem?_cons_succ]; rfl) (by as_aux_lemma => kernel_rfl) (by as_aux_lemma => kernel_rfl) (by as_aux_lemma => kernel_rfl) (fun _ _ _ h => h) (Or.inl ⟨by rfl, ?_⟩) (by assumption) ?_
    rotate_left
    · intro V hV
      first | (go_simp; done) | (go_simp; with_reducible rfl)
    try simp only [Act.put, List.setIfInBounds_toArray, List.set_cons_zero, List.set_cons_succ]
    refine wpAnyH_take (i := 24) (v := undef) (by simp only [List.getElem?_toArray, List.getElem?_cons_zero, List.getElem?_cons_succ]; rfl) (by as_aux_lemma => kernel_rfl) (by as_aux_lemma => kernel_rfl) (by as_aux_lemma => kernel_rfl) (fun _ _ _ h => h) (Or.inr ⟨by rfl, rfl⟩) (by assumption) ?_
    try simp only [Act.put, List.setIfInBounds_toArray, List.set_cons_zero, List.set_cons_succ]
    refine wpAnyH_take (i := 25) (v := undef) (by simp only [List.getElem?_toArray, List.getElem?_cons_zero, List.getElem?_cons_succ]; rfl) (by as_aux_lemma => kernel_rfl) (by as_aux_lemma => kernel_rfl) (by as_aux_lemma => kernel_rfl) (fun _ _ _ h => h) (Or.inr ⟨by rfl, rfl⟩) (by assumption) ?_
    try simp only [Act.put, List.setIfInBounds_toArray, List.set_cons_zero, List.set_cons_succ]
    refine wpAnyH_take (i := 26) (v := undef) (by simp only [List.getElem?_toArray, List.getElem?_cons_zero, List.getElem?_cons_succ]; rfl) (by as_aux_lemma => kernel_rfl) (by as_aux_lemma => kernel_rfl) (by as_aux_lemma => kernel_rfl) (fun _ _ _ h => h) (Or.inr ⟨by rfl, rfl⟩) (by assumption) ?_
    try simp only [Act.put, List.setIfInBounds_toArray, List.set_cons_zero, List.set_cons_succ]
    refine wpAnyH_take (i := 27) (v := undef) (by simp only [List.getElem?_toArray, List.getElem?_cons_zero, List.getElem?_cons_succ]; rfl) (by as_aux_lemma => kernel_rfl) (by as_aux_lemma => kernel_rfl) (by as_aux_lemma => kernel_rfl) (fun _ _ _ h => h) (Or.inr ⟨by rfl, rfl⟩) (by assumption) ?_
    try simp only [Act.put, List.setIfInBounds_toArray, List.set_cons_zero, List.set_cons_succ]
    refine wpAnyH_take (i := 28) (v := ?_) (by simp only [List.getElem?_toArray, List.getElem?_cons_zero, List.getElem?_cons_succ]; rfl) (by as_aux_lemma => kernel_rfl) (by as_aux_lemma => kernel_rfl) (by as_aux_lemma => kernel_rfl) (fun _ _ _ h => h) (Or.inl ⟨by rfl, ?_⟩) (by assumption) ?_
    rotate_left
    · intro V hV
      first | (go_simp; done) | (go_simp; with_reducible rfl)
    try simp only [Act.put, List.setIfInBounds_toArray, List.set_cons_zero, List.set_cons_succ]
    refine wpAnyH_done (by kernel_rfl) ?_ _
    refine NoPanic.normal ?_
    go_wp2_with fail
    go_ret2
    exact ⟨rfl, HB.out.trans ((bel_drewN W 1).mono HB.out.size)⟩
  have d2 : decide (m ≤ v) = false := by simpa using h2
  by_cases h3 : node < 0
  · rw [if_pos (.inr (.inl h3))]
    have d3 : decide (node < 0) = true := by simpa using h3
    clear h0 h1 h2 h3 hZ
    go_enter Tryz.func13, Tryz.ntmps13
    go_upto_region 1 with fail
    rw [← hW]
    clear hW
    refine wp_region_noPanic ?_
    refine wp_region_held_drew (S := RowKit.Below W.heap.size W) (by kernel_rfl) (bel_drewN W 1) (fun hHeld => ?_)
    refine wpAnyH_take (i := 0) (v := ?_) (by simp only [List.getElem?_toArray, List.getElem?_cons_zero, List.getElem?_cons_succ]; rfl) (by as_aux_lemma => kernel_rfl) (by as_aux_lemma => kernel_rfl) (by as_aux_lemma => kernel_rfl) (fun _ _ _ h => h) (Or.inl ⟨by rfl, ?_⟩) (by assumption) ?_
    rotate_left
    · intro V hV
      first | (go_simp; done) | (go_simp; with_reducible rfl)
    try simp only [Act.put, List.setIfInBounds_toArray, List.set_cons_zero, List.set_cons_succ]
    refine wpAnyH_take (i := 1) (v := ?_) (by simp only [List.getElem?_toArray, List.getElem?_cons_zero, List.getElem?_cons_succ]; rfl) (by as_aux_lemma => kernel_rfl) (by as_aux_lemma => kernel_rfl) (by as_aux_lemma => kernel_rfl) (fun _ _ _ h => h) (Or.inl ⟨by rfl, ?_⟩) (by assumption) ?_
    rotate_left
    · intro V hV
      obtain ⟨q0, q1, q2⟩ := KC.out V hV
      first | (go_simp; done) | (go_simp; with_reducible rfl)
    try simp only [Act.put, List.setIfInBounds_toArray, List.set_cons_zero, List.set_cons_succ]
    refine wpAnyH_take (i := 2) (v := ?_) (by simp only [List.getElem?_toArray, List.getElem?_cons_zero, List.getElem?_cons_succ]; rfl) (by as_aux_lemma => kernel_rfl) (by as_aux_lemma => kernel_rfl) (by as_aux_lemma => kernel_rfl) (fun _ _ _ h => h) (Or.inl ⟨by rfl, ?_⟩) (by assumption) ?_
    rotate_left
    · intro V hV
      first | (go_simp; done) | (go_simp; with_reducible rfl)
    try simp only [Act.put, List.setIfInBounds_toArray, List.set_cons_zero, List.set_cons_succ]
    refine wpAnyH_take (i := 3) (v := ?_) (by simp only [List.getElem?_toArray, List.getElem?_cons_zero, List.getElem?_cons_succ]; rfl) (by as_aux_lemma => kernel_rfl) (by as_aux_lemma => kernel_rfl) (by as_aux_lemma => kernel_rfl) (fun _ _ _ h => h) (Or.inl ⟨by rfl, ?_⟩) (by assumption) ?_
    rotate_left
    · intro V hV
      first | (go_simp; done) | (go_simp; with_reducible rfl)
    try simp only [Act.put, List.setIfInBounds_toArray, List.set_cons_zero, List.set_cons_succ]
    refine wpAnyH_take (i := 4) (v := ?_) (by simp only [List.getElem?_toArray, List.getElem?_cons_zero, List.getElem?_cons_succ]; rfl) (by as_aux_lemma => kernel_rfl) (by as_aux_lemma => kernel_rfl) (by as_aux_lemma => kernel_rfl) (fun _ _ _ h => h) (Or.inl ⟨by rfl, ?_⟩) (by assumption) ?_
    rotate_left
    · intro V hV
      first | (go_simp; done) | (go_simp; with_reducible rfl)
    try simp only [Act.put, List.setIfInBounds_toArray, List.set_cons_zero, List.set_cons_succ]
    refine wpAnyH_take (i := 5) (v := ?_) (by simp only [List.getElem?_toArray, List.getElem?_cons_zero, List.getElem?_cons_succ]; rfl) (by as_aux_lemma => kernel_rfl) (by as_aux_lemma => kernel_rfl) (by as_aux_lemma => kernel_rfl) (fun _ _ _ h => h) (Or.inl ⟨by rfl, ?_⟩) (by assumption) ?_
    rotate_left
    · intro V hV
      first | (go_simp; done) | (go_simp; with_reducible rfl)
    try simp only [Act.put, List.setIfInBounds_toArray, List.set_cons_zero, List.set_cons_succ]
    refine wpAnyH_take (i := 6) (v := ?_) (by simp only [List.getElem?_toArray, List.getElem?_cons_zero, List.getElem?_cons_succ]; rfl) (by as_aux_lemma => kernel_rfl) (by as_aux_lemma => kernel_rfl) (by as_aux_lemma => kernel_rfl) (fun _ _ _ h => h) (Or.inl ⟨by rfl, ?_⟩) (by assumption) ?_
    rotate_left
    · intro V hV
      first | (go_simp; done) | (go_simp; with_reducible rfl)
    try simp only [Act.put, List.setIfInBounds_toArray, List.set_cons_zero, List.set_cons_succ]
    refine wpAnyH_take (i := 7) (v := ?_) (by simp only [List.getElem?_toArray, List.getElem?_cons_zero, List.getElem?_cons_succ]; rfl) (by as_aux_lemma => kernel_rfl) (by as_aux_lemma => kernel_rfl) (by as_aux_lemma => kernel_rfl) (fun _ _ _ h => h) (Or.inl ⟨by rfl, ?_⟩) (by assumption) ?_
    rotate_left
    · intro V hV
      obtain ⟨q0, q1, q2⟩ := KC.out V hV
      first | (go_simp; done) | (go_simp; with_reducible rfl)
    try simp only [Act.put, List.setIfInBounds_toArray, List.set_cons_zero, List.set_cons_succ]
    refine wpAnyH_take (i := 8) (v := ?_) (by simp only [List.getElem?_toArray, List.getElem?_cons_zero, List.getElem?_cons_succ]; rfl) (by as_aux_lemma => kernel_rfl) (by as_aux_lemma => kernel_rfl) (by as_aux_lemma => kernel_rfl) (fun _ _ _ h => h) (Or.inl ⟨by rfl, ?_⟩) (by assumption) ?_
    rotate_left
    · intro V hV
      first | (go_simp; done) | (go_simp; with_reducible rfl)
    try simp only [Act.put, List.setIfInBounds_toArray, List.set_cons_zero, List.set_cons_succ]
    refine wpAnyH_take (i := 9) (v := ?_) (by simp only [List.getElem?_toArray, List.getElem?_cons_zero, List.getElem?_cons_succ]; rfl) (by as_aux_lemma => kernel_rfl) (by as_aux_lemma => kernel_rfl) (by as_aux_lemma => kernel_rfl) (fun _ _ _ h => h) (Or.inl ⟨by rfl, ?_⟩) (by assumption) ?_
    rotate_left
    · intro V hV
      first | (go_simp; done) | (go_simp; with_reducible rfl)
    try simp only [Act.put, List.setIfInBounds_toArray, List.set_cons_zero, List.set_cons_succ]
    refine wpAnyH_take (i := 10) (v := ?_) (by simp only [List.getElem?_toArray, List.getElem?_cons_zero, List.getElem?_cons_succ]; rfl) (by as_aux_lemma => kernel_rfl) (by as_aux_lemma => kernel_rfl) (by as_aux_lemma => kernel_rfl) (fun _ _ _ h => h) (Or.inl ⟨by rfl, ?_⟩) (by assumption) ?_
    rotate_left
    · intro V hV
      first | (go_simp; done) | (go_simp; with_reducible rfl)
    try simp only [Act.put, List.setIfInBounds_toArray, List.set_cons_zero, List.set_cons_succ]
    refine wpAnyH_take (i := 11) (v := ?_) (by simp only [List.getElem?_toArray, List.getElem?_cons_zero, List.getElem?_cons_succ]; rfl) (by as_aux_lemma => kernel_rfl) (by as_aux_lemma => kernel_rfl) (by as_aux_lemma => kernel_rfl) (fun _ _ _ h => h) (Or.inl ⟨by rfl, ?_⟩) (by assumption) ?_
    rotate_left
    · intro V hV
      first | (go_simp; done) | (go_simp; with_reducible rfl)
    try simp only [Act.put, List.setIfInBounds_toArray, List.set_cons_zero, List.set_cons_succ]
    refine wpAnyH_take (i := 12) (v := ?_) (by simp only [List.getElem?_toArray, List.getElem?_cons_zero, List.getElem?_cons_succ]; rfl) (by as_aux_lemma => kernel_rfl) (by as_aux_lemma => kernel_rfl) (by as_aux_lemma => kernel_rfl) (fun _ _ _ h => h) (Or.inl ⟨by rfl, ?_⟩) (by assumption) ?_
    rotate_left
    · intro V hV
      first | (go_simp; done) | (go_simp; with_reducible rfl)
    try simp only [Act.put, List.setIfInBounds_toArray, List.set_cons_zero, List.set_cons_succ]
    refine wpAnyH_take (i := 13) (v := ?_) (by simp only [List.getElem?_toArray, List.getElem?_cons_zero, List.getElem?_cons_succ]; rfl) (by as_aux_lemma => kernel_rfl) (by as_aux_lemma => kernel_rfl) (by as_aux_lemma => kernel_rfl) (fun _ _ _ h => h) (Or.inl ⟨by rfl, ?_⟩) (by assumption) ?_
    rotate_left
    · intro V hV
      first | (go_simp; done) | (go_simp; with_reducible rfl)
    try simp only [Act.put, List.setIfInBounds_toArray, List.set_cons_zero, List.set_cons_succ]
    refine wpAnyH_take (i := 14) (v := ?_) (by simp only [List.getElem?_toArray, List.getElem?_cons_zero, List.getElem?_cons_succ]; rfl) (by as_aux_lemma => kernel_rfl) (by as_aux_lemma => kernel_rfl) (by as_aux_lemma => kernel_rfl) (fun _ _ _ h => h) (Or.inl ⟨by rfl, ?_⟩) (by assumption) ?_
    rotate_left
    · intro V hV
      obtain ⟨q0, q1, q2⟩ := KC.out V hV
      first | (go_simp; done) | (go_simp; with_reducible rfl)
    try simp only [Act.put, List.setIfInBounds_toArray, List.set_cons_zero, List.set_cons_succ]
    refine wpAnyH_take (i := 15) (v := ?_) (by simp only [List.getElem?_toArray, List.getElem?_cons_zero, List.getElem?_cons_succ]; rfl) (by as_aux_lemma => kernel_rfl) (by as_aux_lemma => kernel_rfl) (by as_aux_lemma => kernel_rfl) (fun _ _ _ h => h) (Or.inl ⟨by rfl, ?_⟩) (by assumption) ?_
    rotate_left
    · intro V hV
      first | (go_simp; done) | (go_simp; with_reducible rfl)
    try simp only [Act.put, List.setIfInBounds_toArray, List.set_cons_zero, List.set_cons_succ]
    refine wpAnyH_take (i := 16) (v := ?_) (by simp only [List.getElem?_toArray, List.getElem?_cons_zero, List.getElem?_cons_succ]; rfl) (by as_aux_lemma => kernel_rfl) (by as_aux_lemma => kernel_rfl) (by as_aux_lemma => kernel_rfl) (fun _ _ _ h => h) (Or.inl ⟨by rfl, ?_⟩) (by assumption) ?_
    rotate_left
    · intro V hV
      obtain ⟨q0, q1, q2⟩ := KC.out V hV
      first | (go_simp; done) | (go_simp; with_reducible rfl)
    try simp only [Act.put, List.setIfInBounds_toArray, List.set_cons_zero, List.set_cons_succ]
    refine wpAnyH_take (i := 17) (v := ?_) (by simp only [List.getElem?_toArray, List.getElem?_cons_zero, List.getElem?_cons_succ]; rfl) (by as_aux_lemma => kernel_rfl) (by as_aux_lemma => kernel_rfl) (by as_aux_lemma => kernel_rfl) (fun _ _ _ h => h) (Or.inl ⟨by rfl, ?_⟩) (by assumption) ?_
    rotate_left
    · intro V hV
      first | (go_simp; done) | (go_simp; with_reducible rfl)
    try simp only [Act.put, List.setIfInBounds_toArray, List.set_cons_zero, List.set_cons_succ]
    refine wpAnyH_take (i := 18) (v := ?_) (by simp only [List.getElem?_toArray, List.getElem?_cons_zero, List.getElem?_cons_succ]; rfl) (by as_aux_lemma => kernel_rfl) (by as_aux_lemma => kernel_rfl) (by as_aux_lemma => kernel_rfl) (fun _ _ _ h => h) (Or.inl ⟨by rfl, ?_⟩) (by assumption) ?_
    rotate_left
    · intro V hV
      first | (go_simp; done) | (go_simp; with_reducible rfl)
    try simp only [Act.put, List.setIfInBounds_toArray, List.set_cons_zero, List.set_cons_succ]
    refine wpAnyH_take (i := 19) (v := ?_) (by simp only [List.getElem?_toArray, List.getElem?_cons_zero, List.getElem?_cons_succ]; rfl) (by as_aux_lemma => kernel_rfl) (by as_aux_lemma => kernel_rfl) (by as_aux_lemma => kernel_rfl) (fun _ _ _ h => h) (Or.inl ⟨by rfl, ?_⟩) (by assumption) ?_
    rotate_left
    · intro V hV
      first | (go_simp; done) | (go_simp; with_reducible rfl)
    try simp only [Act.put, List.setIfInBounds_toArray, List.set_cons_zero, List.set_cons_succ]
    refine wpAnyH_take (i := 20) (v := ?_) (by simp only [List.getElem?_toArray, List.getElem?_cons_zero, List.getElem?_cons_succ]; rfl) (by as_aux_lemma => kernel_rfl) (by as_aux_lemma => kernel_rfl) (by as_aux_lemma => kernel_rfl) (fun _ _ _ h => h) (Or.inl ⟨by rfl, ?_⟩) (by assumption) ?_
    rotate_left
    · intro V hV
      first | (go_simp; done) | (go_simp; with_reducible rfl)
    try simp only [Act.put, List.setIfInBounds_toArray, List.set_cons_zero, List.set_cons_succ]
    refine wpAnyH_take (i := 21) (v := ?_) (by simp only [List.getElem?_toArray, List.getElem?_cons_zero, List.getElem?_cons_succ]; rfl) (by as_aux_lemma => kernel_rfl) (by as_aux_lemma => kernel_rfl) (by as_aux_lemma => kernel_rfl) (fun _ _ _ h => h) (Or.inl ⟨by rfl, ?_⟩) (by assumption) ?_
    rotate_left
    · intro V hV
      first | (go_simp; done) | (go_simp; with_reducible rfl)
    try simp only [Act.put, List.setIfInBounds_toArray, List.set_cons_zero, List.set_cons_succ]
    refine wpAnyH_take (i := 22) (v := ?_) (by simp only [List.getElem?_toArray, List.getElem?_cons_zero, List.getElem?_cons_succ]; rfl) (by as_aux_lemma => kernel_rfl) (by as_aux_lemma => kernel_rfl) (by as_aux_lemma => kernel_rfl) (fun _ _ _ h => h) (Or.inl ⟨by rfl, ?_⟩) (by assumption) ?_
    rotate_left
    · intro V hV
      first | (go_simp; done) | (go_simp; with_reducible rfl)
    try simp only [Act.put, List.setIfInBounds_toArray, List.set_cons_zero, List.set_cons_succ]
    refine wpAnyH_take (i := 23) (v := ?_) (by simp only [List.getElem?_toArray, List.getElem?_cons_zero, List.getElem?_cons_succ]; rfl) (by as_aux_lemma => kernel_rfl) (by as_aux_lemma => kernel_rfl) (by as_aux_lemma => kernel_rfl) (fun _ _ _ h => h) (Or.inl ⟨by rfl, ?_⟩) (by assumption) ?_
    rotate_left
    · intro V hV
      first | (go_simp; done) | (go_simp; with_reducible rfl)
    try simp only [Act.put, List.setIfInBounds_toArray, List.set_cons_zero, List.set_cons_succ]
    refine wpAnyH_take (i := 24) (v := undef) (by simp only [List.getElem?_toArray, List.getElem?_cons_zero, List.getElem?_cons_succ]; rfl) (by as_aux_lemma => kernel_rfl) (by as_aux_lemma => kernel_rfl) (by as_aux_lemma => kernel_rfl) (fun _ _ _ h => h) (Or.inr ⟨by rfl, rfl⟩) (by assumption) ?_
    try simp only [Act.put, List.setIfInBounds_toArray, List.set_cons_zero, List.set_cons_succ]
    refine wpAnyH_take (i := 25) (v := undef) (by simp only [List.getElem?_toArray, List.getElem?_cons_zero, List.getElem?_cons_succ]; rfl) (by as_aux_lemma => kernel_rfl) (by as_aux_lemma => kernel_rfl) (by as_aux_lemma => kernel_rfl) (fun _ _ _ h => h) (Or.inr ⟨by rfl, rfl⟩) (by assumption) ?_
    try simp only [Act.put, List.setIfInBounds_toArray, List.set_cons_zero, List.set_cons_succ]
    refine wpAnyH_take (i := 26) (v := undef) (by simp only [List.getElem?_toArray, List.getElem?_cons_zero, List.getElem?_cons_succ]; rfl) (by as_aux_lemma => kernel_rfl) (by as_aux_lemma => kernel_rfl) (by as_aux_lemma => kernel_rfl) (fun _ _ _ h => h) (Or.inr ⟨by rfl, rfl⟩) (by assumption) ?_
    try simp only [Act.put, List.setIfInBounds_toArray, List.set_cons_zero, List.set_cons_succ]
    refine wpAnyH_take (i := 27) (v := undef) (by simp only [List.getElem?_toArray, List.getElem?_cons_zero, List.getElem?_cons_succ]; rfl) (by as_aux_lemma => kernel_rfl) (by as_aux_lemma => kernel_rfl) (by as_aux_lemma => kernel_rfl) (fun _ _ _ h => h) (Or.inr ⟨by rfl, rfl⟩) (by assumption) ?_
    try simp only [Act.put, List.setIfInBounds_toArray, List.set_cons_zero, List.set_cons_succ]
    refine wpAnyH_take (i := 28) (v := ?_) (by simp only [List.getElem?_toArray, List.getElem?_cons_zero, List.getElem?_cons_succ]; rfl) (by as_aux_lemma => kernel_rfl) (by as_aux_lemma => kernel_rfl) (by as_aux_lemma => kernel_rfl) (fun _ _ _ h => h) (Or.inl ⟨by rfl, ?_⟩) (by assumption) ?_
    rotate_left
    · intro V hV
      first | (go_simp; done) | (go_simp; with_reducible rfl)
    try simp only [Act.put, List.setIfInBounds_toArray, List.set_cons_zero, List.set_cons_succ]
    refine wpAnyH_done (by kernel_rfl) ?_ _
    refine NoPanic.normal ?_
    go_wp2_with fail
    go_ret2
    exact ⟨rfl, HB.out.trans ((bel_drewN W 1).mono HB.out.size)⟩
  have d3 : decide (node < 0) = false := by simpa using h3
  by_cases h4 : statesZ m n ≤ node
  · rw [if_pos (.inr (.inr h4))]
    rw [hZ] at h4 HSt
    have d4 : decide (Z ≤ node) = true := by simpa using h4
    clear h0 h1 h2 h3 h4 hZ
    go_enter Tryz.func13, Tryz.ntmps13
    go_upto_region 1 with fail
    rw [← hW]
    clear hW
    refine wp_region_noPanic ?_
    refine wp_region_held_drew (S := RowKit.Below W.heap.size W) (by kernel_rfl) (bel_drewN W 1) (fun hHeld => ?_)
    refine wpAnyH_take (i := 0) (v := ?_) (by simp only [List.getElem?_toArray, List.getElem?_cons_zero, List.getElem?_cons_succ]; rfl) (by as_aux_lemma => kernel_rfl) (by as_aux_lemma => kernel_rfl) (by as_aux_lemma => kernel_rfl) (fun _ _ _ h => h) (Or.inl ⟨by rfl, ?_⟩) (by assumption) ?_
    rotate_left
    · intro V hV
      first | (go_simp; done) | (go_simp; with_reducible rfl)
    try simp only [Act.put, List.setIfInBounds_toArray, List.set_cons_zero, List.set_cons_succ]
    refine wpAnyH_take (i := 1) (v := ?_) (by simp only [List.getElem?_toArray, List.getElem?_cons_zero, List.getElem?_cons_succ]; rfl) (by as_aux_lemma => kernel_rfl) (by as_aux_lemma => kernel_rfl) (by as_aux_lemma => kernel_rfl) (fun _ _ _ h => h) (Or.inl ⟨by rfl, ?_⟩) (by assumption) ?_
    rotate_left
    · intro V hV
      obtain ⟨q0, q1, q2⟩ := KC.out V hV
      first | (go_simp; done) | (go_simp; with_reducible rfl)
    try simp only [Act.put, List.setIfInBounds_toArray, List.set_cons_zero, List.set_cons_succ]
    refine wpAnyH_take (i := 2) (v := ?_) (by simp only [List.getElem?_toArray, List.getElem?_cons_zero, List.getElem?_cons_succ]; rfl) (by as_aux_lemma => kernel_rfl) (by as_aux_lemma => kernel_rfl) (by as_aux_lemma => kernel_rfl) (fun _ _ _ h => h) (Or.inl ⟨by rfl, ?_⟩) (by assumption) ?_
    rotate_left
    · intro V hV
      first | (go_simp; done) | (go_simp; with_reducible rfl)
    try simp only [Act.put, List.setIfInBounds_toArray, List.set_cons_zero, List.set_cons_succ]
    refine wpAnyH_take (i := 3) (v := ?_) (by simp only [List.getElem?_toArray, List.getElem?_cons_zero, List.getElem?_cons_succ]; rfl) (by as_aux_lemma => kernel_rfl) (by as_aux_lemma => kernel_rfl) (by as_aux_lemma => kernel_rfl) (fun _ _ _ h => h) (Or.inl ⟨by rfl, ?_⟩) (by assumption) ?_
    rotate_left
    · intro V hV
      first | (go_simp; done) | (go_simp; with_reducible rfl)
    try simp only [Act.put, List.setIfInBounds_toArray, List.set_cons_zero, List.set_cons_succ]
    refine wpAnyH_take (i := 4) (v := ?_) (by simp only [List.getElem?_toArray, List.getElem?_cons_zero, List.getElem?_cons_succ]; rfl) (by as_aux_lemma => kernel_rfl) (by as_aux_lemma => kernel_rfl) (by as_aux_lemma => kernel_rfl) (fun _ _ _ h => h) (Or.inl ⟨by rfl, ?_⟩) (by assumption) ?_
    rotate_left
    · intro V hV
      first | (go_simp; done) | (go_simp; with_reducible rfl)
    try simp only [Act.put, List.setIfInBounds_toArray, List.set_cons_zero, List.set_cons_succ]
    refine wpAnyH_take (i := 5) (v := ?_) (by simp only [List.getElem?_toArray, List.getElem?_cons_zero, List.getElem?_cons_succ]; rfl) (by as_aux_lemma => kernel_rfl) (by as_aux_lemma => kernel_rfl) (by as_aux_lemma => kernel_rfl) (fun _ _ _ h => h) (Or.inl ⟨by rfl, ?_⟩) (by assumption) ?_
    rotate_left
    · intro V hV
      first | (go_simp; done) | (go_simp; with_reducible rfl)
    try simp only [Act.put, List.setIfInBounds_toArray, List.set_cons_zero, List.set_cons_succ]
    refine wpAnyH_take (i := 6) (v := ?_) (by simp only [List.getElem?_toArray, List.getElem?_cons_zero, List.getElem?_cons_succ]; rfl) (by as_aux_lemma => kernel_rfl) (by as_aux_lemma => kernel_rfl) (by as_aux_lemma => kernel_rfl) (fun _ _ _ h => h) (Or.inl ⟨by rfl, ?_⟩) (by assumption) ?_
    rotate_left
    · intro V hV
      first | (go_simp; done) | (go_simp; with_reducible rfl)
    try simp only [Act.put, List.setIfInBounds_toArray, List.set_cons_zero, List.set_cons_succ]
    refine wpAnyH_take (i := 7) (v := ?_) (by simp only [List.getElem?_toArray, List.getElem?_cons_zero, List.getElem?_cons_succ]; rfl) (by as_aux_lemma => kernel_rfl) (by as_aux_lemma => kernel_rfl) (by as_aux_lemma => kernel_rfl) (fun _ _ _ h => h) (Or.inl ⟨by rfl, ?_⟩) (by assumption) ?_
    rotate_left
    · intro V hV
      obtain ⟨q0, q1, q2⟩ := KC.out V hV
      first | (go_simp; done) | (go_simp; with_reducible rfl)
    try simp only [Act.put, List.setIfInBounds_toArray, List.set_cons_zero, List.set_cons_succ]
    refine wpAnyH_take (i := 8) (v := ?_) (by simp only [List.getElem?_toArray, List.getElem?_cons_zero, List.getElem?_cons_succ]; rfl) (by as_aux_lemma => kernel_rfl) (by as_aux_lemma => kernel_rfl) (by as_aux_lemma => kernel_rfl) (fun _ _ _ h => h) (Or.inl ⟨by rfl, ?_⟩) (by assumption) ?_
    rotate_left
    · intro V hV
      first | (go_simp; done) | (go_simp; with_reducible rfl)
    try simp only [Act.put, List.setIfInBounds_toArray, List.set_cons_zero, List.set_cons_succ]
    refine wpAnyH_take (i := 9) (v := ?_) (by simp only [List.getElem?_toArray, List.getElem?_cons_zero, List.getElem?_cons_succ]; rfl) (by as_aux_lemma => kernel_rfl) (by as_aux_lemma => kernel_rfl) (by as_aux_lemma => kernel_rfl) (fun _ _ _ h => h) (Or.inl ⟨by rfl, ?_⟩) (by assumption) ?_
    rotate_left
    · intro V hV
      first | (go_simp; done) | (go_simp; with_reducible rfl)
    try simp only [Act.put, List.setIfInBounds_toArray, List.set_cons_zero, List.set_cons_succ]
    refine wpAnyH_take (i := 10) (v := ?_) (by simp only [List.getElem?_toArray, List.getElem?_cons_zero, List.getElem?_cons_succ]; rfl) (by as_aux_lemma => kernel_rfl) (by as_aux_lemma => kernel_rfl) (by as_aux_lemma => kernel_rfl) (fun _ _ _ h => h) (Or.inl ⟨by rfl, ?_⟩) (by assumption) ?_
    rotate_left
    · intro V hV
      first | (go_simp; done) | (go_simp; with_reducible rfl)
    try simp only [Act.put, List.setIfInBounds_toArray, List.set_cons_zero, List.set_cons_succ]
    refine wpAnyH_take (i := 11) (v := ?_) (by simp only [List.getElem?_toArray, List.getElem?_cons_zero, List.getElem?_cons_succ]; rfl) (by as_aux_lemma => kernel_rfl) (by as_aux_lemma => kernel_rfl) (by as_aux_lemma => kernel_rfl) (fun _ _ _ h => h) (Or.inl ⟨by rfl, ?_⟩) (by assumption) ?_
    rotate_left
    · intro V hV
      first | (go_simp; done) | (go_simp; with_reducible rfl)
    try simp only [Act.put, List.setIfInBounds_toArray, List.set_cons_zero, List.set_cons_succ]
    refine wpAnyH_take (i := 12) (v := ?_) (by simp only [List.getElem?_toArray, List.getElem?_cons_zero, List.getElem?_cons_succ]; rfl) (by as_aux_lemma => kernel_rfl) (by as_aux_lemma => kernel_rfl) (by as_aux_lemma => kernel_rfl) (fun _ _ _ h => h) (Or.inl ⟨by rfl, ?_⟩) (by assumption) ?_
    rotate_left
    · intro V hV
      first | (go_simp; done) | (go_simp; with_reducible rfl)
    try simp only [Act.put, List.setIfInBounds_toArray, List.set_cons_zero, List.set_cons_succ]
    refine wpAnyH_take (i := 13) (v := ?_) (by simp only [List.getElem?_toArray, List.getElem?_cons_zero, List.getElem?_cons_succ]; rfl) (by as_aux_lemma => kernel_rfl) (by as_aux_lemma => kernel_rfl) (by as_aux_lemma => kernel_rfl) (fun _ _ _ h => h) (Or.inl ⟨by rfl, ?_⟩) (by assumption) ?_
    rotate_left
    · intro V hV
      first | (go_simp; done) | (go_simp; with_reducible rfl)
    try simp only [Act.put, List.setIfInBounds_toArray, List.set_cons_zero, List.set_cons_succ]
    refine wpAnyH_take (i := 14) (v := ?_) (by simp only [List.getElem?_toArray, List.getElem?_cons_zero, List.getElem?_cons_succ]; rfl) (by as_aux_lemma => kernel_rfl) (by as_aux_lemma => kernel_rfl) (by as_aux_lemma => kernel_rfl) (fun _ _ _ h => h) (Or.inl ⟨by rfl, ?_⟩) (by assumption) ?_
    rotate_left
    · intro V hV
      obtain ⟨q0, q1, q2⟩ := KC.out V hV
      first | (go_simp; done) | (go_simp; with_reducible rfl)
    try simp only [Act.put, List.setIfInBounds_toArray, List.set_cons_zero, List.set_cons_succ]
    refine wpAnyH_take (i := 15) (v := ?_) (by simp only [List.getElem?_toArray, List.getElem?_cons_zero, List.getElem?_cons_succ]; rfl) (by as_aux_lemma => kernel_rfl) (by as_aux_lemma => kernel_rfl) (by as_aux_lemma => kernel_rfl) (fun _ _ _ h => h) (Or.inl ⟨by rfl, ?_⟩) (by assumption) ?_
    rotate_left
    · intro V hV
      first | (go_simp; done) | (go_simp; with_reducible rfl)
    try simp only [Act.put, List.setIfInBounds_toArray, List.set_cons_zero, List.set_cons_succ]
    refine wpAnyH_take (i := 16) (v := ?_) (by simp only [List.getElem?_toArray, List.getElem?_cons_zero, List.getElem?_cons_succ]; rfl) (by as_aux_lemma => kernel_rfl) (by as_aux_lemma => kernel_rfl) (by as_aux_lemma => kernel_rfl) (fun _ _ _ h => h) (Or.inl ⟨by rfl, ?_⟩) (by assumption) ?_
    rotate_left
    · intro V hV
      obtain ⟨q0, q1, q2⟩ := KC.out V hV
      first | (go_simp; done) | (go_simp; with_reducible rfl)
    try simp only [Act.put, List.setIfInBounds_toArray, List.set_cons_zero, List.set_cons_succ]
    refine wpAnyH_take (i := 17) (v := ?_) (by simp only [List.getElem?_toArray, List.getElem?_cons_zero, List.getElem?_cons_succ]; rfl) (by as_aux_lemma => kernel_rfl) (by as_aux_lemma => kernel_rfl) (by as_aux_lemma => kernel_rfl) (fun _ _ _ h => h) (Or.inl ⟨by rfl, ?_⟩) (by assumption) ?_
    rotate_left
    · intro V hV
      first | (go_simp; done) | (go_simp; with_reducible rfl)
    try simp only [Act.put, List.setIfInBounds_toArray, List.set_cons_zero, List.set_cons_succ]
    refine wpAnyH_take (i := 18) (v := ?_) (by simp only [List.getElem?_toArray, List.getElem?_cons_zero, List.getElem?_cons_succ]; rfl) (by as_aux_lemma => kernel_rfl) (by as_aux_lemma => kernel_rfl) (by as_aux_lemma => kernel_rfl) (fun _ _ _ h => h) (Or.inl ⟨by rfl, ?_⟩) (by assumption) ?_
    rotate_left
    · intro V hV
      first | (go_simp; done) | (go_simp; with_reducible rfl)
    try simp only [Act.put, List.setIfInBounds_toArray, List.set_cons_zero, List.set_cons_succ]
    refine wpAnyH_take (i := 19) (v := ?_) (by simp only [List.getElem?_toArray, List.getElem?_cons_zero, List.getElem?_cons_succ]; rfl) (by as_aux_lemma => kernel_rfl) (by as_aux_lemma => kernel_rfl) (by as_aux_lemma => kernel_rfl) (fun _ _ _ h => h) (Or.inl ⟨by rfl, ?_⟩) (by assumption) ?_
    rotate_left
    · intro V hV
      first | (go_simp; done) | (go_simp; with_reducible rfl)
    try simp only [Act.put, List.setIfInBounds_toArray, List.set_cons_zero, List.set_cons_succ]
    refine wpAnyH_take (i := 20) (v := ?_) (by simp only [List.getElem?_toArray, List.getElem?_cons_zero, List.getElem?_cons_succ]; rfl) (by as_aux_lemma => kernel_rfl) (by as_aux_lemma => kernel_rfl) (by as_aux_lemma => kernel_rfl) (fun _ _ _ h => h) (Or.inl ⟨by rfl, ?_⟩) (by assumption) ?_
    rotate_left
    · intro V hV
      first | (go_simp; done) | (go_simp; with_reducible rfl)
    try simp only [Act.put, List.setIfInBounds_toArray, List.set_cons_zero, List.set_cons_succ]
    refine wpAnyH_take (i := 21) (v := ?_) (by simp only [List.getElem?_toArray, List.getElem?_cons_zero, List.getElem?_cons_succ]; rfl) (by as_aux_lemma => kernel_rfl) (by as_aux_lemma => kernel_rfl) (by as_aux_lemma => kernel_rfl) (fun _ _ _ h => h) (Or.inl ⟨by rfl, ?_⟩) (by assumption) ?_
    rotate_left
    · intro V hV
      first | (go_simp; done) | (go_simp; with_reducible rfl)
    try simp only [Act.put, List.setIfInBounds_toArray, List.set_cons_zero, List.set_cons_succ]
    refine wpAnyH_take (i := 22) (v := ?_) (by simp only [List.getElem?_toArray, List.getElem?_cons_zero, List.getElem?_cons_succ]; rfl) (by as_aux_lemma => kernel_rfl) (by as_aux_lemma => kernel_rfl) (by as_aux_lemma => kernel_rfl) (fun _ _ _ h => h) (Or.inl ⟨by rfl, ?_⟩) (by assumption) ?_
    rotate_left
    · intro V hV
      first | (go_simp; done) | (go_simp; with_reducible rfl)
    try simp only [Act.put, List.setIfInBounds_toArray, List.set_cons_zero, List.set_cons_succ]
    refine wpAnyH_take (i := 23) (v := ?_) (by simp only [List.getElem?_toArray, List.getElem?_cons_zero, List.getElem?_cons_succ]; rfl) (by as_aux_lemma => kernel_rfl) (by as_aux_lemma => kernel_rfl) (by as_aux_lemma => kernel_rfl) (fun _ _ _ h => h) (Or.inl ⟨by rfl, ?_⟩) (by assumption) ?_
    rotate_left
    · intro V hV
      first | (go_simp; done) | (go_simp; with_reducible rfl)
    try simp only [Act.put, List.setIfInBounds_toArray, List.set_cons_zero, List.set_cons_succ]
    refine wpAnyH_take (i := 24) (v := ?_) (by simp only [List.getElem?_toArray, List.getElem?_cons_zero, List.getElem?_cons_succ]; rfl) (by as_aux_lemma => kernel_rfl) (by as_aux_lemma => kernel_rfl) (by as_aux_lemma => kernel_rfl) (fun _ _ _ h => h) (Or.inl ⟨by rfl, ?_⟩) (by assumption) ?_
    rotate_left
    · intro V hV
      first | (go_simp; done) | (go_simp; with_reducible rfl)
    try simp only [Act.put, List.setIfInBounds_toArray, List.set_cons_zero, List.set_cons_succ]
    refine' wpAnyH_take (i := 25) (v := _) (by simp only [List.getElem?_toArray, List.getElem?_cons_zero, List.getElem?_cons_succ]; rfl) (by as_aux_lemma => kernel_rfl) (by as_aux_lemma => kernel_rfl) (by as_aux_lemma => kernel_rfl) (fun _ _ _ h => h) (yieldsIf_load_row (by rfl) _ _ rfl w.heap.size rfl 28 A (0, 0) _ HBX.out Tryz.underlying28 rfl HSz.out) (by assumption) ?_
    try simp only [Act.put, List.setIfInBounds_toArray, List.set_cons_zero, List.set_cons_succ]
    refine wpAnyH_one (i := 26) (vi := .int .i64 Z) (by simp only [List.getElem?_toArray, List.getElem?_cons_zero, List.getElem?_cons_succ]; rfl) (by as_aux_lemma => kernel_rfl) ?_ ?_ _ hHeld
    · intro V hV K hK
      try simp only [Act.put, List.setIfInBounds_toArray, List.set_cons_zero, List.set_cons_succ] at hK
      go_simp
      go_at_call 18; refine (HSt.out V).mono ?_; rintro e w2 ⟨rfl, hb2⟩; exact hK _ (hV.trans (hb2.mono hV.size))
    clear hHeld
    intro V1 hHeld
    try simp only [Act.put, List.setIfInBounds_toArray, List.set_cons_zero, List.set_cons_succ]
    refine wpAnyH_take (i := 27) (v := ?_) (by simp only [List.getElem?_toArray, List.getElem?_cons_zero, List.getElem?_cons_succ]; rfl) (by as_aux_lemma => kernel_rfl) (by as_aux_lemma => kernel_rfl) (by as_aux_lemma => kernel_rfl) (fun _ _ _ h => h) (Or.inl ⟨by rfl, ?_⟩) (by assumption) ?_
    rotate_left
    · intro V hV
      first | (go_simp; done) | (go_simp; with_reducible rfl)
    try simp only [Act.put, List.setIfInBounds_toArray, List.set_cons_zero, List.set_cons_succ]
    refine wpAnyH_take (i := 28) (v := ?_) (by simp only [List.getElem?_toArray, List.getElem?_cons_zero, List.getElem?_cons_succ]; rfl) (by as_aux_lemma => kernel_rfl) (by as_aux_lemma => kernel_rfl) (by as_aux_lemma => kernel_rfl) (fun _ _ _ h => h) (Or.inl ⟨by rfl, ?_⟩) (by assumption) ?_
    rotate_left
    · intro V hV
      first | (go_simp; done) | (go_simp; with_reducible rfl)
    try simp only [Act.put, List.setIfInBounds_toArray, List.set_cons_zero, List.set_cons_succ]
    refine wpAnyH_done (by kernel_rfl) ?_ _
    refine NoPanic.normal ?_
    go_wp2_with fail
    go_ret2
    exact ⟨rfl, HB.out.trans ((hHeld).mono HB.out.size)⟩
  rw [if_neg (by rintro ((h | h) | (h | h)) <;> contradiction)]
  obtain ⟨j, rfl⟩ : ∃ j : Nat, node = (j : Int) := ⟨node.toNat, by omega⟩
  obtain ⟨v, rfl⟩ : ∃ k : Nat, v = (k : Int) := ⟨v.toNat, by omega⟩
  obtain ⟨m, rfl⟩ : ∃ k : Nat, m = (k : Int) := ⟨m.toNat, by omega⟩
  have hfit := states_fit (m := m) (j := j) (n := n) (by omega)
  rw [hZ] at h4 HSt
  have hk : (((j : Int) * (m : Int) + (v : Int)).toNat) = j * m + v := by rw [← Int.natCast_mul]; omega
  rw [hk]
  have c1 : (j : Int) * (m : Int) = ((j * m : Nat) : Int) := (Int.natCast_mul _ _).symm
  obtain ⟨P, hP⟩ : ∃ P, j * m = P := ⟨_, rfl⟩
  rw [hP] at c1 hfit ⊢
  have l1 : P + v < n := by omega
  obtain ⟨b0, o0, x, ha, hlt, cx, hx⟩ := sl1_at HF2.out l1
  subst ha
  rw [hx]
  have HC := Lib.hid c1
  have HX := Lib.hid hx
  have d4 : decide (Z ≤ (j : Int)) = false := by simpa using h4
  have d0' : decide (m < 1) = false := by simp; omega
  have d0a : decide (m = 0) = false := by simp; omega
  have d0b : (m == 0) = false := by simp; omega
  have d5 : decide (m ≤ v) = false := by simp; omega
  have d8 : decide ((v : Int) < 0) = false := by simp
  have d9 : decide ((j : Int) < 0) = false := by simp
  have KR : Hid (∀ V, RowKit.Below W.heap.size W V → V.cell? ⟨b0, o0 + (P + v), none⟩ = some (.int .i64 x)) := fun V hV => (World.cell?_of_block (hV.block _ hlt)).trans cx
  clear h1 h2 h3 h4 hZ c1 hP hk hx cx hlt hfit d1 d3 h0
  go_enter Tryz.func13, Tryz.ntmps13
  go_upto_region 1 with fail
  rw [← hW]
  clear hW
  refine wp_region_noPanic ?_
  refine wp_region_held_drew (S := RowKit.Below W.heap.size W) (by kernel_rfl) (bel_drewN W 1) (fun hHeld => ?_)
  refine wpAnyH_take (i := 0) (v := ?_) (by simp only [List.getElem?_toArray, List.getElem?_cons_zero, List.getElem?_cons_succ]; rfl) (by as_aux_lemma => kernel_rfl) (by as_aux_lemma => kernel_rfl) (by as_aux_lemma => kernel_rfl) (fun _ _ _ h => h) (Or.inl ⟨by rfl, ?_⟩) (by assumption) ?_
  rotate_left
  · intro V hV
    first | (go_simp; done) | (go_simp; with_reducible rfl)
  try simp only [Act.put, List.setIfInBounds_toArray, List.set_cons_zero, List.set_cons_succ]
  refine wpAnyH_take (i := 1) (v := ?_) (by simp only [List.getElem?_toArray, List.getElem?_cons_zero, List.getElem?_cons_succ]; rfl) (by as_aux_lemma => kernel_rfl) (by as_aux_lemma => kernel_rfl) (by as_aux_lemma => kernel_rfl) (fun _ _ _ h => h) (Or.inl ⟨by rfl, ?_⟩) (by assumption) ?_
  rotate_left
  · intro V hV
    obtain ⟨q0, q1, q2⟩ := KC.out V hV
    first | (go_simp; done) | (go_simp; with_reducible rfl)
  try simp only [Act.put, List.setIfInBounds_toArray, List.set_cons_zero, List.set_cons_succ]
  refine wpAnyH_take (i := 2) (v := ?_) (by simp only [List.getElem?_toArray, List.getElem?_cons_zero, List.getElem?_cons_succ]; rfl) (by as_aux_lemma => kernel_rfl) (by as_aux_lemma => kernel_rfl) (by as_aux_lemma => kernel_rfl) (fun _ _ _ h => h) (Or.inl ⟨by rfl, ?_⟩) (by assumption) ?_
  rotate_left
  · intro V hV
    first | (go_simp; done) | (go_simp; with_reducible rfl)
  try simp only [Act.put, List.setIfInBounds_toArray, List.set_cons_zero, List.set_cons_succ]
  refine wpAnyH_take (i := 3) (v := ?_) (by simp only [List.getElem?_toArray, List.getElem?_cons_zero, List.getElem?_cons_succ]; rfl) (by as_aux_lemma => kernel_rfl) (by as_aux_lemma => kernel_rfl) (by as_aux_lemma => kernel_rfl) (fun _ _ _ h => h) (Or.inl ⟨by rfl, ?_⟩) (by assumption) ?_
  rotate_left
  · intro V hV
    first | (go_simp; done) | (go_simp; with_reducible rfl)
  try simp only [Act.put, List.setIfInBounds_toArray, List.set_cons_zero, List.set_cons_succ]
  refine wpAnyH_take (i := 4) (v := ?_) (by simp only [List.getElem?_toArray, List.getElem?_cons_zero, List.getElem?_cons_succ]; rfl) (by as_aux_lemma => kernel_rfl) (by as_aux_lemma => kernel_rfl) (by as_aux_lemma => kernel_rfl) (fun _ _ _ h => h) (Or.inl ⟨by rfl, ?_⟩) (by assumption) ?_
  rotate_left
  · intro V hV
    first | (go_simp; done) | (go_simp; with_reducible rfl)
  try simp only [Act.put, List.setIfInBounds_toArray, List.set_cons_zero, List.set_cons_succ]
  refine wpAnyH_take (i := 5) (v := ?_) (by simp only [List.getElem?_toArray, List.getElem?_cons_zero, List.getElem?_cons_succ]; rfl) (by as_aux_lemma => kernel_rfl) (by as_aux_lemma => kernel_rfl) (by as_aux_lemma => kernel_rfl) (fun _ _ _ h => h) (Or.inl ⟨by rfl, ?_⟩) (by assumption) ?_
  rotate_left
  · intro V hV
    first | (go_simp; done) | (go_simp; with_reducible rfl)
  try simp only [Act.put, List.setIfInBounds_toArray, List.set_cons_zero, List.set_cons_succ]
  refine wpAnyH_take (i := 6) (v := ?_) (by simp only [List.getElem?_toArray, List.getElem?_cons_zero, List.getElem?_cons_succ]; rfl) (by as_aux_lemma => kernel_rfl) (by as_aux_lemma => kernel_rfl) (by as_aux_lemma => kernel_rfl) (fun _ _ _ h => h) (Or.inl ⟨by rfl, ?_⟩) (by assumption) ?_
  rotate_left
  · intro V hV
    first | (go_simp; done) | (go_simp; with_reducible rfl)
  try simp only [Act.put, List.setIfInBounds_toArray, List.set_cons_zero, List.set_cons_succ]
  refine wpAnyH_take (i := 7) (v := ?_) (by simp only [List.getElem?_toArray, List.getElem?_cons_zero, List.getElem?_cons_succ]; rfl) (by as_aux_lemma => kernel_rfl) (by as_aux_lemma => kernel_rfl) (by as_aux_lemma => kernel_rfl) (fun _ _ _ h => h) (Or.inl ⟨by rfl, ?_⟩) (by assumption) ?_
  rotate_left
  · intro V hV
    obtain ⟨q0, q1, q2⟩ := KC.out V hV
    first | (go_simp; done) | (go_simp; with_reducible rfl)
  try simp only [Act.put, List.setIfInBounds_toArray, List.set_cons_zero, List.set_cons_succ]
  refine wpAnyH_take (i := 8) (v := ?_) (by simp only [List.getElem?_toArray, List.getElem?_cons_zero, List.getElem?_cons_succ]; rfl) (by as_aux_lemma => kernel_rfl) (by as_aux_lemma => kernel_rfl) (by as_aux_lemma => kernel_rfl) (fun _ _ _ h => h) (Or.inl ⟨by rfl, ?_⟩) (by assumption) ?_
  rotate_left
  · intro V hV
    first | (go_simp; done) | (go_simp; with_reducible rfl)
  try simp only [Act.put, List.setIfInBounds_toArray, List.set_cons_zero, List.set_cons_succ]
  refine wpAnyH_take (i := 9) (v := ?_) (by simp only [List.getElem?_toArray, List.getElem?_cons_zero, List.getElem?_cons_succ]; rfl) (by as_aux_lemma => kernel_rfl) (by as_aux_lemma => kernel_rfl) (by as_aux_lemma => kernel_rfl) (fun _ _ _ h => h) (Or.inl ⟨by rfl, ?_⟩) (by assumption) ?_
  rotate_left
  · intro V hV
    first | (go_simp; done) | (go_simp; with_reducible rfl)
  try simp only [Act.put, List.setIfInBounds_toArray, List.set_cons_zero, List.set_cons_succ]
  refine wpAnyH_take (i := 10) (v := ?_) (by simp only [List.getElem?_toArray, List.getElem?_cons_zero, List.getElem?_cons_succ]; rfl) (by as_aux_lemma => kernel_rfl) (by as_aux_lemma => kernel_rfl) (by as_aux_lemma => kernel_rfl) (fun _ _ _ h => h) (Or.inl ⟨by rfl, ?_⟩) (by assumption) ?_
  rotate_left
  · intro V hV
    first | (go_simp; done) | (go_simp; with_reducible rfl)
  try simp only [Act.put, List.setIfInBounds_toArray, List.set_cons_zero, List.set_cons_succ]
  refine wpAnyH_take (i := 11) (v := ?_) (by simp only [List.getElem?_toArray, List.getElem?_cons_zero, List.getElem?_cons_succ]; rfl) (by as_aux_lemma => kernel_rfl) (by as_aux_lemma => kernel_rfl) (by as_aux_lemma => kernel_rfl) (fun _ _ _ h => h) (Or.inl ⟨by rfl, ?_⟩) (by assumption) ?_
  rotate_left
  · intro V hV
    first | (go_simp; done) | (go_simp; with_reducible rfl)
  try simp only [Act.put, List.setIfInBounds_toArray, List.set_cons_zero, List.set_cons_succ]
  refine wpAnyH_take (i := 12) (v := ?_) (by simp only [List.getElem?_toArray, List.getElem?_cons_zero, List.getElem?_cons_succ]; rfl) (by as_aux_lemma => kernel_rfl) (by as_aux_lemma => kernel_rfl) (by as_aux_lemma => kernel_rfl) (fun _ _ _ h => h) (Or.inl ⟨by rfl, ?_⟩) (by assumption) ?_
  rotate_left
  · intro V hV
    first | (go_simp; done) | (go_simp; with_reducible rfl)
  try simp only [Act.put, List.setIfInBounds_toArray, List.set_cons_zero, List.set_cons_succ]
  refine wpAnyH_take (i := 13) (v := ?_) (by simp only [List.getElem?_toArray, List.getElem?_cons_zero, List.getElem?_cons_succ]; rfl) (by as_aux_lemma => kernel_rfl) (by as_aux_lemma => kernel_rfl) (by as_aux_lemma => kernel_rfl) (fun _ _ _ h => h) (Or.inl ⟨by rfl, ?_⟩) (by assumption) ?_
  rotate_left
  · intro V hV
    first | (go_simp; done) | (go_simp; with_reducible rfl)
  try simp only [Act.put, List.setIfInBounds_toArray, List.set_cons_zero, List.set_cons_succ]
  refine wpAnyH_take (i := 14) (v := ?_) (by simp only [List.getElem?_toArray, List.getElem?_cons_zero, List.getElem?_cons_succ]; rfl) (by as_aux_lemma => kernel_rfl) (by as_aux_lemma => kernel_rfl) (by as_aux_lemma => kernel_rfl) (fun _ _ _ h => h) (Or.inl ⟨by rfl, ?_⟩) (by assumption) ?_
  rotate_left
  · intro V hV
    obtain ⟨q0, q1, q2⟩ := KC.out V hV
    first | (go_simp; done) | (go_simp; with_reducible rfl)
  try simp only [Act.put, List.setIfInBounds_toArray, List.set_cons_zero, List.set_cons_succ]
  refine wpAnyH_take (i := 15) (v := ?_) (by simp only [List.getElem?_toArray, List.getElem?_cons_zero, List.getElem?_cons_succ]; rfl) (by as_aux_lemma => kernel_rfl) (by as_aux_lemma => kernel_rfl) (by as_aux_lemma => kernel_rfl) (fun _ _ _ h => h) (Or.inl ⟨by rfl, ?_⟩) (by assumption) ?_
  rotate_left
  · intro V hV
    first | (go_simp; done) | (go_simp; with_reducible rfl)
  try simp only [Act.put, List.setIfInBounds_toArray, List.set_cons_zero, List.set_cons_succ]
  refine wpAnyH_take (i := 16) (v := ?_) (by simp only [List.getElem?_toArray, List.getElem?_cons_zero, List.getElem?_cons_succ]; rfl) (by as_aux_lemma => kernel_rfl) (by as_aux_lemma => kernel_rfl) (by as_aux_lemma => kernel_rfl) (fun _ _ _ h => h) (Or.inl ⟨by rfl, ?_⟩) (by assumption) ?_
  rotate_left
  · intro V hV
    obtain ⟨q0, q1, q2⟩ := KC.out V hV
    first | (go_simp; done) | (go_simp; with_reducible rfl)
  try simp only [Act.put, List.setIfInBounds_toArray, List.set_cons_zero, List.set_cons_succ]
  refine wpAnyH_take (i := 17) (v := ?_) (by simp only [List.getElem?_toArray, List.getElem?_cons_zero, List.getElem?_cons_succ]; rfl) (by as_aux_lemma => kernel_rfl) (by as_aux_lemma => kernel_rfl) (by as_aux_lemma => kernel_rfl) (fun _ _ _ h => h) (Or.inl ⟨by rfl, ?_⟩) (by assumption) ?_
  rotate_left
  · intro V hV
    first | (go_simp; done) | (go_simp; with_reducible rfl)
  try simp only [Act.put, List.setIfInBounds_toArray, List.set_cons_zero, List.set_cons_succ]
  refine wpAnyH_take (i := 18) (v := ?_) (by simp only [List.getElem?_toArray, List.getElem?_cons_zero, List.getElem?_cons_succ]; rfl) (by as_aux_lemma => kernel_rfl) (by as_aux_lemma => kernel_rfl) (by as_aux_lemma => kernel_rfl) (fun _ _ _ h => h) (Or.inl ⟨by rfl, ?_⟩) (by assumption) ?_
  rotate_left
  · intro V hV
    first | (go_simp; done) | (go_simp; with_reducible rfl)
  try simp only [Act.put, List.setIfInBounds_toArray, List.set_cons_zero, List.set_cons_succ]
  refine wpAnyH_take (i := 19) (v := ?_) (by simp only [List.getElem?_toArray, List.getElem?_cons_zero, List.getElem?_cons_succ]; rfl) (by as_aux_lemma => kernel_rfl) (by as_aux_lemma => kernel_rfl) (by as_aux_lemma => kernel_rfl) (fun _ _ _ h => h) (Or.inl ⟨by rfl, ?_⟩) (by assumption) ?_
  rotate_left
  · intro V hV
    first | (go_simp; done) | (go_simp; with_reducible rfl)
  try simp only [Act.put, List.setIfInBounds_toArray, List.set_cons_zero, List.set_cons_succ]
  refine wpAnyH_take (i := 20) (v := ?_) (by simp only [List.getElem?_toArray, List.getElem?_cons_zero, List.getElem?_cons_succ]; rfl) (by as_aux_lemma => kernel_rfl) (by as_aux_lemma => kernel_rfl) (by as_aux_lemma => kernel_rfl) (fun _ _ _ h => h) (Or.inl ⟨by rfl, ?_⟩) (by assumption) ?_
  rotate_left
  · intro V hV
    first | (go_simp; done) | (go_simp; with_reducible rfl)
  try simp only [Act.put, List.setIfInBounds_toArray, List.set_cons_zero, List.set_cons_succ]
  refine wpAnyH_take (i := 21) (v := ?_) (by simp only [List.getElem?_toArray, List.getElem?_cons_zero, List.getElem?_cons_succ]; rfl) (by as_aux_lemma => kernel_rfl) (by as_aux_lemma => kernel_rfl) (by as_aux_lemma => kernel_rfl) (fun _ _ _ h => h) (Or.inl ⟨by rfl, ?_⟩) (by assumption) ?_
  rotate_left
  · intro V hV
    first | (go_simp; done) | (go_simp; with_reducible rfl)
  try simp only [Act.put, List.setIfInBounds_toArray, List.set_cons_zero, List.set_cons_succ]
  refine wpAnyH_take (i := 22) (v := ?_) (by simp only [List.getElem?_toArray, List.getElem?_cons_zero, List.getElem?_cons_succ]; rfl) (by as_aux_lemma => kernel_rfl) (by as_aux_lemma => kernel_rfl) (by as_aux_lemma => kernel_rfl) (fun _ _ _ h => h) (Or.inl ⟨by rfl, ?_⟩) (by assumption) ?_
  rotate_left
  · intro V hV
    first | (go_simp; done) | (go_simp; with_reducible rfl)
  try simp only [Act.put, List.setIfInBounds_toArray, List.set_cons_zero, List.set_cons_succ]
  refine wpAnyH_take (i := 23) (v := ?_) (by simp only [List.getElem?_toArray, List.getElem?_cons_zero, List.getElem?_cons_succ]; rfl) (by as_aux_lemma => kernel_rfl) (by as_aux_lemma => kernel_rfl) (by as_aux_lemma => kernel_rfl) (fun _ _ _ h => h) (Or.inl ⟨by rfl, ?_⟩) (by assumption) ?_
  rotate_left
  · intro V hV
    first | (go_simp; done) | (go_simp; with_reducible rfl)
  try simp only [Act.put, List.setIfInBounds_toArray, List.set_cons_zero, List.set_cons_succ]
  refine wpAnyH_take (i := 24) (v := ?_) (by simp only [List.getElem?_toArray, List.getElem?_cons_zero, List.getElem?_cons_succ]; rfl) (by as_aux_lemma => kernel_rfl) (by as_aux_lemma => kernel_rfl) (by as_aux_lemma => kernel_rfl) (fun _ _ _ h => h) (Or.inl ⟨by rfl, ?_⟩) (by assumption) ?_
  rotate_left
  · intro V hV
    first | (go_simp; done) | (go_simp; with_reducible rfl)
  try simp only [Act.put, List.setIfInBounds_toArray, List.set_cons_zero, List.set_cons_succ]
  refine' wpAnyH_take (i := 25) (v := _) (by simp only [List.getElem?_toArray, List.getElem?_cons_zero, List.getElem?_cons_succ]; rfl) (by as_aux_lemma => kernel_rfl) (by as_aux_lemma => kernel_rfl) (by as_aux_lemma => kernel_rfl) (fun _ _ _ h => h) (yieldsIf_load_row (by rfl) _ _ rfl w.heap.size rfl 28 A (0, 0) _ HBX.out Tryz.underlying28 rfl HSz.out) (by assumption) ?_
  try simp only [Act.put, List.setIfInBounds_toArray, List.set_cons_zero, List.set_cons_succ]
  refine wpAnyH_one (i := 26) (vi := .int .i64 Z) (by simp only [List.getElem?_toArray, List.getElem?_cons_zero, List.getElem?_cons_succ]; rfl) (by as_aux_lemma => kernel_rfl) ?_ ?_ _ hHeld
  · intro V hV K hK
    try simp only [Act.put, List.setIfInBounds_toArray, List.set_cons_zero, List.set_cons_succ] at hK
    go_simp
    go_at_call 18; refine (HSt.out V).mono ?_; rintro e w2 ⟨rfl, hb2⟩; exact hK _ (hV.trans (hb2.mono hV.size))
  clear hHeld
  intro V1 hHeld
  try simp only [Act.put, List.setIfInBounds_toArray, List.set_cons_zero, List.set_cons_succ]
  refine wpAnyH_take (i := 27) (v := ?_) (by simp only [List.getElem?_toArray, List.getElem?_cons_zero, List.getElem?_cons_succ]; rfl) (by as_aux_lemma => kernel_rfl) (by as_aux_lemma => kernel_rfl) (by as_aux_lemma => kernel_rfl) (fun _ _ _ h => h) (Or.inl ⟨by rfl, ?_⟩) (by assumption) ?_
  rotate_left
  · intro V hV
    first | (go_simp; done) | (go_simp; with_reducible rfl)
  try simp only [Act.put, List.setIfInBounds_toArray, List.set_cons_zero, List.set_cons_succ]
  refine wpAnyH_take (i := 28) (v := ?_) (by simp only [List.getElem?_toArray, List.getElem?_cons_zero, List.getElem?_cons_succ]; rfl) (by as_aux_lemma => kernel_rfl) (by as_aux_lemma => kernel_rfl) (by as_aux_lemma => kernel_rfl) (fun _ _ _ h => h) (Or.inl ⟨by rfl, ?_⟩) (by assumption) ?_
  rotate_left
  · intro V hV
    first | (go_simp; done) | (go_simp; with_reducible rfl)
  try simp only [Act.put, List.setIfInBounds_toArray, List.set_cons_zero, List.set_cons_succ]
  refine wpAnyH_done (by kernel_rfl) ?_ _
  refine NoPanic.normal ?_
  have hV1 := Lib.hid hHeld
  have l2 : (0 : Int) ≤ (P : Int) + (v : Int) := by omega
  have l3 : (P : Int) + (v : Int) < (n : Int) := by omega
  have e1 : wrap64 ((j : Int) * (m : Int)) = (P : Int) := by rw [HC.out]; unfold wrap64; omega
  have e1' : IntKind.i64.wrap ((j : Int) * (m : Int)) = (P : Int) := by rw [HC.out]; exact wrap_nat (by omega)
  have e2' : IntKind.i64.wrap ((P : Int) + (v : Int)) = (P : Int) + (v : Int) := by have := wrap_nat (x := P + v) (by omega); simpa using this
  have e3 : ((P : Int) + (v : Int)).toNat = P + v := by omega
  clear hHeld
  go_upto_region 3 with fail
  refine wp_region_noPanic ?_
  refine wp_region_held_drew (S := RowKit.Below V1.heap.size V1) (by kernel_rfl) (bel_drewN V1 1) (fun hHeld => ?_)
  have KV : Hid (∀ V, RowKit.Below V1.heap.size V1 V → RowKit.Below W.heap.size W V) := fun V hV => hV1.out.trans (hV.mono hV1.out.size)
  refine wpAnyH_take (i := 0) (v := ?_) (by simp only [List.getElem?_toArray, List.getElem?_cons_zero, List.getElem?_cons_succ]; rfl) (by as_aux_lemma => kernel_rfl) (by as_aux_lemma => kernel_rfl) (by as_aux_lemma => kernel_rfl) (fun _ _ _ h => h) (Or.inl ⟨by rfl, ?_⟩) (by assumption) ?_
  rotate_left
  · intro V hV
    first | (go_simp; done) | (go_simp; with_reducible rfl)
  try simp only [Act.put, List.setIfInBounds_toArray, List.set_cons_zero, List.set_cons_succ]
  refine wpAnyH_take (i := 1) (v := ?_) (by simp only [List.getElem?_toArray, List.getElem?_cons_zero, List.getElem?_cons_succ]; rfl) (by as_aux_lemma => kernel_rfl) (by as_aux_lemma => kernel_rfl) (by as_aux_lemma => kernel_rfl) (fun _ _ _ h => h) (Or.inl ⟨by rfl, ?_⟩) (by assumption) ?_
  rotate_left
  · intro V hV
    obtain ⟨q0, q1, q2⟩ := KC.out V (KV.out V hV)
    first | (go_simp; done) | (go_simp; with_reducible rfl)
  try simp only [Act.put, List.setIfInBounds_toArray, List.set_cons_zero, List.set_cons_succ]
  refine wpAnyH_take (i := 2) (v := ?_) (by simp only [List.getElem?_toArray, List.getElem?_cons_zero, List.getElem?_cons_succ]; rfl) (by as_aux_lemma => kernel_rfl) (by as_aux_lemma => kernel_rfl) (by as_aux_lemma => kernel_rfl) (fun _ _ _ h => h) (Or.inl ⟨by rfl, ?_⟩) (by assumption) ?_
  rotate_left
  · intro V hV
    first | (go_simp; done) | (go_simp; with_reducible rfl)
  try simp only [Act.put, List.setIfInBounds_toArray, List.set_cons_zero, List.set_cons_succ]
  refine wpAnyH_take (i := 3) (v := ?_) (by simp only [List.getElem?_toArray, List.getElem?_cons_zero, List.getElem?_cons_succ]; rfl) (by as_aux_lemma => kernel_rfl) (by as_aux_lemma => kernel_rfl) (by as_aux_lemma => kernel_rfl) (fun _ _ _ h => h) (Or.inl ⟨by rfl, ?_⟩) (by assumption) ?_
  rotate_left
  · intro V hV
    first | (go_simp; done) | (go_simp; with_reducible rfl)
  try simp only [Act.put, List.setIfInBounds_toArray, List.set_cons_zero, List.set_cons_succ]
  refine wpAnyH_take (i := 4) (v := ?_) (by simp only [List.getElem?_toArray, List.getElem?_cons_zero, List.getElem?_cons_succ]; rfl) (by as_aux_lemma => kernel_rfl) (by as_aux_lemma => kernel_rfl) (by as_aux_lemma => kernel_rfl) (fun _ _ _ h => h) (Or.inl ⟨by rfl, ?_⟩) (by assumption) ?_
  rotate_left
  · intro V hV
    obtain ⟨q0, q1, q2⟩ := KC.out V (KV.out V hV)
    first | (go_simp; done) | (go_simp; with_reducible rfl)
  try simp only [Act.put, List.setIfInBounds_toArray, List.set_cons_zero, List.set_cons_succ]
  refine wpAnyH_take (i := 5) (v := ?_) (by simp only [List.getElem?_toArray, List.getElem?_cons_zero, List.getElem?_cons_succ]; rfl) (by as_aux_lemma => kernel_rfl) (by as_aux_lemma => kernel_rfl) (by as_aux_lemma => kernel_rfl) (fun _ _ _ h => h) (Or.inl ⟨by rfl, ?_⟩) (by assumption) ?_
  rotate_left
  · intro V hV
    first | (go_simp; done) | (go_simp; with_reducible rfl)
  try simp only [Act.put, List.setIfInBounds_toArray, List.set_cons_zero, List.set_cons_succ]
  refine wpAnyH_take (i := 6) (v := ?_) (by simp only [List.getElem?_toArray, List.getElem?_cons_zero, List.getElem?_cons_succ]; rfl) (by as_aux_lemma => kernel_rfl) (by as_aux_lemma => kernel_rfl) (by as_aux_lemma => kernel_rfl) (fun _ _ _ h => h) (Or.inl ⟨by rfl, ?_⟩) (by assumption) ?_
  rotate_left
  · intro V hV
    first | (go_simp; done) | (go_simp; with_reducible rfl)
  try simp only [Act.put, List.setIfInBounds_toArray, List.set_cons_zero, List.set_cons_succ]
  refine wpAnyH_take (i := 7) (v := ?_) (by simp only [List.getElem?_toArray, List.getElem?_cons_zero, List.getElem?_cons_succ]; rfl) (by as_aux_lemma => kernel_rfl) (by as_aux_lemma => kernel_rfl) (by as_aux_lemma => kernel_rfl) (fun _ _ _ h => h) (Or.inl ⟨by rfl, ?_⟩) (by assumption) ?_
  rotate_left
  · intro V hV
    first | (go_simp; done) | (go_simp; with_reducible rfl)
  try simp only [Act.put, List.setIfInBounds_toArray, List.set_cons_zero, List.set_cons_succ]
  refine wpAnyH_take (i := 8) (v := ?_) (by simp only [List.getElem?_toArray, List.getElem?_cons_zero, List.getElem?_cons_succ]; rfl) (by as_aux_lemma => kernel_rfl) (by as_aux_lemma => kernel_rfl) (by as_aux_lemma => kernel_rfl) (fun _ _ _ h => h) (Or.inl ⟨by rfl, ?_⟩) (by assumption) ?_
  rotate_left
  · intro V hV
    first | (go_simp; done) | (go_simp; with_reducible rfl)
  try simp only [Act.put, List.setIfInBounds_toArray, List.set_cons_zero, List.set_cons_succ]
  refine wpAnyH_take (i := 9) (v := ?_) (by simp only [List.getElem?_toArray, List.getElem?_cons_zero, List.getElem?_cons_succ]; rfl) (by as_aux_lemma => kernel_rfl) (by as_aux_lemma => kernel_rfl) (by as_aux_lemma => kernel_rfl) (fun _ _ _ h => h) (Or.inl ⟨by rfl, ?_⟩) (by assumption) ?_
  rotate_left
  · intro V hV
    obtain ⟨q0, q1, q2⟩ := KC.out V (KV.out V hV)
    first | (go_simp; done) | (go_simp; with_reducible rfl)
  try simp only [Act.put, List.setIfInBounds_toArray, List.set_cons_zero, List.set_cons_succ]
  refine wpAnyH_take (i := 10) (v := ?_) (by simp only [List.getElem?_toArray, List.getElem?_cons_zero, List.getElem?_cons_succ]; rfl) (by as_aux_lemma => kernel_rfl) (by as_aux_lemma => kernel_rfl) (by as_aux_lemma => kernel_rfl) (fun _ _ _ h => h) (Or.inl ⟨by rfl, ?_⟩) (by assumption) ?_
  rotate_left
  · intro V hV
    first | (go_simp; done) | (go_simp; with_reducible rfl)
  try simp only [Act.put, List.setIfInBounds_toArray, List.set_cons_zero, List.set_cons_succ]
  refine wpAnyH_take (i := 11) (v := ?_) (by simp only [List.getElem?_toArray, List.getElem?_cons_zero, List.getElem?_cons_succ]; rfl) (by as_aux_lemma => kernel_rfl) (by as_aux_lemma => kernel_rfl) (by as_aux_lemma => kernel_rfl) (fun _ _ _ h => h) (Or.inl ⟨by rfl, ?_⟩) (by assumption) ?_
  rotate_left
  · intro V hV
    first | (go_simp; done) | (go_simp; with_reducible rfl)
  try simp only [Act.put, List.setIfInBounds_toArray, List.set_cons_zero, List.set_cons_succ]
  refine wpAnyH_take (i := 12) (v := ?_) (by simp only [List.getElem?_toArray, List.getElem?_cons_zero, List.getElem?_cons_succ]; rfl) (by as_aux_lemma => kernel_rfl) (by as_aux_lemma => kernel_rfl) (by as_aux_lemma => kernel_rfl) (fun _ _ _ h => h) (Or.inl ⟨by rfl, ?_⟩) (by assumption) ?_
  rotate_left
  · intro V hV
    have r0 := KR.out V (KV.out V hV)
    first | (go_simp; done) | (go_simp; with_reducible rfl)
  try simp only [Act.put, List.setIfInBounds_toArray, List.set_cons_zero, List.set_cons_succ]
  refine wpAnyH_take (i := 13) (v := ?_) (by simp only [List.getElem?_toArray, List.getElem?_cons_zero, List.getElem?_cons_succ]; rfl) (by as_aux_lemma => kernel_rfl) (by as_aux_lemma => kernel_rfl) (by as_aux_lemma => kernel_rfl) (fun _ _ _ h => h) (Or.inl ⟨by rfl, ?_⟩) (by assumption) ?_
  rotate_left
  · intro V hV
    first | (go_simp; done) | (go_simp; with_reducible rfl)
  try simp only [Act.put, List.setIfInBounds_toArray, List.set_cons_zero, List.set_cons_succ]
  refine wpAnyH_take (i := 14) (v := ?_) (by simp only [List.getElem?_toArray, List.getElem?_cons_zero, List.getElem?_cons_succ]; rfl) (by as_aux_lemma => kernel_rfl) (by as_aux_lemma => kernel_rfl) (by as_aux_lemma => kernel_rfl) (fun _ _ _ h => h) (Or.inl ⟨by rfl, ?_⟩) (by assumption) ?_
  rotate_left
  · intro V hV
    first | (go_simp; done) | (go_simp; with_reducible rfl)
  try simp only [Act.put, List.setIfInBounds_toArray, List.set_cons_zero, List.set_cons_succ]
  refine wpAnyH_done (by kernel_rfl) ?_ _
  refine NoPanic.normal ?_
  go_wp2_with fail
  go_ret2
  exact ⟨rfl, HB.out.trans ((KV.out _ (bel_drewN V1 1)).mono HB.out.size)⟩

set_option maxRecDepth 100000 in
set_option maxHeartbeats 8000000 in
theorem rsame11_any (L1 L2 F1 F2 : List Int) (m1 m2 : Int) (a1 a2 : Option Addr) (n1 c1 n2 c2 : Nat) (w : World) (hL1 : L1.length = 256) (hL2 : L2.length = 256) (hF1 : Sl1 (Value.int .i64) w a1 n1 F1) (hF2 : Sl1 (Value.int .i64) w a2 n2 F2) (hn : n1 ≤ 1000000000) :
    Calls Tryz.prog 16 #[.agg (dvC L1 m1 (.slice a1 n1 c1)).toArray, .agg (dvC L2 m2 (.slice a2 n2 c2)).toArray] w fun e w' => e = .returned (.bool (decide (L1 = L2) && decide (m1 = m2) && decide (F1 = F2))) ∧ Below w.heap.size w w' := by
  obtain ⟨W, hW⟩ : ∃ W, W = (w.alloc (.cells (dvC L1 m1 (.slice a1 n1 c1)).toArray 28)).alloc (.cells (dvC L2 m2 (.slice a2 n2 c2)).toArray 28) := ⟨_, rfl⟩
  have hB : Below w.heap.size w W := by rw [hW]; exact ((Below.refl _ _).alloc (Nat.le_refl _) _).alloc (by simp) _
  have hO : Bx w.heap.size [.cells (dvC L1 m1 (.slice a1 n1 c1)).toArray 28, .cells (dvC L2 m2 (.slice a2 n2 c2)).toArray 28] W := by rw [hW]; exact ((Bx.nil _ w).snoc _ rfl).snoc _ (by simp)
  have hD1 : Dv W w.heap.size L1 m1 (.slice a1 n1 c1) := ⟨hO 0 _ rfl, hL1⟩
  have hD2 : Dv W (w.heap.size + 1) L2 m2 (.slice a2 n2 c2) := ⟨hO 1 _ rfl, hL2⟩
  have HR1 := Lib.hid hD1.range
  have HR2 := Lib.hid hD2.range
  obtain ⟨s0, s1⟩ := hD1.cells
  obtain ⟨t0, t1⟩ := hD2.cells
  have HI1 : Hid ((Tryz.prog.info? 25).map (·.size) = some ((L1.map (Value.int .i64)).length)) := by rw [Hid, List.length_map, hL1]; exact info25
  have HI2 : Hid ((Tryz.prog.info? 25).map (·.size) = some ((L2.map (Value.int .i64)).length)) := by rw [Hid, List.length_map, hL2]; exact info25
  have hq := fun V => run_eq25 L1 L2 hL1 hL2 V
  have HE := Lib.hid (rints_any a1 a2 n1 c1 n2 c2 F1 F2 W (hF1.below hB) (hF2.below hB) (by omega))
  obtain ⟨A1, hA1⟩ : ∃ A, (dvC L1 m1 (.slice a1 n1 c1)).toArray = A := ⟨_, rfl⟩
  obtain ⟨A2, hA2⟩ : ∃ A, (dvC L2 m2 (.slice a2 n2 c2)).toArray = A := ⟨_, rfl⟩
  obtain ⟨C1, hC1⟩ : ∃ C, L1.map (Value.int .i64) = C := ⟨_, rfl⟩
  obtain ⟨C2, hC2⟩ : ∃ C, L2.map (Value.int .i64) = C := ⟨_, rfl⟩
  rw [hA1, hA2] at hW ⊢
  rw [hC1] at HR1 HI1 hq
  rw [hC2] at HR2 HI2 hq
  obtain ⟨b1, hb1⟩ : ∃ b, decide (L1 = L2) = b := ⟨_, rfl⟩
  rw [hb1] at hq ⊢
  clear hA1 hA2 hC1 hC2 hD1 hD2 hO hF1 hF2 hL1 hL2 hb1 hn
  cases b1 with
  | false =>
    rw [Bool.false_and, Bool.false_and]
    go_enter Tryz.func16, Tryz.ntmps16
    go_upto_region 1 with fail
    rw [← hW]
    clear hW
    go_wp2_with (first
      | (refine wpList_load_mid rfl 25 _ rfl w.heap.size 0 rfl C1 _ HR1.out Tryz.underlying25 rfl HI1.out ?_)
      | (refine wpList_load_mid rfl 25 _ rfl (w.heap.size + 1) 0 rfl C2 _ HR2.out Tryz.underlying25 rfl HI2.out ?_))
    go_ret
    exact ⟨rfl, hB⟩
  | true =>
    rw [Bool.true_and]
    by_cases hm : m1 = m2
    · subst hm
      have dm : (m1 == m1) = true := by simp
      rw [show decide (m1 = m1) = true by simp, Bool.true_and]
      go_enter Tryz.func16, Tryz.ntmps16
      go_upto_region 1 with fail
      rw [← hW]
      clear hW
      go_wp2_with (first
        | (refine wpList_load_mid rfl 25 _ rfl w.heap.size 0 rfl C1 _ HR1.out Tryz.underlying25 rfl HI1.out ?_)
        | (refine wpList_load_mid rfl 25 _ rfl (w.heap.size + 1) 0 rfl C2 _ HR2.out Tryz.underlying25 rfl HI2.out ?_)
        | (go_at_call 33; refine HE.out.mono ?_; rintro e w1 ⟨rfl, hb1⟩))
      go_ret
      exact ⟨rfl, hB.trans (hb1.mono hB.size)⟩
    · have dm : (m1 == m2) = false := by simpa using hm
      rw [show decide (m1 = m2) = false by simpa using hm, Bool.false_and]
      clear hm
      go_enter Tryz.func16, Tryz.ntmps16
      go_upto_region 1 with fail
      rw [← hW]
      clear hW
      go_wp2_with (first
        | (refine wpList_load_mid rfl 25 _ rfl w.heap.size 0 rfl C1 _ HR1.out Tryz.underlying25 rfl HI1.out ?_)
        | (refine wpList_load_mid rfl 25 _ rfl (w.heap.size + 1) 0 rfl C2 _ HR2.out Tryz.underlying25 rfl HI2.out ?_))
      go_ret
      exact ⟨rfl, hB⟩

set_option maxRecDepth 100000 in
theorem rgreat11_any (L : List Int) (m : Int) (a : Option Addr) (n c : Nat) (w : World) (hL : L.length = 256) (hn : n ≤ 1000000000000000000) :
    Calls Tryz.prog 8 #[.agg (dvC L m (.slice a n c)).toArray] w fun e w' => e = .returned (.bool (decide (20000 < n))) ∧ Below w.heap.size w w' := by
  have hD := Dv.new w L m (.slice a n c) hL
  have hB : Below w.heap.size w (w.alloc (.cells (dvC L m (.slice a n c)).toArray 28)) := below_alloc _ _
  obtain ⟨W, hW⟩ : ∃ W, W = w.alloc (.cells (dvC L m (.slice a n c)).toArray 28) := ⟨_, rfl⟩
  rw [← hW] at hD hB
  obtain ⟨s1, s2⟩ := hD.cells
  obtain ⟨A, hA⟩ : ∃ A, (dvC L m (.slice a n c)).toArray = A := ⟨_, rfl⟩
  rw [hA] at hW ⊢
  clear hA hD
  go_enter Tryz.func8, Tryz.ntmps8
  go_upto_region 1 with fail
  rw [← hW]
  clear hW
  go_wp2
  go_ret
  refine ⟨?_, hB⟩
  first | rfl | (simp; done) | (simp; omega)
end Go.Proofs.YtjfhefffbkpgkaaGreat

/- The document's table (layer 11): made; walked. Printed by exp.py. -/



namespace Go.Proofs.YtjfhefffbkpgkaaGreat
open Go.RowKit Go.Sort
set_option linter.unusedVariables false
set_option linter.unusedSimpArgs false

theorem Dv.frozen {W : World} {B : Nat} {L : List Int} {m : Int} {row : Value} (h : Dv W B L m row) (i : Nat) : W.frozen? ⟨B, i, none⟩ = false := by simp [World.frozen?, h.box]
theorem Dv.setMany {W : World} {B : Nat} {L : List Int} {m : Int} {row : Value} (h : Dv W B L m row) (v : Int) : Dv (W.setCell ⟨B, 256, none⟩ (.int .i64 v)) B L v row := by
  refine ⟨?_, h.len⟩
  rw [setCell_eq_setRow W B 256 _ _ _ _ h.box, setRow_heap W B _ _ _ _ h.box]
  have e : (dvC L m row).toArray.setIfInBounds 256 (.int .i64 v) = (dvC L v row).toArray := by
    rw [dvC_eq, dvC_eq, List.setIfInBounds_toArray, List.set_append_right _ _ (by simp [h.len])]
    simp [h.len]
  rw [e]
theorem Dv.setRows {W : World} {B : Nat} {L : List Int} {m : Int} {row : Value} (h : Dv W B L m row) (v : Value) : Dv (W.setCell ⟨B, 257, none⟩ v) B L m v := by
  refine ⟨?_, h.len⟩
  rw [setCell_eq_setRow W B 257 _ _ _ _ h.box, setRow_heap W B _ _ _ _ h.box]
  have e : (dvC L m row).toArray.setIfInBounds 257 v = (dvC L m v).toArray := by
    rw [dvC_eq, dvC_eq, List.setIfInBounds_toArray, List.set_append_right _ _ (by simp [h.len])]
    simp [h.len]
  rw [e]
theorem slK_of_u8 {w : World} {a : Option Addr} {n : Nat} {l : List Int} (h : Sl1 (Value.int .u8) w a n l) : SlK 1 w a n (l.map (Value.int .u8)) := by
  obtain ⟨h1, h2⟩ := h
  refine ⟨by rw [List.length_map]; omega, h2.imp id fun ⟨b, off, e, hlt, hc⟩ => ⟨b, off, e, hlt, fun i u hu => ?_⟩⟩
  rw [List.getElem?_map] at hu
  cases hl : l[i]? with
  | none => rw [hl] at hu; cases hu
  | some x => rw [hl] at hu; injection hu with hu; subst hu; exact hc i x hl
theorem own_belowR {W V : World} {base n : Nat} {e : TypeId} {v : Value} {xs : List Value} (h : W.ownsRow base e 1 v n xs) (hb : Below W.heap.size W V) : V.ownsRow base e 1 v n xs := by
  refine ⟨h.1, ?_⟩
  rcases h.2 with hn | ⟨g, cap, cur, e1, h2, h3, r⟩
  · exact .inl hn
  · exact .inr ⟨g, cap, cur, e1, h2, (hb.block g (Array.getElem?_eq_some_iff.1 h3).1).trans h3, r⟩
theorem own_setCellR {W : World} {base n : Nat} {e : TypeId} {v u : Value} {xs : List Value} (h : W.ownsRow base e 1 v n xs) {D o : Nat} (hD : D < base) : (W.setCell ⟨D, o, none⟩ u).ownsRow base e 1 v n xs := by
  refine ⟨h.1, ?_⟩
  rcases h.2 with hn | ⟨g, cap, cur, e1, h2, h3, r⟩
  · exact .inl hn
  · exact .inr ⟨g, cap, cur, e1, h2, (Below.heap_setCell _ _ _ _ (by show g ≠ D; omega)).trans h3, r⟩
theorem dv_cases {L : List Int} {m : Int} {i : Nat} {u : Value} (h : (dvC L m (.slice none 0 0)).toArray[i]? = some u) : (∃ z, u = .int .i64 z) ∨ u = .slice none 0 0 := by
  have h : (dvC L m (.slice none 0 0))[i]? = some u := by simpa using h
  have hm := List.mem_of_getElem? h
  unfold dvC at hm
  rw [List.mem_append, List.mem_append] at hm
  rcases hm with (hm | hm) | hm
  · obtain ⟨z, _, rfl⟩ := List.mem_map.1 hm; exact .inl ⟨z, rfl⟩
  · rw [List.mem_singleton] at hm; exact .inl ⟨_, hm⟩
  · rw [List.mem_singleton] at hm; exact .inr hm
/-- Texts lie where they lay, though a table's rows are told. -/
theorem Wds.turnD {W V : World} {Q n : Nat} {a : Option Addr} {l : List (List Int)} {L : List Int} {m : Int} (h : Wds W a n l) (hQ : Dv W Q L m (.slice none 0 0)) (hx : ∃ x ∈ l, x ≠ [])
    (hk : ∀ j, j ≠ Q → j < W.heap.size → V.heap[j]? = W.heap[j]?) (hs : W.heap.size ≤ V.heap.size) : Wds V a n l := by
  have hno : ∀ (i : Nat) (x : Int), (dvC L m (.slice none 0 0)).toArray[i]? ≠ some (.int .u8 x) := fun i x e => by
    rcases dv_cases e with ⟨z, h1⟩ | h1 <;> cases h1
  obtain ⟨vs, ⟨h1, h2⟩, h3, h4⟩ := h
  have row : ∀ (i : Nat) (v : Option Addr × Nat × Nat) (x : List Int), vs[i]? = some v → l[i]? = some x → Bys V v.1 v.2.1 x ∧ v.2.1 ≤ v.2.2 := fun i v x hv hx => by
    obtain ⟨h5, h6⟩ := h4 i v x hv hx
    exact ⟨⟨h5.1.turn hQ.box hno hk hs, h5.2⟩, h6⟩
  obtain ⟨x, hxm, hx0⟩ := hx
  obtain ⟨i, hi⟩ := List.getElem?_of_mem hxm
  have hil := (List.getElem?_eq_some_iff.1 hi).1
  obtain ⟨v, hv⟩ : ∃ v, vs[i]? = some v := ⟨vs[i]'(by omega), by simp⟩
  refine ⟨vs, ⟨h1, ?_⟩, h3, row⟩
  rcases h2 with h2 | ⟨b, off, e, hlt, hc⟩
  · exact .inl h2
  · have hb : b ≠ Q := by
      rintro rfl
      have h5 := hc i v hv
      simp only [World.cell?, hQ.box] at h5
      have h6 : v.2.1 = 0 := by
        rcases dv_cases h5 with ⟨z, h7⟩ | h7
        · cases h7
        · injection h7
      have h7 := (h4 i v x hv hi).1.len
      rw [h6] at h7
      exact hx0 (List.eq_nil_of_length_eq_zero h7)
    exact .inr ⟨b, off, e, Nat.lt_of_lt_of_le hlt hs, fun k u hu => (World.cell?_of_block (hk b hb hlt)).trans (hc k u hu)⟩

set_option maxRecDepth 100000 in
set_option maxHeartbeats 8000000 in
theorem rmake11_no (fold : Bool) (a : Option Addr) (la ca : Nat) (wss : List (List Int)) (w : World) (hA : Wds w a la wss) (hla : la ≤ 1000000) (hM : ∀ x ∈ wss, x.length ≤ 1000000) (hr : rightP fold wss = false) :
    Calls Tryz.prog 11 #[.agg (setV fold a la ca)] w fun e w' => e = .returned (.tuple #[.agg (dvC (List.replicate 256 0) 0 (.slice none 0 0)).toArray, .int .i64 2]) ∧ Below w.heap.size w w' := by
  obtain ⟨W, hW⟩ : ∃ W, W = (w.alloc (.cells (setV fold a la ca) 24)).alloc (.cells Tryz.zeroCells28 28) := ⟨_, rfl⟩
  have hB : Below w.heap.size w W := by rw [hW]; exact ((Below.refl _ _).alloc (Nat.le_refl _) _).alloc (by simp) _
  have hO : Bx w.heap.size [.cells (setV fold a la ca) 24, .cells Tryz.zeroCells28 28] W := by rw [hW]; exact ((Bx.nil _ w).snoc _ rfl).snoc _ (by simp)
  have s0 : W.cell? ⟨w.heap.size, 0, none⟩ = some (.bool fold) := hO.cell (i := 0) rfl rfl
  have s1 : W.cell? ⟨w.heap.size, 1, none⟩ = some (.slice a la ca) := hO.cell (i := 0) rfl rfl
  have hR := rright_any fold a la ca wss W (hA.below hB) hla hM
  rw [← right_eq, hr] at hR
  have HR := Lib.hid hR
  have HO := Lib.hid hO
  have hZB := built28
  obtain ⟨L0, hL0⟩ : ∃ L0, List.replicate 256 (0 : Int) = L0 := ⟨_, rfl⟩
  have hl0 : L0.length = 256 := by rw [← hL0, List.length_replicate]
  rw [hL0] at hZB ⊢
  have h1 := dvC_one L0 0 (.slice none 0 0) rfl
  have hs := dv_info hl0 0 (.slice none 0 0)
  have ho := dv_old hl0 0 (.slice none 0 0)
  obtain ⟨Z, hZ⟩ : ∃ Z, (dvC L0 0 (.slice none 0 0)).toArray = Z := ⟨_, rfl⟩
  rw [hZ] at hZB h1 hs ho ⊢
  have HZB := Lib.hid hZB
  have H1 := Lib.hid h1
  have HS := Lib.hid hs
  have HOO := Lib.hid ho
  clear hA hO hR hr hL0 hZB hZ h1 hs ho
  go_enter Tryz.func11, Tryz.ntmps11
  go_upto_region 1 with fail
  rw [← hW]
  clear hW
  go_wp2_with fail
  refine HR.out.mono ?_
  rintro e w1 ⟨rfl, hb1⟩
  have hg : w1.heap[w.heap.size + 1]? = some (.cells Tryz.zeroCells28 28 (0, 0)) := (HO.out.below hb1) 1 _ rfl
  have HG := Lib.hid hg
  have H2 := Lib.hid (setRow_heap w1 (w.heap.size + 1) _ Z _ _ hg)
  have HBf : Hid (RowKit.Below w.heap.size w (w1.setRow (w.heap.size + 1) Z)) := below_setRow (hB.trans (hb1.mono hB.size)) (by omega) _
  clear hg hB hb1 s0 s1
  go_upto_region 2 with fail
  iterate 1 (first | go_values | go_skip | go_guarded | go_step)
  refine wpList_build_to rfl 28 _ rfl Z (by go_simp; exact HZB.out) ?_
  refine wpList_store_row rfl 28 _ _ rfl (w.heap.size + 1) Z rfl rfl 28 _ HG.out HS.out HOO.out H1.out ?_
  go_wp2_with fail
  refine bodyPost_ret (results_dense2 rfl rfl H2.out HS.out) rfl ?_
  exact ⟨rfl, HBf.out⟩

set_option maxRecDepth 100000 in
set_option maxHeartbeats 16000000 in
theorem rmake11_yes (fold : Bool) (a : Option Addr) (la ca : Nat) (wss : List (List Int)) (w : World) (hA : Wds w a la wss) (hla : la ≤ 1000) (hM : ∀ x ∈ wss, x.length ≤ 1000000) (hr : rightP fold wss = true) :
    Calls Tryz.prog 11 #[.agg (setV fold a la ca)] w fun e w' => ∃ (a' : Option Addr) (n' c' : Nat), e = .returned (.tuple #[.agg (dvC (clsP fold wss) (manyP fold wss) (.slice a' n' c')).toArray, .int .i64 0]) ∧ Sl1 (Value.int .i64) w' a' n' (tabP fold wss) ∧ n' ≤ 1000000 ∧ Below w.heap.size w w' := by
  obtain ⟨W, hW⟩ : ∃ W, W = (w.alloc (.cells (setV fold a la ca) 24)).alloc (.cells Tryz.zeroCells28 28) := ⟨_, rfl⟩
  have hB : Below w.heap.size w W := by rw [hW]; exact ((Below.refl _ _).alloc (Nat.le_refl _) _).alloc (by simp) _
  have hO : Bx w.heap.size [.cells (setV fold a la ca) 24, .cells Tryz.zeroCells28 28] W := by rw [hW]; exact ((Bx.nil _ w).snoc _ rfl).snoc _ (by simp)
  have s0 : W.cell? ⟨w.heap.size, 0, none⟩ = some (.bool fold) := hO.cell (i := 0) rfl rfl
  have s1 : W.cell? ⟨w.heap.size, 1, none⟩ = some (.slice a la ca) := hO.cell (i := 0) rfl rfl
  have hR := rright_any fold a la ca wss W (hA.below hB) (by omega) hM
  rw [← right_eq, hr] at hR
  have HR := Lib.hid hR
  have HO := Lib.hid hO
  have HA := Lib.hid hA
  have HB := Lib.hid hB
  have HRT := Lib.hid hr
  have HOK := Lib.hid (okT hr (fun x hx c hc => hA.bytes x hx c hc))
  have hn4 : (nodesL wss).length ≤ 400 := read_n (readP_iff.2 ⟨right_false hr, rfl, rfl⟩)
  have hm257 : 1 ≤ manyP fold wss ∧ manyP fold wss ≤ 257 := clsN_many _ _ _
  have HM := Lib.hid hM
  have HW32 : Hid (∀ x ∈ wss, x.length ≤ 1000) := fun x hx => by have := ((right_spec hr).2.2.1 x hx).2; omega
  have HRN := Lib.hid (right_node hr)
  obtain ⟨n, hn⟩ : ∃ n, (nodesL wss).length = n := ⟨_, rfl⟩
  obtain ⟨m, hm⟩ : ∃ m, manyP fold wss = m := ⟨_, rfl⟩
  obtain ⟨L, hL⟩ : ∃ L, clsP fold wss = L := ⟨_, rfl⟩
  have hLl : L.length = 256 := by rw [← hL]; exact clsP_len _ _
  have HN := Lib.hid hn
  have HMM := Lib.hid hm
  have HLL := Lib.hid hL
  rw [hn] at hn4
  rw [hm] at hm257
  rw [hm, hL]
  clear hA hO hB hR hr hM hn hm hL
  go_enter Tryz.func11, Tryz.ntmps11
  go_upto_region 1 with fail
  rw [← hW]
  clear hW
  go_wp2_with fail
  refine HR.out.mono ?_
  rintro e w1 ⟨rfl, hb1⟩
  have hO1 := HO.out.below hb1
  go_upto_region 4 with fail
  obtain ⟨w2, hw2⟩ : ∃ w2, w2 = w1.alloc (.cells Tryz.zeroCells28 28) := ⟨_, rfl⟩
  have hO2 := hO1.below (below_alloc w1 (.cells Tryz.zeroCells28 28))
  have hD2 : w2.heap[w1.heap.size]? = some (.cells Tryz.zeroCells28 28 (0, 0)) := by rw [hw2]; exact heap_alloc_new _ _
  have hB2 : Below w.heap.size w w2 := by rw [hw2]; exact (HB.out.trans (hb1.mono HB.out.size)).alloc (HB.out.trans (hb1.mono HB.out.size)).size _
  have hwD : w.heap.size + 1 < w1.heap.size := (Array.getElem?_eq_some_iff.1 (hO1 1 _ rfl)).1
  rw [← hw2] at hO2 ⊢
  obtain ⟨D, hD⟩ : ∃ D, w1.heap.size = D := ⟨_, rfl⟩
  rw [hD] at hD2 hwD ⊢
  clear hw2 hb1 hO1 s0 s1 hD
  have s0 : w2.cell? ⟨w.heap.size, 0, none⟩ = some (.bool fold) := hO2.cell (i := 0) rfl rfl
  have s1 : w2.cell? ⟨w.heap.size, 1, none⟩ = some (.slice a la ca) := hO2.cell (i := 0) rfl rfl
  have hOf := rof10_yes fold a la ca wss w2 (HA.out.below hB2) (by omega) HM.out HRT.out
  rw [HLL.out, HMM.out] at hOf
  have HOf := Lib.hid hOf
  have HD2 := Lib.hid hD2
  have HO2 := Lib.hid hO2
  have HB2 := Lib.hid hB2
  have HLN : Hid ((L.map (Value.int .i64)).length = ((List.replicate 256 (0 : Int)).map (Value.int .i64)).length) := by rw [Hid, List.length_map, List.length_map, hLl, List.length_replicate]
  have HI25 : Hid ((Tryz.prog.info? 25).map (·.size) = some (L.map (Value.int .i64)).toArray.size) := by rw [Hid, rowI_size, hLl]; exact info25
  clear hOf hD2 hO2 hB2
  go_wp2_with fail
  refine HOf.out.mono ?_
  rintro e w3 ⟨rfl, hb3⟩
  iterate 17 (first | go_values | go_skip | go_guarded | go_step | go_upon | go_back | go_simp)
  have hD3 : w3.heap[D]? = some (.cells (((List.replicate 256 (0 : Int)).map (Value.int .i64)) ++ [Value.int .i64 0, Value.slice none 0 0]).toArray 28 (0, 0)) := by
    rw [← dvC_eq, ← zero28]
    exact (hb3.block _ (Array.getElem?_eq_some_iff.1 HD2.out).1).trans HD2.out
  have HB3 := Lib.hid (HB2.out.trans (hb3.mono HB2.out.size))
  have HO3 := Lib.hid (HO2.out.below hb3)
  have HD3 := Lib.hid hD3
  clear hb3 s0 s1 hD3
  refine wpList_store_head rfl 25 _ _ rfl D (L.map (Value.int .i64)) _ _ rfl rfl 28 HD3.out HLN.out HI25.out (rowI_one L) ?_
  rw [← dvC_eq]
  obtain ⟨w4, hw4⟩ : ∃ w4, w4 = w3.setRow D (dvC L 0 (.slice none 0 0)).toArray := ⟨_, rfl⟩
  have hV4 : Dv w4 D L 0 (.slice none 0 0) := ⟨by rw [hw4]; exact setRow_heap w3 D _ _ _ _ HD3.out, hLl⟩
  have hB4 : RowKit.Below D w3 w4 := by rw [hw4]; exact below_setRow (Below.refl _ _) (Nat.le_refl _) _
  rw [← hw4]
  have c256 := hV4.cells.1
  have f256 := hV4.frozen 256
  have HV4 := Lib.hid hV4
  have HB4 := Lib.hid hB4
  clear hw4 hV4 hB4
  go_upto_region 5 with fail
  obtain ⟨w5, hw5⟩ : ∃ w5, w5 = w4.setCell ⟨D, 256, none⟩ (.int .i64 (m : Int)) := ⟨_, rfl⟩
  have hV5 : Dv w5 D L m (.slice none 0 0) := by rw [hw5]; exact HV4.out.setMany _
  have hB5 : RowKit.Below D w3 w5 := by rw [hw5]; exact HB4.out.setCell (Nat.le_refl _) _
  rw [← hw5]
  have h50 : w5.heap[w.heap.size]? = _ := (hB5.block _ (by omega)).trans (HO3.out 0 _ rfl)
  have h51 : w5.heap[w.heap.size + 1]? = _ := (hB5.block _ hwD).trans (HO3.out 1 _ rfl)
  have s0 : w5.cell? ⟨w.heap.size, 0, none⟩ = some (.bool fold) := by simp [World.cell?, h50]
  have s1 : w5.cell? ⟨w.heap.size, 1, none⟩ = some (.slice a la ca) := by simp [World.cell?, h50]
  have hB05 : Below w.heap.size w w5 := HB3.out.trans (hB5.mono (by omega))
  have hNo := rnodes7_any a la ca wss w5 (HA.out.below hB05) hla HW32.out
  rw [HN.out] at hNo
  have HNo := Lib.hid hNo
  have HV5 := Lib.hid hV5
  have HB05 := Lib.hid hB05
  have H50 := Lib.hid h50
  have H51 := Lib.hid h51
  clear hw5 hV5 hB5 c256 f256 hNo hB05 h50 h51
  go_wp2_with fail
  refine HNo.out.mono ?_
  rintro e w6 ⟨a1, c1, rfl, hc1, hN6, hb6⟩
  have HV6 := Lib.hid (HV5.out.below hb6)
  have HB6 := Lib.hid (HB05.out.trans (hb6.mono HB05.out.size))
  have HN6 := Lib.hid hN6
  have hs56 := hb6.size
  have H60 : Hid (w6.heap[w.heap.size]? = some (.cells (setV fold a la ca) 24 (0, 0))) := (hb6.block _ (Array.getElem?_eq_some_iff.1 H50.out).1).trans H50.out
  have H61 : Hid (w6.heap[w.heap.size + 1]? = some (.cells Tryz.zeroCells28 28 (0, 0))) := (hb6.block _ (Array.getElem?_eq_some_iff.1 H51.out).1).trans H51.out
  have hD6 : D < w6.heap.size := HV6.out.lt
  have KS : Hid (∀ V, RowKit.Below D w6 V → V.cell? ⟨w.heap.size, 0, none⟩ = some (.bool fold) ∧ V.cell? ⟨w.heap.size, 1, none⟩ = some (.slice a la ca)) := fun V hV => by
    have h1 : V.heap[w.heap.size]? = _ := (hV.block _ (by omega)).trans H60.out
    simp [World.cell?, h1]
  clear hb6 hN6 s0 s1
  obtain ⟨i0, hi, hz0, hzz1, hzz2⟩ := info_parts i64_info7
  obtain ⟨j0, hj, hy0, hy1, hy2⟩ := info_parts u8_info
  go_wp2_with fail
  go_loopw [6] (fun s6 wr => ∃ (i : Nat) (v : Value), i ≤ n ∧ s6 = .int .i64 i ∧ Hid (Dv wr D L m v) ∧ Hid (wr.ownsRow w6.heap.size 3 1 v (i * m) ((rowsC fold wss i).map (Value.int .i64))) ∧ Hid (RowKit.Below D w6 wr) ∧ Hid ((∀ j, j ≠ D → j < w6.heap.size → wr.heap[j]? = w6.heap[j]?) ∧ w6.heap.size ≤ wr.heap.size)) (fun s _ => n - (intOf s).toNat)
  case atStart => exact ⟨0, .slice none 0 0, Nat.zero_le _, rfl, HV6.out, by rw [Hid, Nat.zero_mul]; exact World.ownsRow_nil _ _ _ _, Below.refl _ _, fun j _ _ => rfl, Nat.le_refl _⟩
  case round =>
    obtain ⟨i, v, hi6, rfl, HVr, HOr, HBr, HKr⟩ := hrel
    by_cases hin : i < n
    · have hd : decide ((i : Int) < (n : Int)) = true := by simp; omega
      have HNr := Lib.hid (HN6.out.turnD HV6.out HRN.out HKr.out.1 HKr.out.2)
      have hcl := HVr.out.cells.1
      have hmk : ∀ V : World, (Instr.makeSlice 26 (.int .i64 m) (.int .i64 m)).run Tryz.prog V = .ok (.slice (some ⟨V.heap.size, 0, none⟩) m m) (V.alloc (.cells (intsNil m) 3)) := fun V => by
        have h := run_makeSlice (P := Tryz.prog) (w := V) 26 3 i0 (.int .i64 0) Tryz.underlying26 hi hz0 .i64 .i64 (m : Int) (m : Int) (by omega) (by omega) (by rw [hzz1]; omega) (by rw [hzz2]; omega) (by omega)
        rw [hzz1] at h
        have e1 : (m : Int).toNat * 1 = m := by omega
        rw [e1, made_ints, Int.toNat_natCast] at h
        exact h
      go_upto_region 10 with fail
      obtain ⟨bb, off, aw, lw, cw, x, hbb, hbl, hcell, hx, hX, hlc⟩ := HNr.out.at_ hin
      have HXr := Lib.hid hX
      have HXI := Lib.hid hx
      have HCE := Lib.hid hcell
      have hx400 : lw ≤ 1000 := by
        have := node_len (right_false HRT.out) hx
        rw [hX.len] at this; omega
      obtain ⟨Rw, hRw⟩ : ∃ R, wr.heap.size = R := ⟨_, rfl⟩
      have hDR : D < Rw := by have := HKr.out.2; omega
      have hbbR : bb < Rw := by omega
      have hRow0 : IntRow Rw (rowC fold wss x 0) (wr.alloc (.cells (intsNil m) 3)) := by
        have h := IntRow.new wr m
        rw [hRw] at h
        unfold rowC
        rw [HMM.out]
        exact h
      have HRow0 := Lib.hid hRow0
      have HBW : Hid (∀ V, RowKit.Below Rw wr V → Below w.heap.size w V) := fun V hV => HB6.out.trans ((HBr.out.trans (hV.mono (by omega))).mono (by omega))
      have HRwE := Lib.hid hRw
      rw [hRw]
      clear hcell hx hX hcl hmk hRow0 hRw
      subst hbb
      go_wp2_with fail
      go_loopw [8] (fun s8 wi => ∃ c : Nat, c ≤ 256 ∧ s8 = .int .i64 c ∧ Hid (IntRow Rw (rowC fold wss x c) wi) ∧ Hid (RowKit.Below Rw wr wi)) (fun s _ => 256 - (intOf s).toNat)
      case atStart => exact ⟨0, by decide, rfl, HRow0.out, by have h := below_alloc wr (.cells (intsNil m) 3); rw [HRwE.out] at h; exact h⟩
      case round =>
        obtain ⟨c, hc6, rfl, HRi, HBi⟩ := hrel
        obtain ⟨c0, c1'⟩ := KS.out wr (HBr.out.trans (HBi.out.mono (by omega)))
        by_cases hcn : c < 256
        · have hd2 : decide ((c : Int) < 256) = true := by simp; omega
          have hd2' : decide (c < 256) = true := by simpa using hcn
          have i1 : (0 : Int) ≤ (c : Int) := by omega
          have i2 : (c : Int) < 256 := by omega
          have e1 : IntKind.u8.wrap (c : Int) = (c : Int) := by simp [IntKind.wrap, IntKind.bits, IntKind.signed]; omega
          have HC := Lib.hid (in11_any fold a la ca c wss wr (HA.out.below (HBW.out wr HBi.out)) (by omega) HM.out hcn)
          cases hq : wordQ wss (c : Int) with
          | false =>
            rw [hq] at HC
            have hrn : rowC fold wss x (c + 1) = rowC fold wss x c := by
              conv => lhs; unfold rowC
              rw [if_neg (by rw [hq]; decide)]
            have HRNE := Lib.hid hrn
            clear hq hrn
            go_wp2_with (go_at_call 31; refine HC.out.mono ?_; rintro e w2 ⟨rfl, hb2⟩)
            go_roundw
            case rel => exact ⟨c + 1, by omega, by go_num, by rw [HRNE.out]; exact (hb2.block _ HRi.out.lt).trans HRi.out, HBi.out.trans (hb2.mono HBi.out.size |> fun h => by rw [← HRwE.out]; exact h)⟩
            case measure => simp [intOf]; omega
          | true =>
            rw [hq] at HC
            have HWQ := Lib.hid hq
            have hwb := wordQ_iff.1 hq
            obtain ⟨q, hqe⟩ : ∃ q, clsO (inB fold wss) fold c = q := ⟨_, rfl⟩
            have hLc : L[c]? = some (q : Int) := by
              rw [← HLL.out, cls_in HOK.out.great hcn, if_pos (inB_word hwb), hqe]
            have hqm : q < m := by rw [← hqe, ← HMM.out]; exact clsO_lt (inB_shut HOK.out.great) (inB_word hwb) hcn
            have HQE := Lib.hid hqe
            have HLC := Lib.hid hLc
            obtain ⟨y0, hy0'⟩ : ∃ y, (rowC fold wss x c)[q]? = some y := ⟨(rowC fold wss x c)[q]'(by rw [rowC_len, HMM.out]; exact hqm), by simp⟩
            have HY0 := Lib.hid hy0'
            clear hq hwb hqe hLc hy0'
            go_upto_region 14 with (go_at_call 31; refine HC.out.mono ?_; rintro e w2 ⟨rfl, hb2⟩)
            have hle : Rw ≤ wr.heap.size := by have := HBi.out.size; rw [HRwE.out] at this; exact this
            have hBi2 := HBi.out.trans (hb2.mono hle)
            have HR2 : Hid (IntRow Rw (rowC fold wss x c) w2) := (hb2.block _ HRi.out.lt).trans HRi.out
            have HX2 := Lib.hid (HXr.out.below (hBi2.mono (by rw [HRwE.out]; exact Nat.le_refl _)))
            have HN2 := Lib.hid (HNr.out.below (hBi2.mono (by rw [HRwE.out]; exact Nat.le_refl _)))
            obtain ⟨B2, hB2⟩ : ∃ B, w2.heap.size = B := ⟨_, rfl⟩
            have HRB : Hid (Rw ≤ B2) := by have := hb2.size; rw [Hid]; omega
            have HB2E := Lib.hid hB2
            have HBi := Lib.hid hBi2
            have KQ : Hid (∀ V, RowKit.Below Rw w2 V → V.cell? ⟨D, c, none⟩ = some (.int .i64 (q : Int)) ∧ V.cell? ⟨bb, off + i, none⟩ = some (.slice aw lw cw)) := fun V hV => by
              have hV2 := hBi2.trans hV
              refine ⟨?_, ?_⟩
              · have h1 := HVr.out.cls HLC.out
                exact (World.cell?_of_block (hV2.block D hDR)).trans h1
              · exact (World.cell?_of_block (hV2.block bb hbbR)).trans HCE.out
            have i3 : (0 : Int) ≤ (i : Int) := by omega
            have i4 : (i : Int) < (n : Int) := by omega
            have i5 : (0 : Int) ≤ (q : Int) := by omega
            have i6 : (q : Int) < (m : Int) := by omega
            clear hb2 hBi2 c0 c1' hle
            refine wp_region_noPanic ?_
            refine wp_region_held_drew (S := RowKit.Below Rw w2) (by kernel_rfl) ((bel_drewN w2 1).mono (by rw [hB2]; exact HRB.out)) (fun hHeld => ?_)
            clear hB2
            refine wpAnyH_take (i := 0) (v := ?_) (by simp only [List.getElem?_toArray, List.getElem?_cons_zero, List.getElem?_cons_succ]; rfl) (by as_aux_lemma => kernel_rfl) (by as_aux_lemma => kernel_rfl) (by as_aux_lemma => kernel_rfl) (fun _ _ _ h => h) (Or.inl ⟨by rfl, ?_⟩) (by assumption) ?_
            rotate_left
            · intro V hV
              first | (go_simp; done) | (go_simp; with_reducible rfl)
            try simp only [Act.put, List.setIfInBounds_toArray, List.set_cons_zero, List.set_cons_succ]
            refine wpAnyH_take (i := 1) (v := ?_) (by simp only [List.getElem?_toArray, List.getElem?_cons_zero, List.getElem?_cons_succ]; rfl) (by as_aux_lemma => kernel_rfl) (by as_aux_lemma => kernel_rfl) (by as_aux_lemma => kernel_rfl) (fun _ _ _ h => h) (Or.inl ⟨by rfl, ?_⟩) (by assumption) ?_
            rotate_left
            · intro V hV
              first | (go_simp; done) | (go_simp; with_reducible rfl)
            try simp only [Act.put, List.setIfInBounds_toArray, List.set_cons_zero, List.set_cons_succ]
            refine wpAnyH_take (i := 2) (v := ?_) (by simp only [List.getElem?_toArray, List.getElem?_cons_zero, List.getElem?_cons_succ]; rfl) (by as_aux_lemma => kernel_rfl) (by as_aux_lemma => kernel_rfl) (by as_aux_lemma => kernel_rfl) (fun _ _ _ h => h) (Or.inl ⟨by rfl, ?_⟩) (by assumption) ?_
            rotate_left
            · intro V hV
              first | (go_simp; done) | (go_simp; with_reducible rfl)
            try simp only [Act.put, List.setIfInBounds_toArray, List.set_cons_zero, List.set_cons_succ]
            refine wpAnyH_take (i := 3) (v := ?_) (by simp only [List.getElem?_toArray, List.getElem?_cons_zero, List.getElem?_cons_succ]; rfl) (by as_aux_lemma => kernel_rfl) (by as_aux_lemma => kernel_rfl) (by as_aux_lemma => kernel_rfl) (fun _ _ _ h => h) (Or.inl ⟨by rfl, ?_⟩) (by assumption) ?_
            rotate_left
            · intro V hV
              first | (go_simp; done) | (go_simp; with_reducible rfl)
            try simp only [Act.put, List.setIfInBounds_toArray, List.set_cons_zero, List.set_cons_succ]
            refine wpAnyH_take (i := 4) (v := ?_) (by simp only [List.getElem?_toArray, List.getElem?_cons_zero, List.getElem?_cons_succ]; rfl) (by as_aux_lemma => kernel_rfl) (by as_aux_lemma => kernel_rfl) (by as_aux_lemma => kernel_rfl) (fun _ _ _ h => h) (Or.inl ⟨by rfl, ?_⟩) (by assumption) ?_
            rotate_left
            · intro V hV
              obtain ⟨q0, q1⟩ := KQ.out V hV
              first | (go_simp; done) | (go_simp; with_reducible rfl)
            try simp only [Act.put, List.setIfInBounds_toArray, List.set_cons_zero, List.set_cons_succ]
            refine wpAnyH_take (i := 5) (v := ?_) (by simp only [List.getElem?_toArray, List.getElem?_cons_zero, List.getElem?_cons_succ]; rfl) (by as_aux_lemma => kernel_rfl) (by as_aux_lemma => kernel_rfl) (by as_aux_lemma => kernel_rfl) (fun _ _ _ h => h) (Or.inl ⟨by rfl, ?_⟩) (by assumption) ?_
            rotate_left
            · intro V hV
              first | (go_simp; done) | (go_simp; with_reducible rfl)
            try simp only [Act.put, List.setIfInBounds_toArray, List.set_cons_zero, List.set_cons_succ]
            refine wpAnyH_take (i := 7) (v := ?_) (by simp only [List.getElem?_toArray, List.getElem?_cons_zero, List.getElem?_cons_succ]; rfl) (by as_aux_lemma => kernel_rfl) (by as_aux_lemma => kernel_rfl) (by as_aux_lemma => kernel_rfl) (fun _ _ _ h => h) (Or.inl ⟨by rfl, ?_⟩) (by assumption) ?_
            rotate_left
            · intro V hV
              first | (go_simp; done) | (go_simp; with_reducible rfl)
            try simp only [Act.put, List.setIfInBounds_toArray, List.set_cons_zero, List.set_cons_succ]
            refine wpAnyH_take (i := 8) (v := ?_) (by simp only [List.getElem?_toArray, List.getElem?_cons_zero, List.getElem?_cons_succ]; rfl) (by as_aux_lemma => kernel_rfl) (by as_aux_lemma => kernel_rfl) (by as_aux_lemma => kernel_rfl) (fun _ _ _ h => h) (Or.inl ⟨by rfl, ?_⟩) (by assumption) ?_
            rotate_left
            · intro V hV
              first | (go_simp; done) | (go_simp; with_reducible rfl)
            try simp only [Act.put, List.setIfInBounds_toArray, List.set_cons_zero, List.set_cons_succ]
            refine wpAnyH_take (i := 9) (v := ?_) (by simp only [List.getElem?_toArray, List.getElem?_cons_zero, List.getElem?_cons_succ]; rfl) (by as_aux_lemma => kernel_rfl) (by as_aux_lemma => kernel_rfl) (by as_aux_lemma => kernel_rfl) (fun _ _ _ h => h) (Or.inl ⟨by rfl, ?_⟩) (by assumption) ?_
            rotate_left
            · intro V hV
              first | (go_simp; done) | (go_simp; with_reducible rfl)
            try simp only [Act.put, List.setIfInBounds_toArray, List.set_cons_zero, List.set_cons_succ]
            refine wpAnyH_take (i := 10) (v := ?_) (by simp only [List.getElem?_toArray, List.getElem?_cons_zero, List.getElem?_cons_succ]; rfl) (by as_aux_lemma => kernel_rfl) (by as_aux_lemma => kernel_rfl) (by as_aux_lemma => kernel_rfl) (fun _ _ _ h => h) (Or.inl ⟨by rfl, ?_⟩) (by assumption) ?_
            rotate_left
            · intro V hV
              obtain ⟨q0, q1⟩ := KQ.out V hV
              first | (go_simp; done) | (go_simp; with_reducible rfl)
            try simp only [Act.put, List.setIfInBounds_toArray, List.set_cons_zero, List.set_cons_succ]
            refine wpAnyH_take (i := 12) (v := ?_) (by simp only [List.getElem?_toArray, List.getElem?_cons_zero, List.getElem?_cons_succ]; rfl) (by as_aux_lemma => kernel_rfl) (by as_aux_lemma => kernel_rfl) (by as_aux_lemma => kernel_rfl) (fun _ _ _ h => h) (Or.inl ⟨by rfl, ?_⟩) (by assumption) ?_
            rotate_left
            · intro V hV
              first | (go_simp; done) | (go_simp; with_reducible rfl)
            try simp only [Act.put, List.setIfInBounds_toArray, List.set_cons_zero, List.set_cons_succ]
            refine wpAnyH_take (i := 13) (v := ?_) (by simp only [List.getElem?_toArray, List.getElem?_cons_zero, List.getElem?_cons_succ]; rfl) (by as_aux_lemma => kernel_rfl) (by as_aux_lemma => kernel_rfl) (by as_aux_lemma => kernel_rfl) (fun _ _ _ h => h) (Or.inl ⟨by rfl, ?_⟩) (by assumption) ?_
            rotate_left
            · intro V hV
              first | (go_simp; done) | (go_simp; with_reducible rfl)
            try simp only [Act.put, List.setIfInBounds_toArray, List.set_cons_zero, List.set_cons_succ]
            refine wpAnyH_ready (rs := [6, 14]) (by as_aux_lemma => kernel_rfl) (by simp) ?_
            refine AllReadyH.cons (by simp only [List.getElem?_toArray, List.getElem?_cons_zero, List.getElem?_cons_succ]; rfl) (fun K hK => ?_) (AllReadyH.cons (by simp only [List.getElem?_toArray, List.getElem?_cons_zero, List.getElem?_cons_succ]; rfl) (fun K hK => ?_) AllReadyH.nil)
            · skip
              go_simp
              obtain ⟨WA, hWA⟩ : ∃ X, X = (w2.alloc (.cells #[] 5)).drew := ⟨_, rfl⟩
              have hBWA : RowKit.Below B2 w2 WA := by rw [hWA, ← HB2E.out]; exact (below_alloc w2 _).drew
              have hzWA : WA.heap.size = B2 + 1 := by rw [hWA, ← HB2E.out]; exact World.size_alloc _ _
              have own0 : WA.ownsRow B2 5 1 (.slice (some ⟨B2, 0, none⟩) 0 0) 0 #[].toList := by
                have h := World.ownsRow_lit (e := 5) (size := 1) w2 #[] 0 (Nat.le_refl _) (by unfold maxLen; omega) rfl
                rw [HB2E.out] at h
                rw [hWA]; exact h
              rw [HB2E.out, ← hWA]
              have hlWA : B2 ≤ WA.heap.size := by rw [← HB2E.out]; exact hBWA.size
              refine hK.out _ _ (hBWA.mono HRB.out) (fun hNew => ?_)
              clear hK K hHeld hWA
              have hHeld := hNew
              clear hNew
              try simp only [Act.put, List.setIfInBounds_toArray, List.set_cons_zero, List.set_cons_succ]
              refine wpAnyH_ready (rs := [11, 14]) (by as_aux_lemma => kernel_rfl) (by simp) ?_
              refine AllReadyH.cons (by simp only [List.getElem?_toArray, List.getElem?_cons_zero, List.getElem?_cons_succ]; rfl) (fun K hK => ?_) (AllReadyH.cons (by simp only [List.getElem?_toArray, List.getElem?_cons_zero, List.getElem?_cons_succ]; rfl) (fun K hK => ?_) AllReadyH.nil)
              · skip
                refine wanted_one (by kernel_rfl) ?_
                refine oper_append_slK WA _ _ 29 rfl B2 5 j0 (.int .u8 0) 1 1 Tryz.underlying29 hj hy0 hy1 hy2 rfl (by decide) (.slice (some ⟨B2, 0, none⟩) 0 0) 0 [] rfl own0 aw lw cw _ rfl (slK_of_u8 (HX2.out.below (by rw [HB2E.out]; exact hBWA)).1) (fun y hy => by obtain ⟨x, _, rfl⟩ := List.mem_map.1 hy; rfl) (by unfold maxLen; omega) (by omega) hlWA ?_
                intro v1 WB own1' hgrow1 hat1
                have hBWB : RowKit.Below B2 w2 WB := hBWA.grown hgrow1 hlWA (fun j hj => (row_lt own0 j hj).1)
                rw [Nat.zero_add, List.nil_append] at own1'
                have hlWB : B2 ≤ WB.heap.size := by rw [← HB2E.out]; exact hBWB.size
                refine hK.out _ _ (hBWB.mono HRB.out) (fun hNew => ?_)
                clear hK K hHeld 
                have hHeld := hNew
                clear hNew
                try simp only [Act.put, List.setIfInBounds_toArray, List.set_cons_zero, List.set_cons_succ]
                refine wpAnyH_ready (rs := [14]) (by as_aux_lemma => kernel_rfl) (by simp) ?_
                refine AllReadyH.cons (by simp only [List.getElem?_toArray, List.getElem?_cons_zero, List.getElem?_cons_succ]; rfl) (fun K hK => ?_) AllReadyH.nil
                go_simp
                obtain ⟨WC, hWC⟩ : ∃ X, X = WB.alloc (.cells #[.int .u8 (c : Int)] 5) := ⟨_, rfl⟩
                have hBWC : RowKit.Below B2 w2 WC := by rw [hWC]; exact hBWB.alloc hlWB _
                have ownC : WC.ownsRow B2 5 1 (.slice (some ⟨WB.heap.size, 0, none⟩) 1 1) 1 #[.int .u8 (c : Int)].toList := by rw [hWC]; exact World.ownsRow_lit WB #[.int .u8 (c : Int)] 1 hlWB (by unfold maxLen; omega) rfl
                rw [← hWC]
                have hlWC : B2 ≤ WC.heap.size := by rw [← HB2E.out]; exact hBWC.size
                have own1' := own1'.alloc (.cells #[.int .u8 (c : Int)] 5)
                rw [← hWC] at own1'
                refine hK.out _ _ (hBWC.mono HRB.out) (fun hNew => ?_)
                clear hK K hHeld hWC
                have hHeld := hNew
                clear hNew
                try simp only [Act.put, List.setIfInBounds_toArray, List.set_cons_zero, List.set_cons_succ]
                clear own0
                refine wpAnyH_ready (rs := [15]) (by as_aux_lemma => kernel_rfl) (by simp) ?_
                refine AllReadyH.cons (by simp only [List.getElem?_toArray, List.getElem?_cons_zero, List.getElem?_cons_succ]; rfl) (fun K hK => ?_) AllReadyH.nil
                refine wanted_one (by kernel_rfl) ?_
                obtain ⟨ag, cg, eg, _, sg⟩ := own_sl1 (enc := Value.int .u8) (xs := [(c : Int)]) ownC
                injection eg with eg1 eg2 eg3
                subst eg1 eg3
                refine oper_append_slK WC _ _ 29 rfl B2 5 j0 (.int .u8 0) 1 1 Tryz.underlying29 hj hy0 hy1 hy2 rfl (by decide) _ _ _ rfl own1' _ 1 1 _ rfl (slK_of_u8 sg) (fun y hy => by obtain ⟨x, _, rfl⟩ := List.mem_map.1 hy; rfl) (by unfold maxLen; omega) (by omega) hlWC ?_
                intro v2 WD own2 hgrow2 hat2
                have hBWD : RowKit.Below B2 w2 WD := hBWC.grown hgrow2 hlWC (fun j hj => (row_lt own1' j hj).1)
                rw [← List.map_append] at own2
                obtain ⟨a2, c2, rfl, hc2, hx2⟩ := own_bys own2 (fun y hy => by
                  rcases List.mem_append.1 hy with h | h
                  · exact HX2.out.2 y h
                  · simp at h; omega)
                clear own1' ownC sg eg2 hgrow2 hat2 own2
                refine hK.out _ _ (hBWD.mono HRB.out) (fun hNew => ?_)
                clear hK K hHeld 
                have hHeld := hNew
                clear hNew
                try simp only [Act.put, List.setIfInBounds_toArray, List.set_cons_zero, List.set_cons_succ]
                refine wpAnyH_ready (rs := [16]) (by as_aux_lemma => kernel_rfl) (by simp) ?_
                refine AllReadyH.cons (by simp only [List.getElem?_toArray, List.getElem?_cons_zero, List.getElem?_cons_succ]; rfl) (fun K hK => ?_) AllReadyH.nil
                go_simp
                go_at_call 32; refine (rnode11_any _ a2 n c1 (lw + 1) c2 (nodesL wss) (x ++ [(c : Int)]) WD (HN2.out.below (by rw [HB2E.out]; exact hBWD)) hx2 (by omega) (by omega) hc2 ((mem_nodesL wss).2 (.inl rfl))).mono ?_; rintro e WE ⟨rfl, hbE⟩
                have hBWE : RowKit.Below B2 w2 WE := hBWD.trans (hbE.mono (by rw [← HB2E.out]; exact hBWD.size))
                clear hbE hx2 hBWD
                refine hK.out _ _ (hBWE.mono HRB.out) (fun hNew => ?_)
                clear hK K hHeld 
                have hHeld := hNew
                clear hNew
                try simp only [Act.put, List.setIfInBounds_toArray, List.set_cons_zero, List.set_cons_succ]
                refine wpAnyH_take (i := 17) (v := ?_) (by simp only [List.getElem?_toArray, List.getElem?_cons_zero, List.getElem?_cons_succ]; rfl) (by as_aux_lemma => kernel_rfl) (by as_aux_lemma => kernel_rfl) (by as_aux_lemma => kernel_rfl) (fun _ _ _ h => h) (Or.inl ⟨by rfl, ?_⟩) (by assumption) ?_
                rotate_left
                · intro V hV
                  first | (go_simp; done) | (go_simp; with_reducible rfl)
                try simp only [Act.put, List.setIfInBounds_toArray, List.set_cons_zero, List.set_cons_succ]
                have hrE : IntRow Rw (rowC fold wss x c) WE := (hBWE.block _ (by rw [← HB2E.out]; exact HR2.out.lt)).trans HR2.out
                have ce := hrE.cell HY0.out
                have fe := hrE.frozen q
                have hrN : IntRow Rw (rowC fold wss x (c + 1)) (WE.setCell ⟨Rw, q, none⟩ (.int .i64 (placeS (nodesL wss) (lsf (nodesL wss) (x ++ [(c : Int)]))))) := by
                  have h := hrE.set (j := q) (placeS (nodesL wss) (lsf (nodesL wss) (x ++ [(c : Int)])))
                  have e : rowC fold wss x (c + 1) = (rowC fold wss x c).set q (placeS (nodesL wss) (lsf (nodesL wss) (x ++ [(c : Int)]))) := by
                    conv => lhs; unfold rowC
                    rw [if_pos HWQ.out, HQE.out]; rfl
                  rw [e]; exact h
                have HRN2 := Lib.hid hrN
                have HBE := Lib.hid hBWE
                obtain ⟨pv, hpv⟩ : ∃ pv, placeS (nodesL wss) (lsf (nodesL wss) (x ++ [(c : Int)])) = pv := ⟨_, rfl⟩
                rw [hpv] at HRN2 ⊢
                clear hrN hrE hBWE hpv
                refine wpAnyH_ready (rs := [18]) (by as_aux_lemma => kernel_rfl) (by simp) ?_
                refine AllReadyH.cons (by simp only [List.getElem?_toArray, List.getElem?_cons_zero, List.getElem?_cons_succ]; rfl) (fun K hK => ?_) AllReadyH.nil
                go_simp
                refine hK.out _ _ ((HBE.out.mono HRB.out).setCell (Nat.le_refl _) _) (fun hNew => ?_)
                clear hK K hHeld ce fe
                have hHeld := hNew
                clear hNew
                try simp only [Act.put, List.setIfInBounds_toArray, List.set_cons_zero, List.set_cons_succ]
                refine wpAnyH_done (by kernel_rfl) ?_ _
                refine NoPanic.normal ?_
                have HBN := Lib.hid (HBi.out.trans hHeld)
                clear hHeld
                go_wp2_with fail
                go_roundw
                case rel => exact ⟨c + 1, by omega, by go_num, HRN2, HBN⟩
                case measure => simp [intOf]; omega
              · skip
                go_simp
                obtain ⟨WB, hWB⟩ : ∃ X, X = WA.alloc (.cells #[.int .u8 (c : Int)] 5) := ⟨_, rfl⟩
                have hBWB : RowKit.Below B2 w2 WB := by rw [hWB]; exact hBWA.alloc hlWA _
                have ownC : WB.ownsRow B2 5 1 (.slice (some ⟨WA.heap.size, 0, none⟩) 1 1) 1 #[.int .u8 (c : Int)].toList := by rw [hWB]; exact World.ownsRow_lit WA #[.int .u8 (c : Int)] 1 hlWA (by unfold maxLen; omega) rfl
                rw [← hWB]
                have hlWB : B2 ≤ WB.heap.size := by rw [← HB2E.out]; exact hBWB.size
                rw [hzWA] at ownC
                have own0 := own0.alloc (.cells #[.int .u8 (c : Int)] 5)
                rw [← hWB] at own0
                refine hK.out _ _ (hBWB.mono HRB.out) (fun hNew => ?_)
                clear hK K hHeld hWB
                have hHeld := hNew
                clear hNew
                try simp only [Act.put, List.setIfInBounds_toArray, List.set_cons_zero, List.set_cons_succ]
                refine wpAnyH_ready (rs := [11]) (by as_aux_lemma => kernel_rfl) (by simp) ?_
                refine AllReadyH.cons (by simp only [List.getElem?_toArray, List.getElem?_cons_zero, List.getElem?_cons_succ]; rfl) (fun K hK => ?_) AllReadyH.nil
                refine wanted_one (by kernel_rfl) ?_
                refine oper_append_slK WB _ _ 29 rfl B2 5 j0 (.int .u8 0) 1 1 Tryz.underlying29 hj hy0 hy1 hy2 rfl (by decide) (.slice (some ⟨B2, 0, none⟩) 0 0) 0 [] rfl own0 aw lw cw _ rfl (slK_of_u8 (HX2.out.below (by rw [HB2E.out]; exact hBWB)).1) (fun y hy => by obtain ⟨x, _, rfl⟩ := List.mem_map.1 hy; rfl) (by unfold maxLen; omega) (by omega) hlWB ?_
                intro v1 WC own1' hgrow1 hat1
                have hBWC : RowKit.Below B2 w2 WC := hBWB.grown hgrow1 hlWB (fun j hj => (row_lt own0 j hj).1)
                rw [Nat.zero_add, List.nil_append] at own1'
                have hlWC : B2 ≤ WC.heap.size := by rw [← HB2E.out]; exact hBWC.size
                have ownC := World.ownsRow.kept ownC hgrow1 (.inr (fun e => by first | (simp [Value.ownBlock] at e; done) | (simp [Value.ownBlock] at e; omega)))
                refine hK.out _ _ (hBWC.mono HRB.out) (fun hNew => ?_)
                clear hK K hHeld 
                have hHeld := hNew
                clear hNew
                try simp only [Act.put, List.setIfInBounds_toArray, List.set_cons_zero, List.set_cons_succ]
                clear own0
                refine wpAnyH_ready (rs := [15]) (by as_aux_lemma => kernel_rfl) (by simp) ?_
                refine AllReadyH.cons (by simp only [List.getElem?_toArray, List.getElem?_cons_zero, List.getElem?_cons_succ]; rfl) (fun K hK => ?_) AllReadyH.nil
                refine wanted_one (by kernel_rfl) ?_
                obtain ⟨ag, cg, eg, _, sg⟩ := own_sl1 (enc := Value.int .u8) (xs := [(c : Int)]) ownC
                injection eg with eg1 eg2 eg3
                subst eg1 eg3
                refine oper_append_slK WC _ _ 29 rfl B2 5 j0 (.int .u8 0) 1 1 Tryz.underlying29 hj hy0 hy1 hy2 rfl (by decide) _ _ _ rfl own1' _ 1 1 _ rfl (slK_of_u8 sg) (fun y hy => by obtain ⟨x, _, rfl⟩ := List.mem_map.1 hy; rfl) (by unfold maxLen; omega) (by omega) hlWC ?_
                intro v2 WD own2 hgrow2 hat2
                have hBWD : RowKit.Below B2 w2 WD := hBWC.grown hgrow2 hlWC (fun j hj => (row_lt own1' j hj).1)
                rw [← List.map_append] at own2
                obtain ⟨a2, c2, rfl, hc2, hx2⟩ := own_bys own2 (fun y hy => by
                  rcases List.mem_append.1 hy with h | h
                  · exact HX2.out.2 y h
                  · simp at h; omega)
                clear own1' ownC sg eg2 hgrow2 hat2 own2
                refine hK.out _ _ (hBWD.mono HRB.out) (fun hNew => ?_)
                clear hK K hHeld 
                have hHeld := hNew
                clear hNew
                try simp only [Act.put, List.setIfInBounds_toArray, List.set_cons_zero, List.set_cons_succ]
                refine wpAnyH_ready (rs := [16]) (by as_aux_lemma => kernel_rfl) (by simp) ?_
                refine AllReadyH.cons (by simp only [List.getElem?_toArray, List.getElem?_cons_zero, List.getElem?_cons_succ]; rfl) (fun K hK => ?_) AllReadyH.nil
                go_simp
                go_at_call 32; refine (rnode11_any _ a2 n c1 (lw + 1) c2 (nodesL wss) (x ++ [(c : Int)]) WD (HN2.out.below (by rw [HB2E.out]; exact hBWD)) hx2 (by omega) (by omega) hc2 ((mem_nodesL wss).2 (.inl rfl))).mono ?_; rintro e WE ⟨rfl, hbE⟩
                have hBWE : RowKit.Below B2 w2 WE := hBWD.trans (hbE.mono (by rw [← HB2E.out]; exact hBWD.size))
                clear hbE hx2 hBWD
                refine hK.out _ _ (hBWE.mono HRB.out) (fun hNew => ?_)
                clear hK K hHeld 
                have hHeld := hNew
                clear hNew
                try simp only [Act.put, List.setIfInBounds_toArray, List.set_cons_zero, List.set_cons_succ]
                refine wpAnyH_take (i := 17) (v := ?_) (by simp only [List.getElem?_toArray, List.getElem?_cons_zero, List.getElem?_cons_succ]; rfl) (by as_aux_lemma => kernel_rfl) (by as_aux_lemma => kernel_rfl) (by as_aux_lemma => kernel_rfl) (fun _ _ _ h => h) (Or.inl ⟨by rfl, ?_⟩) (by assumption) ?_
                rotate_left
                · intro V hV
                  first | (go_simp; done) | (go_simp; with_reducible rfl)
                try simp only [Act.put, List.setIfInBounds_toArray, List.set_cons_zero, List.set_cons_succ]
                have hrE : IntRow Rw (rowC fold wss x c) WE := (hBWE.block _ (by rw [← HB2E.out]; exact HR2.out.lt)).trans HR2.out
                have ce := hrE.cell HY0.out
                have fe := hrE.frozen q
                have hrN : IntRow Rw (rowC fold wss x (c + 1)) (WE.setCell ⟨Rw, q, none⟩ (.int .i64 (placeS (nodesL wss) (lsf (nodesL wss) (x ++ [(c : Int)]))))) := by
                  have h := hrE.set (j := q) (placeS (nodesL wss) (lsf (nodesL wss) (x ++ [(c : Int)])))
                  have e : rowC fold wss x (c + 1) = (rowC fold wss x c).set q (placeS (nodesL wss) (lsf (nodesL wss) (x ++ [(c : Int)]))) := by
                    conv => lhs; unfold rowC
                    rw [if_pos HWQ.out, HQE.out]; rfl
                  rw [e]; exact h
                have HRN2 := Lib.hid hrN
                have HBE := Lib.hid hBWE
                obtain ⟨pv, hpv⟩ : ∃ pv, placeS (nodesL wss) (lsf (nodesL wss) (x ++ [(c : Int)])) = pv := ⟨_, rfl⟩
                rw [hpv] at HRN2 ⊢
                clear hrN hrE hBWE hpv
                refine wpAnyH_ready (rs := [18]) (by as_aux_lemma => kernel_rfl) (by simp) ?_
                refine AllReadyH.cons (by simp only [List.getElem?_toArray, List.getElem?_cons_zero, List.getElem?_cons_succ]; rfl) (fun K hK => ?_) AllReadyH.nil
                go_simp
                refine hK.out _ _ ((HBE.out.mono HRB.out).setCell (Nat.le_refl _) _) (fun hNew => ?_)
                clear hK K hHeld ce fe
                have hHeld := hNew
                clear hNew
                try simp only [Act.put, List.setIfInBounds_toArray, List.set_cons_zero, List.set_cons_succ]
                refine wpAnyH_done (by kernel_rfl) ?_ _
                refine NoPanic.normal ?_
                have HBN := Lib.hid (HBi.out.trans hHeld)
                clear hHeld
                go_wp2_with fail
                go_roundw
                case rel => exact ⟨c + 1, by omega, by go_num, HRN2, HBN⟩
                case measure => simp [intOf]; omega
            · skip
              go_simp
              obtain ⟨WA, hWA⟩ : ∃ X, X = (w2.alloc (.cells #[.int .u8 (c : Int)] 5)).drew := ⟨_, rfl⟩
              have hBWA : RowKit.Below B2 w2 WA := by rw [hWA, ← HB2E.out]; exact (below_alloc w2 _).drew
              have hzWA : WA.heap.size = B2 + 1 := by rw [hWA, ← HB2E.out]; exact World.size_alloc _ _
              have ownC : WA.ownsRow B2 5 1 (.slice (some ⟨B2, 0, none⟩) 1 1) 1 #[.int .u8 (c : Int)].toList := by
                have h := World.ownsRow_lit (e := 5) (size := 1) w2 #[.int .u8 (c : Int)] 1 (Nat.le_refl _) (by unfold maxLen; omega) rfl
                rw [HB2E.out] at h
                rw [hWA]; exact h
              rw [HB2E.out, ← hWA]
              have hlWA : B2 ≤ WA.heap.size := by rw [← HB2E.out]; exact hBWA.size
              refine hK.out _ _ (hBWA.mono HRB.out) (fun hNew => ?_)
              clear hK K hHeld hWA
              have hHeld := hNew
              clear hNew
              try simp only [Act.put, List.setIfInBounds_toArray, List.set_cons_zero, List.set_cons_succ]
              refine wpAnyH_ready (rs := [6]) (by as_aux_lemma => kernel_rfl) (by simp) ?_
              refine AllReadyH.cons (by simp only [List.getElem?_toArray, List.getElem?_cons_zero, List.getElem?_cons_succ]; rfl) (fun K hK => ?_) AllReadyH.nil
              go_simp
              obtain ⟨WB, hWB⟩ : ∃ X, X = WA.alloc (.cells #[] 5) := ⟨_, rfl⟩
              have hBWB : RowKit.Below B2 w2 WB := by rw [hWB]; exact hBWA.alloc hlWA _
              have own0 : WB.ownsRow B2 5 1 (.slice (some ⟨WA.heap.size, 0, none⟩) 0 0) 0 #[].toList := by rw [hWB]; exact World.ownsRow_lit WA #[] 0 hlWA (by unfold maxLen; omega) rfl
              rw [← hWB]
              have hlWB : B2 ≤ WB.heap.size := by rw [← HB2E.out]; exact hBWB.size
              rw [hzWA] at own0
              have ownC := ownC.alloc (.cells #[] 5)
              rw [← hWB] at ownC
              refine hK.out _ _ (hBWB.mono HRB.out) (fun hNew => ?_)
              clear hK K hHeld hWB
              have hHeld := hNew
              clear hNew
              try simp only [Act.put, List.setIfInBounds_toArray, List.set_cons_zero, List.set_cons_succ]
              refine wpAnyH_ready (rs := [11]) (by as_aux_lemma => kernel_rfl) (by simp) ?_
              refine AllReadyH.cons (by simp only [List.getElem?_toArray, List.getElem?_cons_zero, List.getElem?_cons_succ]; rfl) (fun K hK => ?_) AllReadyH.nil
              refine wanted_one (by kernel_rfl) ?_
              refine oper_append_slK WB _ _ 29 rfl B2 5 j0 (.int .u8 0) 1 1 Tryz.underlying29 hj hy0 hy1 hy2 rfl (by decide) (.slice (some ⟨B2 + 1, 0, none⟩) 0 0) 0 [] rfl own0 aw lw cw _ rfl (slK_of_u8 (HX2.out.below (by rw [HB2E.out]; exact hBWB)).1) (fun y hy => by obtain ⟨x, _, rfl⟩ := List.mem_map.1 hy; rfl) (by unfold maxLen; omega) (by omega) hlWB ?_
              intro v1 WC own1' hgrow1 hat1
              have hBWC : RowKit.Below B2 w2 WC := hBWB.grown hgrow1 hlWB (fun j hj => (row_lt own0 j hj).1)
              rw [Nat.zero_add, List.nil_append] at own1'
              have hlWC : B2 ≤ WC.heap.size := by rw [← HB2E.out]; exact hBWC.size
              have ownC := World.ownsRow.kept ownC hgrow1 (.inr (fun e => by first | (simp [Value.ownBlock] at e; done) | (simp [Value.ownBlock] at e; omega)))
              refine hK.out _ _ (hBWC.mono HRB.out) (fun hNew => ?_)
              clear hK K hHeld 
              have hHeld := hNew
              clear hNew
              try simp only [Act.put, List.setIfInBounds_toArray, List.set_cons_zero, List.set_cons_succ]
              clear own0
              refine wpAnyH_ready (rs := [15]) (by as_aux_lemma => kernel_rfl) (by simp) ?_
              refine AllReadyH.cons (by simp only [List.getElem?_toArray, List.getElem?_cons_zero, List.getElem?_cons_succ]; rfl) (fun K hK => ?_) AllReadyH.nil
              refine wanted_one (by kernel_rfl) ?_
              obtain ⟨ag, cg, eg, _, sg⟩ := own_sl1 (enc := Value.int .u8) (xs := [(c : Int)]) ownC
              injection eg with eg1 eg2 eg3
              subst eg1 eg3
              refine oper_append_slK WC _ _ 29 rfl B2 5 j0 (.int .u8 0) 1 1 Tryz.underlying29 hj hy0 hy1 hy2 rfl (by decide) _ _ _ rfl own1' _ 1 1 _ rfl (slK_of_u8 sg) (fun y hy => by obtain ⟨x, _, rfl⟩ := List.mem_map.1 hy; rfl) (by unfold maxLen; omega) (by omega) hlWC ?_
              intro v2 WD own2 hgrow2 hat2
              have hBWD : RowKit.Below B2 w2 WD := hBWC.grown hgrow2 hlWC (fun j hj => (row_lt own1' j hj).1)
              rw [← List.map_append] at own2
              obtain ⟨a2, c2, rfl, hc2, hx2⟩ := own_bys own2 (fun y hy => by
                rcases List.mem_append.1 hy with h | h
                · exact HX2.out.2 y h
                · simp at h; omega)
              clear own1' ownC sg eg2 hgrow2 hat2 own2
              refine hK.out _ _ (hBWD.mono HRB.out) (fun hNew => ?_)
              clear hK K hHeld 
              have hHeld := hNew
              clear hNew
              try simp only [Act.put, List.setIfInBounds_toArray, List.set_cons_zero, List.set_cons_succ]
              refine wpAnyH_ready (rs := [16]) (by as_aux_lemma => kernel_rfl) (by simp) ?_
              refine AllReadyH.cons (by simp only [List.getElem?_toArray, List.getElem?_cons_zero, List.getElem?_cons_succ]; rfl) (fun K hK => ?_) AllReadyH.nil
              go_simp
              go_at_call 32; refine (rnode11_any _ a2 n c1 (lw + 1) c2 (nodesL wss) (x ++ [(c : Int)]) WD (HN2.out.below (by rw [HB2E.out]; exact hBWD)) hx2 (by omega) (by omega) hc2 ((mem_nodesL wss).2 (.inl rfl))).mono ?_; rintro e WE ⟨rfl, hbE⟩
              have hBWE : RowKit.Below B2 w2 WE := hBWD.trans (hbE.mono (by rw [← HB2E.out]; exact hBWD.size))
              clear hbE hx2 hBWD
              refine hK.out _ _ (hBWE.mono HRB.out) (fun hNew => ?_)
              clear hK K hHeld 
              have hHeld := hNew
              clear hNew
              try simp only [Act.put, List.setIfInBounds_toArray, List.set_cons_zero, List.set_cons_succ]
              refine wpAnyH_take (i := 17) (v := ?_) (by simp only [List.getElem?_toArray, List.getElem?_cons_zero, List.getElem?_cons_succ]; rfl) (by as_aux_lemma => kernel_rfl) (by as_aux_lemma => kernel_rfl) (by as_aux_lemma => kernel_rfl) (fun _ _ _ h => h) (Or.inl ⟨by rfl, ?_⟩) (by assumption) ?_
              rotate_left
              · intro V hV
                first | (go_simp; done) | (go_simp; with_reducible rfl)
              try simp only [Act.put, List.setIfInBounds_toArray, List.set_cons_zero, List.set_cons_succ]
              have hrE : IntRow Rw (rowC fold wss x c) WE := (hBWE.block _ (by rw [← HB2E.out]; exact HR2.out.lt)).trans HR2.out
              have ce := hrE.cell HY0.out
              have fe := hrE.frozen q
              have hrN : IntRow Rw (rowC fold wss x (c + 1)) (WE.setCell ⟨Rw, q, none⟩ (.int .i64 (placeS (nodesL wss) (lsf (nodesL wss) (x ++ [(c : Int)]))))) := by
                have h := hrE.set (j := q) (placeS (nodesL wss) (lsf (nodesL wss) (x ++ [(c : Int)])))
                have e : rowC fold wss x (c + 1) = (rowC fold wss x c).set q (placeS (nodesL wss) (lsf (nodesL wss) (x ++ [(c : Int)]))) := by
                  conv => lhs; unfold rowC
                  rw [if_pos HWQ.out, HQE.out]; rfl
                rw [e]; exact h
              have HRN2 := Lib.hid hrN
              have HBE := Lib.hid hBWE
              obtain ⟨pv, hpv⟩ : ∃ pv, placeS (nodesL wss) (lsf (nodesL wss) (x ++ [(c : Int)])) = pv := ⟨_, rfl⟩
              rw [hpv] at HRN2 ⊢
              clear hrN hrE hBWE hpv
              refine wpAnyH_ready (rs := [18]) (by as_aux_lemma => kernel_rfl) (by simp) ?_
              refine AllReadyH.cons (by simp only [List.getElem?_toArray, List.getElem?_cons_zero, List.getElem?_cons_succ]; rfl) (fun K hK => ?_) AllReadyH.nil
              go_simp
              refine hK.out _ _ ((HBE.out.mono HRB.out).setCell (Nat.le_refl _) _) (fun hNew => ?_)
              clear hK K hHeld ce fe
              have hHeld := hNew
              clear hNew
              try simp only [Act.put, List.setIfInBounds_toArray, List.set_cons_zero, List.set_cons_succ]
              refine wpAnyH_done (by kernel_rfl) ?_ _
              refine NoPanic.normal ?_
              have HBN := Lib.hid (HBi.out.trans hHeld)
              clear hHeld
              go_wp2_with fail
              go_roundw
              case rel => exact ⟨c + 1, by omega, by go_num, HRN2, HBN⟩
              case measure => simp [intOf]; omega
        · obtain rfl : c = 256 := by omega
          have hd2 : decide ((256 : Int) < 256) = false := by decide
          have hle : Rw ≤ wr.heap.size := by have := HBi.out.size; rw [HRwE.out] at this; exact this
          have hBS := HBi.out
          have hV := HVr.out.below (hBS.mono (by rw [HRwE.out]; exact Nat.le_refl _))
          have hO := own_belowR HOr.out (hBS.mono (by rw [HRwE.out]; exact Nat.le_refl _))
          have cr := hV.cells.2
          have hsl : Sl1 (Value.int .i64) wr (some ⟨Rw, 0, none⟩) m (rowC fold wss x 256) := by
            have h := HRi.out.sl1
            rwa [rowC_len, HMM.out] at h
          have hwR : w6.heap.size ≤ Rw := by have := HKr.out.2; rw [HRwE.out] at this; exact this
          have hbase : w6.heap.size ≤ wr.heap.size := Nat.le_trans hwR hle
          have him : i * m + m ≤ 400 * 257 + 257 := by
            have := Nat.mul_le_mul (show i ≤ 400 by omega) hm257.2
            omega
          have HO2 := Lib.hid hO
          have HV2 := Lib.hid hV
          have HSL := Lib.hid hsl
          obtain ⟨IM, hIM⟩ : ∃ IM, i * m = IM := ⟨_, rfl⟩
          rw [hIM] at HO2 him
          have HIM := Lib.hid hIM
          clear hO hV hsl hIM c0 c1'
          go_upto_region 15 with fail
          iterate 10 (first | go_values | go_skip | go_guarded | go_step)
          refine wpList_append_sl1 rfl _ _ 26 rfl (fun _ => rfl) w6.heap.size 3 i0 (.int .i64 0) 8 Tryz.underlying26 hi hz0 hzz1 hzz2 rfl v IM _ rfl HO2.out (some ⟨Rw, 0, none⟩) m m (rowC fold wss x 256) rfl HSL.out (by unfold maxLen; omega) (by omega) hbase ?_
          intro v' WF own' hgrow hat
          rw [← List.map_append] at own'
          obtain ⟨ar, cr', rfl, _, sr⟩ := own_sl1 (enc := Value.int .i64) own'
          have hBF : RowKit.Below w6.heap.size wr WF := (Below.refl _ _).grown hgrow hbase (fun j hj => (row_lt HO2.out j hj).1)
          have hVF : Dv WF D L m v := ⟨(hBF.block D hD6).trans HV2.out.box, HV2.out.len⟩
          have cF := hVF.cells.2
          have fF := hVF.frozen 257
          have hVG := hVF.setRows (.slice ar (IM + m) cr')
          have hOG := own_setCellR (D := D) (o := 257) (u := .slice ar (IM + m) cr') own' hD6
          have HVG := Lib.hid hVG
          have HOG := Lib.hid hOG
          have HBF := Lib.hid hBF
          have HBS := Lib.hid hBS
          have HRS : Hid (rowsC fold wss i ++ rowC fold wss x 256 = rowsC fold wss (i + 1)) := by
            rw [Hid]
            show _ = rowsC fold wss i ++ rowC fold wss (((nodesL wss)[i]?).getD []) 256
            rw [HXI.out]; rfl
          clear hVF hVG hOG own' hgrow hat sr hBF hBS cr
          go_wp2_with fail
          go_roundw
          case rel =>
            refine ⟨i + 1, _, by omega, by go_num, HVG.out, ?_, ?_, ?_, ?_⟩
            · rw [Hid, Nat.succ_mul, HIM.out, ← HRS.out]; exact HOG.out
            · exact (HBr.out.trans ((HBS.out.mono (by omega)).trans (HBF.out.mono (Nat.le_of_lt hD6)))).setCell (Nat.le_refl _) _
            · intro j hj hj6
              refine (Below.heap_setCell _ _ _ _ (by show j ≠ D; exact hj)).trans ((HBF.out.block j hj6).trans ((HBS.out.block j (by omega)).trans (HKr.out.1 j hj hj6)))
            · have := HBF.out.size
              rw [World.size_setCell]; omega
          case measure => simp [intOf]; omega
    · obtain rfl : i = n := by omega
      have hd : decide ((i : Int) < (i : Int)) = false := by simp
      have hlo := fun k hk => (row_lt HOr.out k hk).1
      obtain ⟨ar, cr, rfl, hcr, sr⟩ := own_sl1 (enc := Value.int .i64) HOr.out
      have hall : rowsC fold wss i = tabP fold wss := by
        have := rowsC_all HOK.out
        rwa [HN.out] at this
      rw [hall] at sr
      have hlen : i * m ≤ 400 * 257 := Nat.mul_le_mul (by omega) hm257.2
      have hro : ∀ y, ar = some y → w6.heap.size ≤ y.block := fun y e => hlo y.block (by rw [e]; rfl)
      have h1 : wr.heap[w.heap.size + 1]? = some (.cells Tryz.zeroCells28 28 (0, 0)) := (HKr.out.1 _ (by omega) (by omega)).trans H61.out
      have hbx := HVr.out.box
      have hzl := dv_info hLl (m : Int) (.slice ar (i * m) cr)
      have hzo := dv_old hLl (m : Int) (.slice ar (i * m) cr)
      have hz1 := dvC_one L (m : Int) (.slice ar (i * m) cr) rfl
      obtain ⟨Z, hZ⟩ : ∃ Z, (dvC L (m : Int) (.slice ar (i * m) cr)).toArray = Z := ⟨_, rfl⟩
      rw [hZ] at hbx hzl hzo hz1
      have HBXX := Lib.hid hbx
      have HZI := Lib.hid hzl
      have HZO := Lib.hid hzo
      have HZ1 := Lib.hid hz1
      have HZE := Lib.hid hZ
      have H1 := Lib.hid h1
      have H2 := Lib.hid (setRow_heap wr (w.heap.size + 1) _ Z _ _ h1)
      have HSR := Lib.hid sr
      have HRO := Lib.hid hro
      clear hbx hzl hzo hz1 hZ h1 sr hro hlo hall
      go_upto_region 16 with fail
      iterate 1 (first | go_values | go_skip | go_guarded | go_step)
      refine wpList_load_row rfl 28 _ rfl D rfl 28 Z (0, 0) _ HBXX.out Tryz.underlying28 rfl HZI.out ?_
      refine wpList_store_row rfl 28 _ _ rfl (w.heap.size + 1) Z rfl rfl 28 _ H1.out HZI.out HZO.out HZ1.out ?_
      go_wp2_with fail
      refine bodyPost_ret (results_dense2 rfl rfl H2.out HZI.out) rfl ?_
      exact ⟨ar, i * m, cr, by rw [HZE.out]; rfl, sl1_setRow HSR.out _ _ (fun y e => by have := HRO.out y e; omega), by omega, below_setRow (HB6.out.trans (HBr.out.mono (by omega))) (by omega) _⟩
end Go.Proofs.YtjfhefffbkpgkaaGreat

/- The document's tables (layer 11): where one goes on by bytes; walked. Printed by exp.py. -/

namespace Go.Proofs.YtjfhefffbkpgkaaGreat
open Go.RowKit Go.Sort
set_option linter.unusedVariables false
set_option linter.unusedSimpArgs false

set_option maxRecDepth 100000 in
set_option maxHeartbeats 8000000 in
theorem rrun11_any (L F bs : List Int) (m : Int) (a : Option Addr) (n c0 : Nat) (node : Int) (ab : Option Addr) (lb cb : Nat) (w : World) (hL : L.length = 256) (hF : Sl1 (Value.int .i64) w a n F) (hn : n ≤ 1000000000) (hbs : Bys w ab lb bs) (hlb : lb ≤ 1000000) :
    Calls Tryz.prog 15 #[.agg (dvC L m (.slice a n c0)).toArray, .int .i64 node, .slice ab lb cb] w fun e w' => e = .returned (goDV (runD L m F node bs)) ∧ Below w.heap.size w w' := by
  have HN := Lib.hid (fun V (hV : Sl1 (Value.int .i64) V a n F) (z : Int) (c : Nat) (hc : c < 256) => rnext11_any L F m a n c0 z c V hL hV hn hc)
  have hD := Dv.new w L m (.slice a n c0) hL
  have hB : Below w.heap.size w (w.alloc (.cells (dvC L m (.slice a n c0)).toArray 28)) := below_alloc _ _
  obtain ⟨W, hW⟩ : ∃ W, W = w.alloc (.cells (dvC L m (.slice a n c0)).toArray 28) := ⟨_, rfl⟩
  rw [← hW] at hD hB
  have hF2 := hF.below hB
  have hb2 := hbs.below hB
  have hBox := hD.box
  have hsz : (Tryz.prog.info? 28).map (·.size) = some (dvC L m (.slice a n c0)).toArray.size := by rw [dvC_size hL]; exact info28
  obtain ⟨A, hA⟩ : ∃ A, (dvC L m (.slice a n c0)).toArray = A := ⟨_, rfl⟩
  rw [hA] at hW hBox hsz HN ⊢
  have hlen := hbs.len
  have HBox := Lib.hid hBox
  have HSz := Lib.hid hsz
  have HF2 := Lib.hid hF2
  have HBS := Lib.hid hb2
  have HB := Lib.hid hB
  have HLEN := Lib.hid hlen
  have hlt0 : w.heap.size < W.heap.size := hD.lt
  clear hA hD hBox hsz hF hF2 hbs hb2 hB hlen hL
  go_enter Tryz.func15, Tryz.ntmps15
  go_upto_region 1 with fail
  rw [← hW]
  clear hW
  go_wp2_with fail
  go_loopw [1, 8] (fun s1 s8 wr => ∃ (i : Nat) (z : Int), i ≤ lb ∧ s8 = .int .i64 i ∧ s1 = .int .i64 z ∧ Hid (runD L m F node bs = runD L m F z (bs.drop i)) ∧ Below W.heap.size W wr) (fun _ s _ => lb - (intOf s).toNat)
  case atStart => exact ⟨0, node, Nat.zero_le _, rfl, rfl, rfl, Below.refl _ _⟩
  case round =>
    obtain ⟨i, z, hi, rfl, rfl, HZ, hb⟩ := hrel
    have HBr := Lib.hid hb
    have KX : Hid (∀ V, RowKit.Below wr.heap.size wr V → V.heap[w.heap.size]? = some (.cells A 28 (0, 0))) := fun V hV => ((HBr.out.trans (hV.mono HBr.out.size)).block _ hlt0).trans HBox.out
    have hbr := HBS.out.below hb
    by_cases hil : i < lb
    · have hd : decide ((i : Int) < (lb : Int)) = true := by simp; omega
      obtain ⟨b0, o0, x, e0, hl0, cx, hx⟩ := sl1_at hbr.1 hil
      subst e0
      have hxr := hbr.2 x (List.mem_of_getElem? hx)
      obtain ⟨c, rfl⟩ : ∃ c : Nat, x = (c : Int) := ⟨x.toNat, by omega⟩
      have i1 : (0 : Int) ≤ (i : Int) := by omega
      have i2 : (i : Int) < (lb : Int) := by omega
      have hc : c < 256 := by omega
      have hstep : runD L m F z (bs.drop i) = (goD L m F z c).bind fun y => runD L m F y (bs.drop (i + 1)) := by
        have e : bs.drop i = (c : Int) :: bs.drop (i + 1) := by
          obtain ⟨hlt, he⟩ := List.getElem?_eq_some_iff.1 hx
          rw [List.drop_eq_getElem_cons hlt, he]
        rw [e]
        show ((goD L m F z ((c : Int).toNat)).bind _) = _
        rw [Int.toNat_natCast]
      rw [hstep] at HZ
      have KT : Hid (∀ V, RowKit.Below wr.heap.size wr V → V.cell? ⟨b0, o0 + i, none⟩ = some (.int .u8 (c : Int))) := fun V hV => (World.cell?_of_block (hV.block _ hl0)).trans cx
      clear hbr hx hb hstep cx
      cases hg : goD L m F z c with
      | some y =>
        rw [hg] at HZ
        have K1 : Hid (∀ V, RowKit.Below wr.heap.size wr V → Calls Tryz.prog 13 #[.agg A, .int .i64 z, .int .u8 (c : Int)] V fun e w' => e = .returned (.tuple #[.int .i64 y, .bool true]) ∧ RowKit.Below V.heap.size V w') := fun V hV => by
          have h := HN.out V (HF2.out.below (HBr.out.trans (hV.mono HBr.out.size))) z c hc
          rw [hg] at h
          exact h
        have HZ2 : Hid (runD L m F node bs = runD L m F y (bs.drop (i + 1))) := HZ
        clear hg
        go_upto_region 4 with fail
        refine wp_region_noPanic ?_
        refine wp_region_held_drew (S := RowKit.Below wr.heap.size wr) (by kernel_rfl) (bel_drewN wr 1) (fun hHeld => ?_)
        refine' wpAnyH_take (i := 0) (v := _) (by simp only [List.getElem?_toArray, List.getElem?_cons_zero, List.getElem?_cons_succ]; rfl) (by as_aux_lemma => kernel_rfl) (by as_aux_lemma => kernel_rfl) (by as_aux_lemma => kernel_rfl) (fun _ _ _ h => h) (yieldsIf_load_row (by rfl) _ _ rfl w.heap.size rfl 28 A (0, 0) _ KX.out Tryz.underlying28 rfl HSz.out) (by assumption) ?_
        try simp only [Act.put, List.setIfInBounds_toArray, List.set_cons_zero, List.set_cons_succ]
        refine wpAnyH_take (i := 1) (v := ?_) (by simp only [List.getElem?_toArray, List.getElem?_cons_zero, List.getElem?_cons_succ]; rfl) (by as_aux_lemma => kernel_rfl) (by as_aux_lemma => kernel_rfl) (by as_aux_lemma => kernel_rfl) (fun _ _ _ h => h) (Or.inl ⟨by rfl, ?_⟩) (by assumption) ?_
        rotate_left
        · intro V hV
          first | (go_simp; done) | (go_simp; with_reducible rfl)
        try simp only [Act.put, List.setIfInBounds_toArray, List.set_cons_zero, List.set_cons_succ]
        refine wpAnyH_take (i := 2) (v := ?_) (by simp only [List.getElem?_toArray, List.getElem?_cons_zero, List.getElem?_cons_succ]; rfl) (by as_aux_lemma => kernel_rfl) (by as_aux_lemma => kernel_rfl) (by as_aux_lemma => kernel_rfl) (fun _ _ _ h => h) (Or.inl ⟨by rfl, ?_⟩) (by assumption) ?_
        rotate_left
        · intro V hV
          first | (go_simp; done) | (go_simp; with_reducible rfl)
        try simp only [Act.put, List.setIfInBounds_toArray, List.set_cons_zero, List.set_cons_succ]
        refine wpAnyH_take (i := 3) (v := ?_) (by simp only [List.getElem?_toArray, List.getElem?_cons_zero, List.getElem?_cons_succ]; rfl) (by as_aux_lemma => kernel_rfl) (by as_aux_lemma => kernel_rfl) (by as_aux_lemma => kernel_rfl) (fun _ _ _ h => h) (Or.inl ⟨by rfl, ?_⟩) (by assumption) ?_
        rotate_left
        · intro V hV
          first | (go_simp; done) | (go_simp; with_reducible rfl)
        try simp only [Act.put, List.setIfInBounds_toArray, List.set_cons_zero, List.set_cons_succ]
        refine wpAnyH_take (i := 4) (v := ?_) (by simp only [List.getElem?_toArray, List.getElem?_cons_zero, List.getElem?_cons_succ]; rfl) (by as_aux_lemma => kernel_rfl) (by as_aux_lemma => kernel_rfl) (by as_aux_lemma => kernel_rfl) (fun _ _ _ h => h) (Or.inl ⟨by rfl, ?_⟩) (by assumption) ?_
        rotate_left
        · intro V hV
          first | (go_simp; done) | (go_simp; with_reducible rfl)
        try simp only [Act.put, List.setIfInBounds_toArray, List.set_cons_zero, List.set_cons_succ]
        refine wpAnyH_take (i := 5) (v := ?_) (by simp only [List.getElem?_toArray, List.getElem?_cons_zero, List.getElem?_cons_succ]; rfl) (by as_aux_lemma => kernel_rfl) (by as_aux_lemma => kernel_rfl) (by as_aux_lemma => kernel_rfl) (fun _ _ _ h => h) (Or.inl ⟨by rfl, ?_⟩) (by assumption) ?_
        rotate_left
        · intro V hV
          have r0 := KT.out V hV
          first | (go_simp; done) | (go_simp; with_reducible rfl)
        try simp only [Act.put, List.setIfInBounds_toArray, List.set_cons_zero, List.set_cons_succ]
        refine wpAnyH_one (i := 6) (vi := .tuple #[.int .i64 y, .bool true]) (by simp only [List.getElem?_toArray, List.getElem?_cons_zero, List.getElem?_cons_succ]; rfl) (by as_aux_lemma => kernel_rfl) ?_ ?_ _ hHeld
        · intro V hV K hK
          try simp only [Act.put, List.setIfInBounds_toArray, List.set_cons_zero, List.set_cons_succ] at hK
          go_simp
          go_at_call 13; refine (K1.out V hV).mono ?_; rintro e w2 ⟨rfl, hb2⟩; exact hK _ (hV.trans (hb2.mono hV.size))
        clear hHeld
        intro V1 hHeld
        try simp only [Act.put, List.setIfInBounds_toArray, List.set_cons_zero, List.set_cons_succ]
        refine wpAnyH_take (i := 7) (v := ?_) (by simp only [List.getElem?_toArray, List.getElem?_cons_zero, List.getElem?_cons_succ]; rfl) (by as_aux_lemma => kernel_rfl) (by as_aux_lemma => kernel_rfl) (by as_aux_lemma => kernel_rfl) (fun _ _ _ h => h) (Or.inl ⟨by rfl, ?_⟩) (by assumption) ?_
        rotate_left
        · intro V hV
          first | (go_simp; done) | (go_simp; with_reducible rfl)
        try simp only [Act.put, List.setIfInBounds_toArray, List.set_cons_zero, List.set_cons_succ]
        refine wpAnyH_take (i := 8) (v := ?_) (by simp only [List.getElem?_toArray, List.getElem?_cons_zero, List.getElem?_cons_succ]; rfl) (by as_aux_lemma => kernel_rfl) (by as_aux_lemma => kernel_rfl) (by as_aux_lemma => kernel_rfl) (fun _ _ _ h => h) (Or.inl ⟨by rfl, ?_⟩) (by assumption) ?_
        rotate_left
        · intro V hV
          first | (go_simp; done) | (go_simp; with_reducible rfl)
        try simp only [Act.put, List.setIfInBounds_toArray, List.set_cons_zero, List.set_cons_succ]
        refine wpAnyH_take (i := 9) (v := ?_) (by simp only [List.getElem?_toArray, List.getElem?_cons_zero, List.getElem?_cons_succ]; rfl) (by as_aux_lemma => kernel_rfl) (by as_aux_lemma => kernel_rfl) (by as_aux_lemma => kernel_rfl) (fun _ _ _ h => h) (Or.inl ⟨by rfl, ?_⟩) (by assumption) ?_
        rotate_left
        · intro V hV
          first | (go_simp; done) | (go_simp; with_reducible rfl)
        try simp only [Act.put, List.setIfInBounds_toArray, List.set_cons_zero, List.set_cons_succ]
        refine wpAnyH_take (i := 10) (v := ?_) (by simp only [List.getElem?_toArray, List.getElem?_cons_zero, List.getElem?_cons_succ]; rfl) (by as_aux_lemma => kernel_rfl) (by as_aux_lemma => kernel_rfl) (by as_aux_lemma => kernel_rfl) (fun _ _ _ h => h) (Or.inl ⟨by rfl, ?_⟩) (by assumption) ?_
        rotate_left
        · intro V hV
          first | (go_simp; done) | (go_simp; with_reducible rfl)
        try simp only [Act.put, List.setIfInBounds_toArray, List.set_cons_zero, List.set_cons_succ]
        refine wpAnyH_take (i := 11) (v := ?_) (by simp only [List.getElem?_toArray, List.getElem?_cons_zero, List.getElem?_cons_succ]; rfl) (by as_aux_lemma => kernel_rfl) (by as_aux_lemma => kernel_rfl) (by as_aux_lemma => kernel_rfl) (fun _ _ _ h => h) (Or.inl ⟨by rfl, ?_⟩) (by assumption) ?_
        rotate_left
        · intro V hV
          first | (go_simp; done) | (go_simp; with_reducible rfl)
        try simp only [Act.put, List.setIfInBounds_toArray, List.set_cons_zero, List.set_cons_succ]
        refine wpAnyH_done (by kernel_rfl) ?_ _
        refine NoPanic.normal ?_
        have HV := Lib.hid hHeld
        clear hHeld
        go_wp2_with fail
        go_roundw
        case rel => exact ⟨i + 1, y, by omega, by go_num, rfl, HZ2, HBr.out.trans (HV.out.mono HBr.out.size)⟩
        case measure => simp [intOf]; omega
      | none =>
        rw [hg] at HZ
        have K1 : Hid (∀ V, RowKit.Below wr.heap.size wr V → Calls Tryz.prog 13 #[.agg A, .int .i64 z, .int .u8 (c : Int)] V fun e w' => e = .returned (.tuple #[.int .i64 0, .bool false]) ∧ RowKit.Below V.heap.size V w') := fun V hV => by
          have h := HN.out V (HF2.out.below (HBr.out.trans (hV.mono HBr.out.size))) z c hc
          rw [hg] at h
          exact h
        have HZ2 : Hid (runD L m F node bs = none) := HZ
        clear hg
        go_upto_region 4 with fail
        refine wp_region_noPanic ?_
        refine wp_region_held_drew (S := RowKit.Below wr.heap.size wr) (by kernel_rfl) (bel_drewN wr 1) (fun hHeld => ?_)
        refine' wpAnyH_take (i := 0) (v := _) (by simp only [List.getElem?_toArray, List.getElem?_cons_zero, List.getElem?_cons_succ]; rfl) (by as_aux_lemma => kernel_rfl) (by as_aux_lemma => kernel_rfl) (by as_aux_lemma => kernel_rfl) (fun _ _ _ h => h) (yieldsIf_load_row (by rfl) _ _ rfl w.heap.size rfl 28 A (0, 0) _ KX.out Tryz.underlying28 rfl HSz.out) (by assumption) ?_
        try simp only [Act.put, List.setIfInBounds_toArray, List.set_cons_zero, List.set_cons_succ]
        refine wpAnyH_take (i := 1) (v := ?_) (by simp only [List.getElem?_toArray, List.getElem?_cons_zero, List.getElem?_cons_succ]; rfl) (by as_aux_lemma => kernel_rfl) (by as_aux_lemma => kernel_rfl) (by as_aux_lemma => kernel_rfl) (fun _ _ _ h => h) (Or.inl ⟨by rfl, ?_⟩) (by assumption) ?_
        rotate_left
        · intro V hV
          first | (go_simp; done) | (go_simp; with_reducible rfl)
        try simp only [Act.put, List.setIfInBounds_toArray, List.set_cons_zero, List.set_cons_succ]
        refine wpAnyH_take (i := 2) (v := ?_) (by simp only [List.getElem?_toArray, List.getElem?_cons_zero, List.getElem?_cons_succ]; rfl) (by as_aux_lemma => kernel_rfl) (by as_aux_lemma => kernel_rfl) (by as_aux_lemma => kernel_rfl) (fun _ _ _ h => h) (Or.inl ⟨by rfl, ?_⟩) (by assumption) ?_
        rotate_left
        · intro V hV
          first | (go_simp; done) | (go_simp; with_reducible rfl)
        try simp only [Act.put, List.setIfInBounds_toArray, List.set_cons_zero, List.set_cons_succ]
        refine wpAnyH_take (i := 3) (v := ?_) (by simp only [List.getElem?_toArray, List.getElem?_cons_zero, List.getElem?_cons_succ]; rfl) (by as_aux_lemma => kernel_rfl) (by as_aux_lemma => kernel_rfl) (by as_aux_lemma => kernel_rfl) (fun _ _ _ h => h) (Or.inl ⟨by rfl, ?_⟩) (by assumption) ?_
        rotate_left
        · intro V hV
          first | (go_simp; done) | (go_simp; with_reducible rfl)
        try simp only [Act.put, List.setIfInBounds_toArray, List.set_cons_zero, List.set_cons_succ]
        refine wpAnyH_take (i := 4) (v := ?_) (by simp only [List.getElem?_toArray, List.getElem?_cons_zero, List.getElem?_cons_succ]; rfl) (by as_aux_lemma => kernel_rfl) (by as_aux_lemma => kernel_rfl) (by as_aux_lemma => kernel_rfl) (fun _ _ _ h => h) (Or.inl ⟨by rfl, ?_⟩) (by assumption) ?_
        rotate_left
        · intro V hV
          first | (go_simp; done) | (go_simp; with_reducible rfl)
        try simp only [Act.put, List.setIfInBounds_toArray, List.set_cons_zero, List.set_cons_succ]
        refine wpAnyH_take (i := 5) (v := ?_) (by simp only [List.getElem?_toArray, List.getElem?_cons_zero, List.getElem?_cons_succ]; rfl) (by as_aux_lemma => kernel_rfl) (by as_aux_lemma => kernel_rfl) (by as_aux_lemma => kernel_rfl) (fun _ _ _ h => h) (Or.inl ⟨by rfl, ?_⟩) (by assumption) ?_
        rotate_left
        · intro V hV
          have r0 := KT.out V hV
          first | (go_simp; done) | (go_simp; with_reducible rfl)
        try simp only [Act.put, List.setIfInBounds_toArray, List.set_cons_zero, List.set_cons_succ]
        refine wpAnyH_one (i := 6) (vi := .tuple #[.int .i64 0, .bool false]) (by simp only [List.getElem?_toArray, List.getElem?_cons_zero, List.getElem?_cons_succ]; rfl) (by as_aux_lemma => kernel_rfl) ?_ ?_ _ hHeld
        · intro V hV K hK
          try simp only [Act.put, List.setIfInBounds_toArray, List.set_cons_zero, List.set_cons_succ] at hK
          go_simp
          go_at_call 13; refine (K1.out V hV).mono ?_; rintro e w2 ⟨rfl, hb2⟩; exact hK _ (hV.trans (hb2.mono hV.size))
        clear hHeld
        intro V1 hHeld
        try simp only [Act.put, List.setIfInBounds_toArray, List.set_cons_zero, List.set_cons_succ]
        refine wpAnyH_take (i := 7) (v := ?_) (by simp only [List.getElem?_toArray, List.getElem?_cons_zero, List.getElem?_cons_succ]; rfl) (by as_aux_lemma => kernel_rfl) (by as_aux_lemma => kernel_rfl) (by as_aux_lemma => kernel_rfl) (fun _ _ _ h => h) (Or.inl ⟨by rfl, ?_⟩) (by assumption) ?_
        rotate_left
        · intro V hV
          first | (go_simp; done) | (go_simp; with_reducible rfl)
        try simp only [Act.put, List.setIfInBounds_toArray, List.set_cons_zero, List.set_cons_succ]
        refine wpAnyH_take (i := 8) (v := ?_) (by simp only [List.getElem?_toArray, List.getElem?_cons_zero, List.getElem?_cons_succ]; rfl) (by as_aux_lemma => kernel_rfl) (by as_aux_lemma => kernel_rfl) (by as_aux_lemma => kernel_rfl) (fun _ _ _ h => h) (Or.inl ⟨by rfl, ?_⟩) (by assumption) ?_
        rotate_left
        · intro V hV
          first | (go_simp; done) | (go_simp; with_reducible rfl)
        try simp only [Act.put, List.setIfInBounds_toArray, List.set_cons_zero, List.set_cons_succ]
        refine wpAnyH_take (i := 9) (v := ?_) (by simp only [List.getElem?_toArray, List.getElem?_cons_zero, List.getElem?_cons_succ]; rfl) (by as_aux_lemma => kernel_rfl) (by as_aux_lemma => kernel_rfl) (by as_aux_lemma => kernel_rfl) (fun _ _ _ h => h) (Or.inl ⟨by rfl, ?_⟩) (by assumption) ?_
        rotate_left
        · intro V hV
          first | (go_simp; done) | (go_simp; with_reducible rfl)
        try simp only [Act.put, List.setIfInBounds_toArray, List.set_cons_zero, List.set_cons_succ]
        refine wpAnyH_take (i := 10) (v := ?_) (by simp only [List.getElem?_toArray, List.getElem?_cons_zero, List.getElem?_cons_succ]; rfl) (by as_aux_lemma => kernel_rfl) (by as_aux_lemma => kernel_rfl) (by as_aux_lemma => kernel_rfl) (fun _ _ _ h => h) (Or.inl ⟨by rfl, ?_⟩) (by assumption) ?_
        rotate_left
        · intro V hV
          first | (go_simp; done) | (go_simp; with_reducible rfl)
        try simp only [Act.put, List.setIfInBounds_toArray, List.set_cons_zero, List.set_cons_succ]
        refine wpAnyH_take (i := 11) (v := ?_) (by simp only [List.getElem?_toArray, List.getElem?_cons_zero, List.getElem?_cons_succ]; rfl) (by as_aux_lemma => kernel_rfl) (by as_aux_lemma => kernel_rfl) (by as_aux_lemma => kernel_rfl) (fun _ _ _ h => h) (Or.inl ⟨by rfl, ?_⟩) (by assumption) ?_
        rotate_left
        · intro V hV
          first | (go_simp; done) | (go_simp; with_reducible rfl)
        try simp only [Act.put, List.setIfInBounds_toArray, List.set_cons_zero, List.set_cons_succ]
        refine wpAnyH_done (by kernel_rfl) ?_ _
        refine NoPanic.normal ?_
        have HV := Lib.hid hHeld
        clear hHeld
        go_wp2_with fail
        go_ret2
        exact ⟨by rw [HZ2.out]; rfl, HB.out.trans ((HBr.out.trans (HV.out.mono HBr.out.size)).mono (Nat.le_of_lt hlt0))⟩
    · obtain rfl : i = lb := by omega
      have hd : decide ((i : Int) < (i : Int)) = false := by simp
      have HF : Hid (runD L m F node bs = some z) := by
        have := HZ.out
        rw [List.drop_of_length_le (by rw [HLEN.out]; exact Nat.le_refl _)] at this
        exact this
      clear hbr hb
      go_wp2
      go_ret2
      exact ⟨by rw [HF.out]; rfl, HB.out.trans (HBr.out.mono (Nat.le_of_lt hlt0))⟩

set_option maxRecDepth 100000 in
theorem rgreat11_all (L : List Int) (m : Int) (a : Option Addr) (n c : Nat) (w : World) (hL : L.length = 256) :
    Calls Tryz.prog 8 #[.agg (dvC L m (.slice a n c)).toArray] w fun e w' => e = .returned (.bool (decide (20000 < n))) ∧ Below w.heap.size w w' := by
  have hD := Dv.new w L m (.slice a n c) hL
  have hB : Below w.heap.size w (w.alloc (.cells (dvC L m (.slice a n c)).toArray 28)) := below_alloc _ _
  obtain ⟨W, hW⟩ : ∃ W, W = w.alloc (.cells (dvC L m (.slice a n c)).toArray 28) := ⟨_, rfl⟩
  rw [← hW] at hD hB
  obtain ⟨s1, s2⟩ := hD.cells
  obtain ⟨A, hA⟩ : ∃ A, (dvC L m (.slice a n c)).toArray = A := ⟨_, rfl⟩
  rw [hA] at hW ⊢
  clear hA hD
  go_enter Tryz.func8, Tryz.ntmps8
  go_upto_region 1 with fail
  rw [← hW]
  clear hW
  go_wp2
  go_ret
  refine ⟨?_, hB⟩
  first | rfl | (simp; done) | (simp; omega)
end Go.Proofs.YtjfhefffbkpgkaaGreat

/- The law DenseTells (layer 11): walked. Printed by exp.py. -/



namespace Go.Proofs.YtjfhefffbkpgkaaGreat
open Go.RowKit Go.Sort
set_option linter.unusedVariables false
set_option linter.unusedSimpArgs false

/-- A set's table; a set that may not be has the nil one, and an error. -/
def dL (fold : Bool) (wss : List (List Int)) : List Int := if rightP fold wss = true then clsP fold wss else List.replicate 256 0
def dM (fold : Bool) (wss : List (List Int)) : Int := if rightP fold wss = true then (manyP fold wss : Int) else 0
def dF (fold : Bool) (wss : List (List Int)) : List Int := if rightP fold wss = true then tabP fold wss else []
def dE (fold : Bool) (wss : List (List Int)) : Int := if rightP fold wss = true then 0 else 2
theorem dL_len (fold : Bool) (wss : List (List Int)) : (dL fold wss).length = 256 := by
  unfold dL
  split
  · exact clsP_len _ _
  · exact List.length_replicate
theorem make11_uni (fold : Bool) (a : Option Addr) (la ca : Nat) (wss : List (List Int)) (w : World) (hA : Wds w a la wss) (hla : la ≤ 1000) (hM : ∀ x ∈ wss, x.length ≤ 1000000) (hT : (begL fold wss).length ≤ 1000000) :
    Calls Tryz.prog 10 #[.agg (setV fold a la ca)] w fun e w' => ∃ (b : Option Addr) (n c : Nat), e = .returned (.tuple #[.agg (dvC (dL fold wss) (dM fold wss) (.slice b n c)).toArray, .int .i64 (dE fold wss)]) ∧ Sl1 (Value.int .i64) w' b n (dF fold wss) ∧ n ≤ 1000000 ∧ Below w.heap.size w w' := by
  cases hr : rightP fold wss with
  | false =>
    have e1 : dL fold wss = List.replicate 256 0 := by unfold dL; rw [hr, if_neg (by decide)]
    have e2 : dM fold wss = 0 := by unfold dM; rw [hr, if_neg (by decide)]
    have e3 : dF fold wss = [] := by unfold dF; rw [hr, if_neg (by decide)]
    have e4 : dE fold wss = 2 := by unfold dE; rw [hr, if_neg (by decide)]
    rw [e1, e2, e3, e4]
    refine (make11_no fold a la ca wss w hA (by omega) hM hT hr).mono ?_
    rintro e w' ⟨rfl, h⟩
    exact ⟨none, 0, 0, rfl, ⟨rfl, .inl rfl⟩, by decide, h⟩
  | true =>
    have e1 : dL fold wss = clsP fold wss := by unfold dL; rw [hr, if_pos rfl]
    have e2 : dM fold wss = (manyP fold wss : Int) := by unfold dM; rw [hr, if_pos rfl]
    have e3 : dF fold wss = tabP fold wss := by unfold dF; rw [hr, if_pos rfl]
    have e4 : dE fold wss = 0 := by unfold dE; rw [hr, if_pos rfl]
    rw [e1, e2, e3, e4]
    refine (make11_yes fold a la ca wss w hA (by omega) hM hT hr).mono ?_
    rintro e w' ⟨R, rfl, h1, h2, h3⟩
    have hs := h1.sl1
    have hl := tabP_len (okT hr (fun x hx c hc => hA.bytes x hx c hc))
    rw [hl] at hs
    have hn4 : (nodesL wss).length ≤ 400 := read_n (readP_iff.2 ⟨right_false hr, rfl, rfl⟩)
    have hm := (clsN_many (inB fold wss) fold 256).2
    have hmn : manyP fold wss * (nodesL wss).length ≤ 257 * 400 := Nat.mul_le_mul hm hn4
    exact ⟨_, _, _, rfl, hs, by omega, h3⟩
theorem rmake11_uni (fold : Bool) (a : Option Addr) (la ca : Nat) (wss : List (List Int)) (w : World) (hA : Wds w a la wss) (hla : la ≤ 1000) (hM : ∀ x ∈ wss, x.length ≤ 1000000) :
    Calls Tryz.prog 11 #[.agg (setV fold a la ca)] w fun e w' => ∃ (b : Option Addr) (n c : Nat), e = .returned (.tuple #[.agg (dvC (dL fold wss) (dM fold wss) (.slice b n c)).toArray, .int .i64 (dE fold wss)]) ∧ Sl1 (Value.int .i64) w' b n (dF fold wss) ∧ n ≤ 1000000 ∧ Below w.heap.size w w' := by
  cases hr : rightP fold wss with
  | false =>
    have e1 : dL fold wss = List.replicate 256 0 := by unfold dL; rw [hr, if_neg (by decide)]
    have e2 : dM fold wss = 0 := by unfold dM; rw [hr, if_neg (by decide)]
    have e3 : dF fold wss = [] := by unfold dF; rw [hr, if_neg (by decide)]
    have e4 : dE fold wss = 2 := by unfold dE; rw [hr, if_neg (by decide)]
    rw [e1, e2, e3, e4]
    refine (rmake11_no fold a la ca wss w hA (by omega) hM hr).mono ?_
    rintro e w' ⟨rfl, h⟩
    exact ⟨none, 0, 0, rfl, ⟨rfl, .inl rfl⟩, by decide, h⟩
  | true =>
    have e1 : dL fold wss = clsP fold wss := by unfold dL; rw [hr, if_pos rfl]
    have e2 : dM fold wss = (manyP fold wss : Int) := by unfold dM; rw [hr, if_pos rfl]
    have e3 : dF fold wss = tabP fold wss := by unfold dF; rw [hr, if_pos rfl]
    have e4 : dE fold wss = 0 := by unfold dE; rw [hr, if_pos rfl]
    rw [e1, e2, e3, e4]
    refine (rmake11_yes fold a la ca wss w hA (by omega) hM hr).mono ?_
    rintro e w' ⟨b, n, c, rfl, h1, h2, h3⟩
    exact ⟨b, n, c, rfl, h1, h2, h3⟩

set_option maxRecDepth 100000 in
set_option maxHeartbeats 16000000 in
theorem denseTells_walk (fold : Bool) (a : Option Addr) (la ca : Nat) (wss : List (List Int)) (L1 : List Int) (m1 : Int) (a1 : Option Addr) (n1 c1 : Nat) (F1 : List Int) (L2 : List Int) (m2 : Int) (a2 : Option Addr) (n2 c2 : Nat) (F2 : List Int) (node : Int) (c : Nat) (b : Option Addr) (lb cb : Nat) (text : List Int) (w : World)
    (hA : Wds w a la wss) (hL1 : L1.length = 256) (hF1 : Sl1 (Value.int .i64) w a1 n1 F1) (hn1 : n1 ≤ maxLen) (hL2 : L2.length = 256) (hF2 : Sl1 (Value.int .i64) w a2 n2 F2) (hn2 : n2 ≤ maxLen) (hc : c < 256) (hX : Bys w b lb text) (hcb : lb ≤ cb) :
    Calls Tryz.prog 3 #[.agg (setV fold a la ca), .agg (dvC L1 m1 (.slice a1 n1 c1)).toArray, .agg (dvC L2 m2 (.slice a2 n2 c2)).toArray, .int .i64 node, .int .u8 (c : Int), .slice b lb cb] w fun e w' => e = .returned (.bool true) ∧ Below w.heap.size w w' := by
  have HL := Lib.hid hA.len
  unfold maxLen at hn1 hn2
  obtain ⟨W, hW⟩ : ∃ W, W = ((w.alloc (.cells (setV fold a la ca) 24)).alloc (.cells (dvC L1 m1 (.slice a1 n1 c1)).toArray 28)).alloc (.cells (dvC L2 m2 (.slice a2 n2 c2)).toArray 28) := ⟨_, rfl⟩
  have hB : Below w.heap.size w W := by rw [hW]; exact (((Below.refl _ _).alloc (Nat.le_refl _) _).alloc (by simp) _).alloc (by simp; omega) _
  have hO : Bx w.heap.size [.cells (setV fold a la ca) 24, .cells (dvC L1 m1 (.slice a1 n1 c1)).toArray 28, .cells (dvC L2 m2 (.slice a2 n2 c2)).toArray 28] W := by rw [hW]; exact (((Bx.nil _ w).snoc _ rfl).snoc _ (by simp)).snoc _ (by simp)
  have KS : Hid (∀ V, RowKit.Below W.heap.size W V → V.cell? ⟨w.heap.size, 0, none⟩ = some (.bool fold) ∧ V.cell? ⟨w.heap.size, 1, none⟩ = some (.slice a la ca)) := fun V hV =>
    have h := hO.below hV
    ⟨h.cell (i := 0) rfl rfl, h.cell (i := 0) rfl rfl⟩
  have HD1 : Hid (∀ V, RowKit.Below W.heap.size W V → V.heap[w.heap.size + 1]? = some (.cells (dvC L1 m1 (.slice a1 n1 c1)).toArray 28 (0, 0))) := fun V hV => (hO.below hV) 1 _ rfl
  have HD2 : Hid (∀ V, RowKit.Below W.heap.size W V → V.heap[w.heap.size + 1 + 1]? = some (.cells (dvC L2 m2 (.slice a2 n2 c2)).toArray 28 (0, 0))) := fun V hV => (hO.below hV) 2 _ rfl
  have HI1 := dv_info hL1 m1 (.slice a1 n1 c1)
  have HI2 := dv_info hL2 m2 (.slice a2 n2 c2)
  have KG1 := Lib.hid (fun V => rgreat11_all L1 m1 a1 n1 c1 V hL1)
  have KG2 := Lib.hid (fun V => rgreat11_all L2 m2 a2 n2 c2 V hL2)
  have HF1 := Lib.hid (hF1.below hB)
  have HF2 := Lib.hid (hF2.below hB)
  have HX := Lib.hid (hX.below hB)
  have HA := Lib.hid (hA.below hB)
  have hg := great5_any fold a la ca wss W (hA.below hB)
  have KSm := Lib.hid (fun V (h1 : Sl1 (Value.int .i64) V a1 n1 F1) (h2 : Sl1 (Value.int .i64) V a2 n2 F2) (hn : n1 ≤ 20000) => And.intro (same11_any L1 L2 F1 F2 m1 m2 a1 a2 n1 c1 n2 c2 V hL1 hL2 h1 h2 (by omega)) (rsame11_any L1 L2 F1 F2 m1 m2 a1 a2 n1 c1 n2 c2 V hL1 hL2 h1 h2 (by omega)))
  have KSt := Lib.hid (fun V (hn : n1 ≤ 20000) => And.intro (states11_any L1 m1 a1 n1 c1 V hL1 (by omega)) (rstates11_any L1 m1 a1 n1 c1 V hL1 (by omega)))
  have KNx := Lib.hid (fun V (h1 : Sl1 (Value.int .i64) V a1 n1 F1) (hn : n1 ≤ 20000) => And.intro (next11_any L1 F1 m1 a1 n1 c1 node c V hL1 h1 (by omega) hc) (rnext11_any L1 F1 m1 a1 n1 c1 node c V hL1 h1 (by omega) hc))
  have KRn := Lib.hid (fun V (h1 : Sl1 (Value.int .i64) V a1 n1 F1) (hn : n1 ≤ 20000) (hb : Bys V b lb text) (hl : lb ≤ 300) => And.intro (run11_any L1 F1 text m1 a1 n1 c1 node b lb cb V hL1 h1 (by omega) hb (by omega)) (rrun11_any L1 F1 text m1 a1 n1 c1 node b lb cb V hL1 h1 (by omega) hb (by omega)))
  have KOw := Lib.hid (fun V (h1 : Sl1 (Value.int .i64) V a1 n1 F1) (hn : n1 ≤ 20000) => own11_any L1 F1 m1 a1 n1 c1 V hL1 h1 (by omega))
  have KOs := Lib.hid (fun V (ao : Option Addr) (co : Nat) (h1 : Sl1 (Value.int .i64) V ao n1 F1) (h2 : Sl1 (Value.int .i64) V a1 n1 F1) (hn : n1 ≤ 20000) => rsame11_any L1 L1 F1 F1 m1 m1 ao a1 n1 co n1 c1 V hL1 hL1 h1 h2 (by omega))
  obtain ⟨nz, hnz⟩ : ∃ z, (goD L1 m1 F1 node c).getD 0 = z := ⟨_, rfl⟩
  obtain ⟨no, hno⟩ : ∃ z, (goD L1 m1 F1 node c).isSome = z := ⟨_, rfl⟩
  obtain ⟨rz, hrz⟩ : ∃ z, (runD L1 m1 F1 node text).getD 0 = z := ⟨_, rfl⟩
  obtain ⟨ro, hro⟩ : ∃ z, (runD L1 m1 F1 node text).isSome = z := ⟨_, rfl⟩
  rw [show goDV (goD L1 m1 F1 node c) = .tuple #[.int .i64 nz, .bool no] by rw [goDV_eq, hnz, hno]] at KNx
  rw [show goDV (runD L1 m1 F1 node text) = .tuple #[.int .i64 rz, .bool ro] by rw [goDV_eq, hrz, hro]] at KRn
  obtain ⟨sm, hsm⟩ : ∃ z, (decide (L1 = L2) && decide (m1 = m2) && decide (F1 = F2)) = z := ⟨_, rfl⟩
  rw [hsm] at KSm
  obtain ⟨st, hst⟩ : ∃ z, statesZ m1 n1 = z := ⟨_, rfl⟩
  rw [hst] at KSt
  rw [show (decide (L1 = L1) && decide (m1 = m1) && decide (F1 = F1)) = true by simp] at KOs
  clear hnz hno hrz hro hsm hst
  obtain ⟨A1, hA1⟩ : ∃ A, (dvC L1 m1 (.slice a1 n1 c1)).toArray = A := ⟨_, rfl⟩
  obtain ⟨A2, hA2⟩ : ∃ A, (dvC L2 m2 (.slice a2 n2 c2)).toArray = A := ⟨_, rfl⟩
  rw [hA1] at hW HD1 HI1 KG1 KSm KSt KNx KRn KOw KOs ⊢
  rw [hA2] at hW HD2 HI2 KG2 KSm ⊢
  have HI1 := Lib.hid HI1
  have HI2 := Lib.hid HI2
  obtain ⟨G, hG⟩ : ∃ G, greatP wss = G := ⟨_, rfl⟩
  rw [hG] at hg
  have HG := Lib.hid hg
  obtain ⟨s0, s1⟩ := KS.out W (Below.refl _ _)
  have HB := Lib.hid hB
  clear hA hF1 hF2 hX hO hB hg hA1 hA2 hL1 hL2
  go_enter Tryz.func3, Tryz.ntmps3
  go_upto_region 1 with fail
  rw [← hW]
  clear hW
  go_wp2_with fail
  refine HG.out.mono ?_
  rintro e w1 ⟨rfl, hb1⟩
  clear s0 s1 HG
  cases G with
  | true =>
    go_wp2_with fail
    refine (wakes11 _).mono ?_
    rintro e w9 ⟨rfl, hb9⟩
    go_wp2
    go_ret
    exact ⟨rfl, HB.out.trans ((hb1.trans (hb9.mono hb1.size)).mono HB.out.size)⟩
  | false =>
    obtain ⟨g1, g2, g3⟩ := gr8_bd hG fold
    rw [HL.out] at g1
    by_cases h1 : n1 ≤ 20000
    · have q1 : decide (20000 < n1) = false := by simp; omega
      rw [q1] at KG1
      go_wp2_with fail
      refine wp_load_row 28 _ rfl (w.heap.size + 1) rfl 28 A1 (0, 0) _ (HD1.out w1 hb1) Tryz.underlying28 rfl HI1.out ?_
      go_wp2_with fail
      refine (KG1.out w1).mono ?_
      rintro e w2 ⟨rfl, hb2'⟩
      have hb2 := hb1.trans (hb2'.mono hb1.size)
      clear hb2'
      by_cases h2 : n2 ≤ 20000
      · have q2 : decide (20000 < n2) = false := by simp; omega
        rw [q2] at KG2
        go_wp2_with fail
        refine wp_load_row 28 _ rfl (w.heap.size + 1 + 1) rfl 28 A2 (0, 0) _ (HD2.out w2 hb2) Tryz.underlying28 rfl HI2.out ?_
        go_wp2_with fail
        refine (KG2.out w2).mono ?_
        rintro e w3 ⟨rfl, hb3'⟩
        have hb3 := hb2.trans (hb3'.mono hb2.size)
        clear hb3'
        by_cases h3 : lb ≤ 300
        · have d3 : decide ((300 : Int) < (lb : Int)) = false := by simp; omega
          have d3' : decide (300 < lb) = false := by simp; omega
          have HM : Hid (∀ x ∈ wss, x.length ≤ 1000000) := fun x hx => by have := g2 x hx; omega
          have HT : Hid ((begL fold wss).length ≤ 1000000) := by rw [Hid]; omega
          obtain ⟨s0, s1⟩ := KS.out w3 hb3
          have KM1 := Lib.hid (make11_uni fold a la ca wss w3 (HA.out.below hb3) (by omega) HM.out HT.out)
          go_upto_region 4 with (first
            | (refine wpList_store_row rfl 28 _ _ rfl _ _ rfl rfl 28 _ (heap_alloc_new _ _) (dv_info (dL_len _ _) _ _) (dv_old (dL_len _ _) _ _) (dvC_one _ _ _ rfl) ?_)
            | (go_at_call 10; refine KM1.out.mono ?_; rintro e w4 ⟨bX, nX, cX, rfl, hsX, hnX, hbX⟩))
          rw [World.setRow_alloc_new]
          obtain ⟨WX, hWX⟩ : ∃ X, X = w4.alloc (.cells (dvC (dL fold wss) (dM fold wss) (.slice bX nX cX)).toArray 28) := ⟨_, rfl⟩
          have hDX : WX.heap[w4.heap.size]? = some (.cells (dvC (dL fold wss) (dM fold wss) (.slice bX nX cX)).toArray 28 (0, 0)) := by rw [hWX]; exact heap_alloc_new _ _
          have hBX : RowKit.Below W.heap.size W WX := by rw [hWX]; exact (hb3.trans (hbX.mono hb3.size)).alloc (hb3.trans (hbX.mono hb3.size)).size _
          have hsX' : Sl1 (Value.int .i64) WX bX nX (dF fold wss) := by rw [hWX]; exact hsX.below (below_alloc _ _)
          rw [← hWX]
          obtain ⟨QX, hQX⟩ : ∃ Q, w4.heap.size = Q := ⟨_, rfl⟩
          rw [hQX] at hDX ⊢
          have HDX := Lib.hid hDX
          have HSX := Lib.hid hsX'
          have hwX : RowKit.Below w3.heap.size w3 WX := by rw [hWX]; exact hbX.alloc hbX.size _
          clear hWX hbX hsX hsX' hDX s0 s1 KM1 hQX
          obtain ⟨s0, s1⟩ := KS.out WX hBX
          have KM2 := Lib.hid (rmake11_uni fold a la ca wss WX (HA.out.below hBX) (by omega) HM.out)
          go_upto_region 5 with (first
            | (refine wpList_store_row rfl 28 _ _ rfl _ _ rfl rfl 28 _ (heap_alloc_new _ _) (dv_info (dL_len _ _) _ _) (dv_old (dL_len _ _) _ _) (dvC_one _ _ _ rfl) ?_)
            | (go_at_call 11; refine KM2.out.mono ?_; rintro e w5 ⟨bY, nY, cY, rfl, hsY, hnY, hbY⟩))
          rw [World.setRow_alloc_new]
          obtain ⟨WY, hWY⟩ : ∃ X, X = w5.alloc (.cells (dvC (dL fold wss) (dM fold wss) (.slice bY nY cY)).toArray 28) := ⟨_, rfl⟩
          have hDY : WY.heap[w5.heap.size]? = some (.cells (dvC (dL fold wss) (dM fold wss) (.slice bY nY cY)).toArray 28 (0, 0)) := by rw [hWY]; exact heap_alloc_new _ _
          have hBY : RowKit.Below W.heap.size W WY := by rw [hWY]; exact (hBX.trans (hbY.mono hBX.size)).alloc (hBX.trans (hbY.mono hBX.size)).size _
          have hsY' : Sl1 (Value.int .i64) WY bY nY (dF fold wss) := by rw [hWY]; exact hsY.below (below_alloc _ _)
          rw [← hWY]
          obtain ⟨QY, hQY⟩ : ∃ Q, w5.heap.size = Q := ⟨_, rfl⟩
          rw [hQY] at hDY ⊢
          have HDY := Lib.hid hDY
          have HSY := Lib.hid hsY'
          have hDX2 : WY.heap[QX]? = some (.cells (dvC (dL fold wss) (dM fold wss) (.slice bX nX cX)).toArray 28 (0, 0)) := by rw [hWY]; exact ((hbY.alloc hbY.size _).block _ (Array.getElem?_eq_some_iff.1 HDX.out).1).trans HDX.out
          have HSX2 : Hid (Sl1 (Value.int .i64) WY bX nX (dF fold wss)) := by rw [Hid, hWY]; exact HSX.out.below (hbY.alloc hbY.size _)
          have HDX2 := Lib.hid hDX2
          have KXX : Hid (∀ V, RowKit.Below WY.heap.size WY V → V.heap[QX]? = some (.cells (dvC (dL fold wss) (dM fold wss) (.slice bX nX cX)).toArray 28 (0, 0)) ∧ V.heap[QY]? = some (.cells (dvC (dL fold wss) (dM fold wss) (.slice bY nY cY)).toArray 28 (0, 0))) := fun V hV =>
            ⟨(hV.block _ (Array.getElem?_eq_some_iff.1 HDX2.out).1).trans HDX2.out, (hV.block _ (Array.getElem?_eq_some_iff.1 HDY.out).1).trans HDY.out⟩
          have KXY := Lib.hid (fun V (hV : RowKit.Below WY.heap.size WY V) => rsame11_any (dL fold wss) (dL fold wss) (dF fold wss) (dF fold wss) (dM fold wss) (dM fold wss) bX bY nX cX nY cY V (dL_len _ _) (dL_len _ _) (HSX2.out.below hV) (HSY.out.below hV) (by omega))
          have hix := dv_info (dL_len fold wss) (dM fold wss) (.slice bX nX cX)
          have hiy := dv_info (dL_len fold wss) (dM fold wss) (.slice bY nY cY)
          obtain ⟨AX, hAX⟩ : ∃ A, (dvC (dL fold wss) (dM fold wss) (.slice bX nX cX)).toArray = A := ⟨_, rfl⟩
          obtain ⟨AY, hAY⟩ : ∃ A, (dvC (dL fold wss) (dM fold wss) (.slice bY nY cY)).toArray = A := ⟨_, rfl⟩
          rw [hAX] at KXX KXY hix ⊢
          rw [hAY] at KXX KXY hiy ⊢
          rw [show (decide (dL fold wss = dL fold wss) && decide (dM fold wss = dM fold wss) && decide (dF fold wss = dF fold wss)) = true by simp] at KXY
          have HIX := Lib.hid hix
          have HIY := Lib.hid hiy
          have HBY := Lib.hid hBY
          obtain ⟨er, her⟩ : ∃ z, dE fold wss = z := ⟨_, rfl⟩
          rw [her]
          clear hWY hbY hsY hsY' hDY s0 s1 KM2 hQY hDX2 hix hiy hAX hAY hBX hwX hBY her HDX HSX hb3
          have K5 := Lib.hid (KNx.out WY (HF1.out.below HBY.out) h1).1
          go_upto_region 6 with (first
            | (refine wpList_load_row rfl 28 _ rfl (w.heap.size + 1) rfl 28 A1 (0, 0) _ (HD1.out WY HBY.out) Tryz.underlying28 rfl HI1.out ?_)
            | (go_at_call 12; refine K5.out.mono ?_; rintro e w6 ⟨rfl, HB6'⟩))
          have HY6 := Lib.hid HB6'
          have HB6 := Lib.hid (HBY.out.trans (HB6'.mono HBY.out.size))
          clear HB6' K5
          have K6 := Lib.hid (KNx.out w6 (HF1.out.below HB6.out) h1).2
          go_upto_region 7 with (first
            | (refine wpList_load_row rfl 28 _ rfl (w.heap.size + 1) rfl 28 A1 (0, 0) _ (HD1.out w6 HB6.out) Tryz.underlying28 rfl HI1.out ?_)
            | (go_at_call 13; refine K6.out.mono ?_; rintro e w7 ⟨rfl, HB7'⟩))
          have HY7 := Lib.hid (HY6.out.trans (HB7'.mono HY6.out.size))
          have HB7 := Lib.hid (HB6.out.trans (HB7'.mono HB6.out.size))
          clear HB7' K6
          have K7 := Lib.hid (KRn.out w7 (HF1.out.below HB7.out) h1 (HX.out.below HB7.out) h3).1
          go_upto_region 8 with (first
            | (refine wpList_load_row rfl 28 _ rfl (w.heap.size + 1) rfl 28 A1 (0, 0) _ (HD1.out w7 HB7.out) Tryz.underlying28 rfl HI1.out ?_)
            | (go_at_call 14; refine K7.out.mono ?_; rintro e w8 ⟨rfl, HB8'⟩))
          have HY8 := Lib.hid (HY7.out.trans (HB8'.mono HY7.out.size))
          have HB8 := Lib.hid (HB7.out.trans (HB8'.mono HB7.out.size))
          clear HB8' K7
          have K8 := Lib.hid (KRn.out w8 (HF1.out.below HB8.out) h1 (HX.out.below HB8.out) h3).2
          go_upto_region 9 with (first
            | (refine wpList_load_row rfl 28 _ rfl (w.heap.size + 1) rfl 28 A1 (0, 0) _ (HD1.out w8 HB8.out) Tryz.underlying28 rfl HI1.out ?_)
            | (go_at_call 15; refine K8.out.mono ?_; rintro e w9 ⟨rfl, HB9'⟩))
          have HY9 := Lib.hid (HY8.out.trans (HB9'.mono HY8.out.size))
          have HB9 := Lib.hid (HB8.out.trans (HB9'.mono HB8.out.size))
          clear HB9' K8
          have K9 := Lib.hid (KXY.out w9 HY9.out)
          have KX9 := Lib.hid (KXX.out w9 HY9.out)
          go_upto_region 11 with (first
            | (refine wpList_load_row rfl 28 _ rfl QX rfl 28 AX (0, 0) _ KX9.out.1 Tryz.underlying28 rfl HIX.out ?_)
            | (refine wpList_load_row rfl 28 _ rfl QY rfl 28 AY (0, 0) _ KX9.out.2 Tryz.underlying28 rfl HIY.out ?_)
            | (go_at_call 16; refine K9.out.mono ?_; rintro e wA ⟨rfl, hbA⟩))
          have HBA := Lib.hid (HB9.out.trans (hbA.mono HB9.out.size))
          clear hbA K9 KX9
          refine wp_region_noPanic ?_
          refine wp_region_held_drew (S := RowKit.Below wA.heap.size wA) (by kernel_rfl) (bel_drewN wA 1) (fun hHeld => ?_)
          have KV : Hid (∀ V, RowKit.Below wA.heap.size wA V → RowKit.Below W.heap.size W V) := fun V hV => HBA.out.trans (hV.mono HBA.out.size)
          refine' wpAnyH_take (i := 0) (v := _) (by simp only [List.getElem?_toArray, List.getElem?_cons_zero, List.getElem?_cons_succ]; rfl) (by as_aux_lemma => kernel_rfl) (by as_aux_lemma => kernel_rfl) (by as_aux_lemma => kernel_rfl) (fun _ _ _ h => h) (yieldsIf_load_row (by rfl) _ _ rfl (w.heap.size + 1) rfl 28 A1 (0, 0) _ (fun V hV => HD1.out V (KV.out V hV)) Tryz.underlying28 rfl HI1.out) (by assumption) ?_
          try simp only [Act.put, List.setIfInBounds_toArray, List.set_cons_zero, List.set_cons_succ]
          refine' wpAnyH_take (i := 2) (v := _) (by simp only [List.getElem?_toArray, List.getElem?_cons_zero, List.getElem?_cons_succ]; rfl) (by as_aux_lemma => kernel_rfl) (by as_aux_lemma => kernel_rfl) (by as_aux_lemma => kernel_rfl) (fun _ _ _ h => h) (yieldsIf_load_row (by rfl) _ _ rfl (w.heap.size + 1) rfl 28 A1 (0, 0) _ (fun V hV => HD1.out V (KV.out V hV)) Tryz.underlying28 rfl HI1.out) (by assumption) ?_
          try simp only [Act.put, List.setIfInBounds_toArray, List.set_cons_zero, List.set_cons_succ]
          refine wpAnyH_one (i := 1) (vi := .int .i64 st) (by simp only [List.getElem?_toArray, List.getElem?_cons_zero, List.getElem?_cons_succ]; rfl) (by as_aux_lemma => kernel_rfl) ?_ ?_ _ hHeld
          · intro V hV K hK
            try simp only [Act.put, List.setIfInBounds_toArray, List.set_cons_zero, List.set_cons_succ] at hK
            go_simp
            go_at_call 17; refine ((KSt.out V h1).1).mono ?_; rintro e w2 ⟨rfl, hb2⟩; exact hK _ (hV.trans (hb2.mono hV.size))
          clear hHeld
          intro V1 hHeld
          try simp only [Act.put, List.setIfInBounds_toArray, List.set_cons_zero, List.set_cons_succ]
          refine wpAnyH_one (i := 3) (vi := .int .i64 st) (by simp only [List.getElem?_toArray, List.getElem?_cons_zero, List.getElem?_cons_succ]; rfl) (by as_aux_lemma => kernel_rfl) ?_ ?_ _ hHeld
          · intro V hV K hK
            try simp only [Act.put, List.setIfInBounds_toArray, List.set_cons_zero, List.set_cons_succ] at hK
            go_simp
            go_at_call 18; refine ((KSt.out V h1).2).mono ?_; rintro e w2 ⟨rfl, hb2⟩; exact hK _ (hV.trans (hb2.mono hV.size))
          clear hHeld
          intro V1 hHeld
          try simp only [Act.put, List.setIfInBounds_toArray, List.set_cons_zero, List.set_cons_succ]
          refine wpAnyH_take (i := 4) (v := ?_) (by simp only [List.getElem?_toArray, List.getElem?_cons_zero, List.getElem?_cons_succ]; rfl) (by as_aux_lemma => kernel_rfl) (by as_aux_lemma => kernel_rfl) (by as_aux_lemma => kernel_rfl) (fun _ _ _ h => h) (Or.inl ⟨by rfl, ?_⟩) (by assumption) ?_
          rotate_left
          · intro V hV
            first | (go_simp; done) | (go_simp; with_reducible rfl)
          try simp only [Act.put, List.setIfInBounds_toArray, List.set_cons_zero, List.set_cons_succ]
          refine wpAnyH_take (i := 5) (v := ?_) (by simp only [List.getElem?_toArray, List.getElem?_cons_zero, List.getElem?_cons_succ]; rfl) (by as_aux_lemma => kernel_rfl) (by as_aux_lemma => kernel_rfl) (by as_aux_lemma => kernel_rfl) (fun _ _ _ h => h) (Or.inl ⟨by rfl, ?_⟩) (by assumption) ?_
          rotate_left
          · intro V hV
            first | (go_simp; done) | (go_simp; with_reducible rfl)
          try simp only [Act.put, List.setIfInBounds_toArray, List.set_cons_zero, List.set_cons_succ]
          refine' wpAnyH_take (i := 6) (v := _) (by simp only [List.getElem?_toArray, List.getElem?_cons_zero, List.getElem?_cons_succ]; rfl) (by as_aux_lemma => kernel_rfl) (by as_aux_lemma => kernel_rfl) (by as_aux_lemma => kernel_rfl) (fun _ _ _ h => h) (yieldsIf_load_row (by rfl) _ _ rfl (w.heap.size + 1) rfl 28 A1 (0, 0) _ (fun V hV => HD1.out V (KV.out V hV)) Tryz.underlying28 rfl HI1.out) (by assumption) ?_
          try simp only [Act.put, List.setIfInBounds_toArray, List.set_cons_zero, List.set_cons_succ]
          refine' wpAnyH_take (i := 7) (v := _) (by simp only [List.getElem?_toArray, List.getElem?_cons_zero, List.getElem?_cons_succ]; rfl) (by as_aux_lemma => kernel_rfl) (by as_aux_lemma => kernel_rfl) (by as_aux_lemma => kernel_rfl) (fun _ _ _ h => h) (yieldsIf_load_row (by rfl) _ _ rfl (w.heap.size + 1 + 1) rfl 28 A2 (0, 0) _ (fun V hV => HD2.out V (KV.out V hV)) Tryz.underlying28 rfl HI2.out) (by assumption) ?_
          try simp only [Act.put, List.setIfInBounds_toArray, List.set_cons_zero, List.set_cons_succ]
          refine' wpAnyH_take (i := 9) (v := _) (by simp only [List.getElem?_toArray, List.getElem?_cons_zero, List.getElem?_cons_succ]; rfl) (by as_aux_lemma => kernel_rfl) (by as_aux_lemma => kernel_rfl) (by as_aux_lemma => kernel_rfl) (fun _ _ _ h => h) (yieldsIf_load_row (by rfl) _ _ rfl (w.heap.size + 1) rfl 28 A1 (0, 0) _ (fun V hV => HD1.out V (KV.out V hV)) Tryz.underlying28 rfl HI1.out) (by assumption) ?_
          try simp only [Act.put, List.setIfInBounds_toArray, List.set_cons_zero, List.set_cons_succ]
          refine' wpAnyH_take (i := 10) (v := _) (by simp only [List.getElem?_toArray, List.getElem?_cons_zero, List.getElem?_cons_succ]; rfl) (by as_aux_lemma => kernel_rfl) (by as_aux_lemma => kernel_rfl) (by as_aux_lemma => kernel_rfl) (fun _ _ _ h => h) (yieldsIf_load_row (by rfl) _ _ rfl (w.heap.size + 1 + 1) rfl 28 A2 (0, 0) _ (fun V hV => HD2.out V (KV.out V hV)) Tryz.underlying28 rfl HI2.out) (by assumption) ?_
          try simp only [Act.put, List.setIfInBounds_toArray, List.set_cons_zero, List.set_cons_succ]
          refine wpAnyH_one (i := 8) (vi := .bool sm) (by simp only [List.getElem?_toArray, List.getElem?_cons_zero, List.getElem?_cons_succ]; rfl) (by as_aux_lemma => kernel_rfl) ?_ ?_ _ hHeld
          · intro V hV K hK
            try simp only [Act.put, List.setIfInBounds_toArray, List.set_cons_zero, List.set_cons_succ] at hK
            go_simp
            go_at_call 19; refine ((KSm.out V (HF1.out.below (KV.out V hV)) (HF2.out.below (KV.out V hV)) h1).1).mono ?_; rintro e w2 ⟨rfl, hb2⟩; exact hK _ (hV.trans (hb2.mono hV.size))
          clear hHeld
          intro V1 hHeld
          try simp only [Act.put, List.setIfInBounds_toArray, List.set_cons_zero, List.set_cons_succ]
          refine wpAnyH_one (i := 11) (vi := .bool sm) (by simp only [List.getElem?_toArray, List.getElem?_cons_zero, List.getElem?_cons_succ]; rfl) (by as_aux_lemma => kernel_rfl) ?_ ?_ _ hHeld
          · intro V hV K hK
            try simp only [Act.put, List.setIfInBounds_toArray, List.set_cons_zero, List.set_cons_succ] at hK
            go_simp
            go_at_call 16; refine ((KSm.out V (HF1.out.below (KV.out V hV)) (HF2.out.below (KV.out V hV)) h1).2).mono ?_; rintro e w2 ⟨rfl, hb2⟩; exact hK _ (hV.trans (hb2.mono hV.size))
          clear hHeld
          intro V1 hHeld
          try simp only [Act.put, List.setIfInBounds_toArray, List.set_cons_zero, List.set_cons_succ]
          refine wpAnyH_take (i := 12) (v := ?_) (by simp only [List.getElem?_toArray, List.getElem?_cons_zero, List.getElem?_cons_succ]; rfl) (by as_aux_lemma => kernel_rfl) (by as_aux_lemma => kernel_rfl) (by as_aux_lemma => kernel_rfl) (fun _ _ _ h => h) (Or.inl ⟨by rfl, ?_⟩) (by assumption) ?_
          rotate_left
          · intro V hV
            first | (go_simp; done) | (go_simp; with_reducible rfl)
          try simp only [Act.put, List.setIfInBounds_toArray, List.set_cons_zero, List.set_cons_succ]
          refine wpAnyH_take (i := 13) (v := ?_) (by simp only [List.getElem?_toArray, List.getElem?_cons_zero, List.getElem?_cons_succ]; rfl) (by as_aux_lemma => kernel_rfl) (by as_aux_lemma => kernel_rfl) (by as_aux_lemma => kernel_rfl) (fun _ _ _ h => h) (Or.inl ⟨by rfl, ?_⟩) (by assumption) ?_
          rotate_left
          · intro V hV
            first | (go_simp; done) | (go_simp; with_reducible rfl)
          try simp only [Act.put, List.setIfInBounds_toArray, List.set_cons_zero, List.set_cons_succ]
          refine wpAnyH_take (i := 14) (v := ?_) (by simp only [List.getElem?_toArray, List.getElem?_cons_zero, List.getElem?_cons_succ]; rfl) (by as_aux_lemma => kernel_rfl) (by as_aux_lemma => kernel_rfl) (by as_aux_lemma => kernel_rfl) (fun _ _ _ h => h) (Or.inl ⟨by rfl, ?_⟩) (by assumption) ?_
          rotate_left
          · intro V hV
            first | (go_simp; done) | (go_simp; with_reducible rfl)
          try simp only [Act.put, List.setIfInBounds_toArray, List.set_cons_zero, List.set_cons_succ]
          refine' wpAnyH_take (i := 15) (v := _) (by simp only [List.getElem?_toArray, List.getElem?_cons_zero, List.getElem?_cons_succ]; rfl) (by as_aux_lemma => kernel_rfl) (by as_aux_lemma => kernel_rfl) (by as_aux_lemma => kernel_rfl) (fun _ _ _ h => h) (yieldsIf_load_row (by rfl) _ _ rfl (w.heap.size + 1) rfl 28 A1 (0, 0) _ (fun V hV => HD1.out V (KV.out V hV)) Tryz.underlying28 rfl HI1.out) (by assumption) ?_
          try simp only [Act.put, List.setIfInBounds_toArray, List.set_cons_zero, List.set_cons_succ]
          refine' wpAnyH_take (i := 17) (v := _) (by simp only [List.getElem?_toArray, List.getElem?_cons_zero, List.getElem?_cons_succ]; rfl) (by as_aux_lemma => kernel_rfl) (by as_aux_lemma => kernel_rfl) (by as_aux_lemma => kernel_rfl) (fun _ _ _ h => h) (yieldsIf_load_row (by rfl) _ _ rfl (w.heap.size + 1) rfl 28 A1 (0, 0) _ (fun V hV => HD1.out V (KV.out V hV)) Tryz.underlying28 rfl HI1.out) (by assumption) ?_
          try simp only [Act.put, List.setIfInBounds_toArray, List.set_cons_zero, List.set_cons_succ]
          refine wpAnyH_ready (rs := [16]) (by as_aux_lemma => kernel_rfl) (by simp) ?_
          refine AllReadyH.cons (by simp only [List.getElem?_toArray, List.getElem?_cons_zero, List.getElem?_cons_succ]; rfl) (fun K hK => ?_) AllReadyH.nil
          go_simp
          go_at_call 20; refine (KOw.out V1 (HF1.out.below (KV.out V1 hHeld)) h1).mono ?_; rintro e wB ⟨ao, co, rfl, hso, hbB⟩
          have hSB : RowKit.Below wA.heap.size wA wB := hHeld.trans (hbB.mono hHeld.size)
          refine hK.out _ _ hSB (fun hNew => ?_)
          have K21 := Lib.hid (KOs.out wB ao co hso (HF1.out.below (KV.out wB hNew)) h1)
          clear hK K hHeld hSB hbB hso
          have hHeld := hNew
          clear hNew
          try simp only [Act.put, List.setIfInBounds_toArray, List.set_cons_zero, List.set_cons_succ]
          refine wpAnyH_ready (rs := [18]) (by as_aux_lemma => kernel_rfl) (by simp) ?_
          refine AllReadyH.cons (by simp only [List.getElem?_toArray, List.getElem?_cons_zero, List.getElem?_cons_succ]; rfl) (fun K hK => ?_) AllReadyH.nil
          go_simp
          go_at_call 16; refine K21.out.mono ?_; rintro e wC ⟨rfl, hbC⟩
          have hSC : RowKit.Below wA.heap.size wA wC := hHeld.trans (hbC.mono hHeld.size)
          refine hK.out _ _ hSC (fun hNew => ?_)
          clear hK K hHeld hSC hbC K21
          have hHeld := hNew
          clear hNew
          try simp only [Act.put, List.setIfInBounds_toArray, List.set_cons_zero, List.set_cons_succ]
          refine wpAnyH_take (i := 19) (v := ?_) (by simp only [List.getElem?_toArray, List.getElem?_cons_zero, List.getElem?_cons_succ]; rfl) (by as_aux_lemma => kernel_rfl) (by as_aux_lemma => kernel_rfl) (by as_aux_lemma => kernel_rfl) (fun _ _ _ h => h) (Or.inl ⟨by rfl, ?_⟩) (by assumption) ?_
          rotate_left
          · intro V hV
            first | (go_simp; done) | (go_simp; with_reducible rfl)
          try simp only [Act.put, List.setIfInBounds_toArray, List.set_cons_zero, List.set_cons_succ]
          refine wpAnyH_take (i := 20) (v := ?_) (by simp only [List.getElem?_toArray, List.getElem?_cons_zero, List.getElem?_cons_succ]; rfl) (by as_aux_lemma => kernel_rfl) (by as_aux_lemma => kernel_rfl) (by as_aux_lemma => kernel_rfl) (fun _ _ _ h => h) (Or.inl ⟨by rfl, ?_⟩) (by assumption) ?_
          rotate_left
          · intro V hV
            first | (go_simp; done) | (go_simp; with_reducible rfl)
          try simp only [Act.put, List.setIfInBounds_toArray, List.set_cons_zero, List.set_cons_succ]
          refine wpAnyH_one (i := 21) (vi := .bool true) (by simp only [List.getElem?_toArray, List.getElem?_cons_zero, List.getElem?_cons_succ]; rfl) (by as_aux_lemma => kernel_rfl) ?_ ?_ _ hHeld
          · intro V hV K hK
            try simp only [Act.put, List.setIfInBounds_toArray, List.set_cons_zero, List.set_cons_succ] at hK
            go_simp
            go_at_call 9; refine (wakes11 V).mono ?_; rintro e w2 ⟨rfl, hb2⟩; exact hK _ (hV.trans (hb2.mono hV.size))
          clear hHeld
          intro V1 hHeld
          try simp only [Act.put, List.setIfInBounds_toArray, List.set_cons_zero, List.set_cons_succ]
          refine wpAnyH_take (i := 22) (v := ?_) (by simp only [List.getElem?_toArray, List.getElem?_cons_zero, List.getElem?_cons_succ]; rfl) (by as_aux_lemma => kernel_rfl) (by as_aux_lemma => kernel_rfl) (by as_aux_lemma => kernel_rfl) (fun _ _ _ h => h) (Or.inl ⟨by rfl, ?_⟩) (by assumption) ?_
          rotate_left
          · intro V hV
            first | (go_simp; done) | (go_simp; with_reducible rfl)
          try simp only [Act.put, List.setIfInBounds_toArray, List.set_cons_zero, List.set_cons_succ]
          refine wpAnyH_take (i := 23) (v := ?_) (by simp only [List.getElem?_toArray, List.getElem?_cons_zero, List.getElem?_cons_succ]; rfl) (by as_aux_lemma => kernel_rfl) (by as_aux_lemma => kernel_rfl) (by as_aux_lemma => kernel_rfl) (fun _ _ _ h => h) (Or.inl ⟨by rfl, ?_⟩) (by assumption) ?_
          rotate_left
          · intro V hV
            first | (go_simp; done) | (go_simp; with_reducible rfl)
          try simp only [Act.put, List.setIfInBounds_toArray, List.set_cons_zero, List.set_cons_succ]
          refine wpAnyH_done (by kernel_rfl) ?_ _
          refine NoPanic.normal ?_
          go_wp2
          go_ret
          exact ⟨rfl, HB.out.trans ((KV.out _ hHeld).mono HB.out.size)⟩
        · have d3 : decide ((300 : Int) < (lb : Int)) = true := by simp; omega
          have d3' : decide (300 < lb) = true := by simp; omega
          go_wp2_with fail
          refine (wakes11 _).mono ?_
          rintro e w9 ⟨rfl, hb9⟩
          go_wp2
          go_ret
          exact ⟨rfl, HB.out.trans ((hb3.trans (hb9.mono hb3.size)).mono HB.out.size)⟩
      · have q2 : decide (20000 < n2) = true := by simp; omega
        rw [q2] at KG2
        go_wp2_with fail
        refine wp_load_row 28 _ rfl (w.heap.size + 1 + 1) rfl 28 A2 (0, 0) _ (HD2.out w2 hb2) Tryz.underlying28 rfl HI2.out ?_
        go_wp2_with fail
        refine (KG2.out w2).mono ?_
        rintro e w3 ⟨rfl, hb3'⟩
        have hb3 := hb2.trans (hb3'.mono hb2.size)
        clear hb3'
        go_wp2_with fail
        refine (wakes11 _).mono ?_
        rintro e w9 ⟨rfl, hb9⟩
        go_wp2
        go_ret
        exact ⟨rfl, HB.out.trans ((hb3.trans (hb9.mono hb3.size)).mono HB.out.size)⟩
    · have q1 : decide (20000 < n1) = true := by simp; omega
      rw [q1] at KG1
      go_wp2_with fail
      refine wp_load_row 28 _ rfl (w.heap.size + 1) rfl 28 A1 (0, 0) _ (HD1.out w1 hb1) Tryz.underlying28 rfl HI1.out ?_
      go_wp2_with fail
      refine (KG1.out w1).mono ?_
      rintro e w2 ⟨rfl, hb2'⟩
      have hb2 := hb1.trans (hb2'.mono hb1.size)
      clear hb2'
      go_wp2_with fail
      refine (wakes11 _).mono ?_
      rintro e w9 ⟨rfl, hb9⟩
      go_wp2
      go_ret
      exact ⟨rfl, HB.out.trans ((hb2.trans (hb9.mono hb2.size)).mono HB.out.size)⟩
end Go.Proofs.YtjfhefffbkpgkaaGreat

/- Opening the arguments of laws: tables. -/


namespace Go.Proofs.YtjfhefffbkpgkaaGreat
open Go.ChangeShapes Go.WideShapes Go.ChangeAt Go.RowKit Go.Joins
set_option linter.unusedVariables false
set_option linter.unusedSimpArgs false

set_option maxRecDepth 100000 in
theorem cells_Dense : Tryz.prog.cellsOf 28 = 258 := by kernel_rfl
theorem cells_arr : Tryz.prog.cellsOf 25 = 256 := by kernel_rfl
theorem ints_of {xs : List Value} (h : ∀ i, i < xs.length → ∃ n : Int, xs[i]? = some (.int .i64 n)) : ∃ L : List Int, L.length = xs.length ∧ xs = L.map (Value.int .i64) := by
  induction xs with
  | nil => exact ⟨[], rfl, rfl⟩
  | cons x xs ih =>
    obtain ⟨n, hn⟩ := h 0 (by simp)
    obtain ⟨L, h1, h2⟩ := ih (fun i hi => by
      have := h (i + 1) (by simpa using hi)
      simpa using this)
    have hx : x = .int .i64 n := by simpa using hn
    exact ⟨n :: L, by simp [h1], by rw [hx, h2]; rfl⟩
section
variable {H : Type} {enc : TypeId × Value → H} {W : World} {r : Reach} {base : Nat} {d : DataW H} {p : List MemPlace} {v : Value}
set_option maxRecDepth 100000 in
theorem open_dense (hv : Value.okWide Tryz.prog W r base 28 v) (h : DataW.Trod enc Tryz.prog W 0 (fun _ => true) true 28 v d p) :
    ∃ (L : List Int) (m : Int) (a : Option Addr) (n c : Nat) (F : List Int), v = .agg (dvC L m (.slice a n c)).toArray ∧ L.length = 256 ∧ Sl1 (Value.int .i64) W a n F ∧ n ≤ c ∧ c ≤ maxLen := by
  obtain ⟨cs, rfl, hsz⟩ := okWide_struct Tryz.underlying28 hv
  obtain ⟨l⟩ := cs
  have hl : l.length = 258 := hsz.trans cells_Dense
  obtain ⟨fuel, hf⟩ := h
  obtain ⟨xs, k, _, _, _, hlen, hx⟩ := DataW.trod_struct Tryz.underlying28 hf
  have hlen' : xs.length = 3 := hlen
  obtain ⟨y0, hy0⟩ : ∃ y, xs[0]? = some y := ⟨xs[0]'(by omega), by simp⟩
  obtain ⟨y1, hy1⟩ : ∃ y, xs[1]? = some y := ⟨xs[1]'(by omega), by simp⟩
  obtain ⟨y2, hy2⟩ : ∃ y, xs[2]? = some y := ⟨xs[2]'(by omega), by simp⟩
  have h0 := hx 0
  simp only [List.getElem?_toArray, List.getElem?_cons_zero, List.getElem?_cons_succ, Option.some.injEq, forall_eq', cells_arr, hy0] at h0
  have h1 := hx 1
  simp only [List.getElem?_toArray, List.getElem?_cons_zero, List.getElem?_cons_succ, Option.some.injEq, forall_eq', cells_int, hy1] at h1
  have h2 := hx 2
  simp only [List.getElem?_toArray, List.getElem?_cons_zero, List.getElem?_cons_succ, Option.some.injEq, forall_eq', cells_ints, hy2] at h2
  have ec : (Value.agg ⟨l⟩).cells.toList = l := rfl
  rw [ec] at h0 h1 h2
  obtain ⟨ys, k2, _, _, _, hyl, hy⟩ := DataW.trod_array Tryz.underlying25 h0
  have hl0 : ((l.drop 0).take 256).length = 256 := by rw [List.length_take, List.drop_zero]; omega
  obtain ⟨L, hL1, hL2⟩ := ints_of (xs := (l.drop 0).take 256) (fun i hi => by
    rw [hl0] at hi
    have h3 := hy i hi
    rw [cells_int, Nat.mul_one] at h3
    obtain ⟨y, hy3⟩ : ∃ y, ys[i]? = some y := ⟨ys[i]'(by omega), by simp⟩
    rw [hy3] at h3
    obtain ⟨n, e, _⟩ := DataW.trod_int Tryz.underlying3 h3
    refine ⟨n, ?_⟩
    have e2 := congrArg (fun z => z[0]?) e
    simpa using e2)
  obtain ⟨m, e1, _⟩ := DataW.trod_int Tryz.underlying3 h1
  obtain ⟨u, hu⟩ : ∃ u, (l.drop 257).take 1 = [u] := by
    have h3 : ((l.drop 257).take 1).length = 1 := by rw [List.length_take, List.length_drop]; omega
    match hq : (l.drop 257).take 1, h3 with
    | [u], _ => exact ⟨u, rfl⟩
  rw [hu] at h2
  obtain ⟨a, n, c, F, rfl, i0, j0, j1⟩ := i64_cells h2
  refine ⟨L, m, a, n, c, F, ?_, hL1.trans hl0, i0, j0, j1⟩
  have e : l = dvC L m (.slice a n c) := by
    unfold dvC
    rw [← hL2, ← e1, ← hu, List.drop_zero]
    have s1 : l.take 256 ++ (l.drop 256).take 1 = l.take 257 := by rw [← List.take_add]
    rw [s1, ← List.take_add, List.take_of_length_le (by omega)]
  rw [e]
end
end Go.Proofs.YtjfhefffbkpgkaaGreat
