/- What the law's walk takes besides: EF, EG. -/
import Derived.Test.YtbiinfnekhhfkaaGreatZS1
import Derived.Test.YtbiinfnekhhfkaaGreatZS2
import Derived.Test.YtbiinfnekhhfkaaGreatZS3
import Derived.Test.YtbiinfnekhhfkaaGreatZS4
import Derived.Test.YtbiinfnekhhfkaaGreatZS5
import Derived.Test.YtbiinfnekhhfkaaGreatZS6
import Derived.Test.YtbiinfnekhhfkaaGreatZS7
import Derived.Test.YtbiinfnekhhfkaaGreatZS8
import Derived.Test.YtbiinfnekhhfkaaGreatZS9
import Derived.Test.YtbiinfnekhhfkaaGreatZS10
import Derived.Test.YtbiinfnekhhfkaaGreatZS11
import Derived.Test.YtbiinfnekhhfkaaGreatZS12
import Derived.Test.YtbiinfnekhhfkaaGreatZS13
import Derived.Test.YtbiinfnekhhfkaaGreatZS14
import Derived.Test.YtbiinfnekhhfkaaGreatZS15
import Derived.Test.YtbiinfnekhhfkaaGreatZS16
import Derived.Test.YtbiinfnekhhfkaaGreatZS17

namespace Go.Proofs.YtbiinfnekhhfkaaGreat
open Go.RowKit Go.Sort
set_option linter.unusedVariables false
set_option linter.unusedSimpArgs false

def uZ (fold : Bool) (wss : List (List Int)) (z at_ : Int) (F : List Int) : Int := if rightP fold wss = true then fdZ fold wss z at_ F else z
def uA (fold : Bool) (wss : List (List Int)) (z at_ : Int) (F : List Int) : Int := if rightP fold wss = true then fdA wss z at_ F else at_
def uE (fold : Bool) (wss : List (List Int)) (z at_ : Int) (F : List Int) : Int := if rightP fold wss = true then fdE wss z at_ F else 2
def uH (fold : Bool) (wss : List (List Int)) (z at_ : Int) (F : List Int) : List HitP := if rightP fold wss = true then fdH fold wss z at_ F else []

theorem uH_bd {fold : Bool} {wss : List (List Int)} (z at_ : Int) (F : List Int) : ∀ h ∈ uH fold wss z at_ F, (I64 h.1 ∧ I64 h.2) ∧ 0 ≤ h.2 ∧ h.2 < (wss.length : Int) := by
  intro h hh
  unfold uH at hh
  split at hh
  · rename_i hr
    exact fdH_bd hr z at_ F h hh
  · cases hh
theorem uH_len {fold : Bool} {wss : List (List Int)} (z at_ : Int) (F : List Int) : (uH fold wss z at_ F).length ≤ 400 * F.length := by
  unfold uH
  split
  · rename_i hr
    exact fdH_len hr z at_ F
  · simp
theorem uE_or {fold : Bool} {wss : List (List Int)} (z at_ : Int) (F : List Int) : uE fold wss z at_ F = 0 ∨ (uE fold wss z at_ F = 2 ∧ uH fold wss z at_ F = []) := by
  unfold uE uH fdE fdH
  by_cases hr : rightP fold wss = true
  · rw [if_pos hr, if_pos hr]
    by_cases ho : fdOK wss z at_ F = true
    · exact .inl (if_pos ho)
    · exact .inr ⟨if_neg ho, if_neg ho⟩
  · rw [if_neg hr, if_neg hr]
    exact .inr ⟨rfl, rfl⟩

structure Mach14 (W : World) (p : Value) (fold : Bool) (wss : List (List Int)) : Prop where
  right : ∀ V, Below W.heap.size W V → ∀ z at_ : Int, Calls Tryz.prog 57 #[p, scV z at_] V fun e w' => e = .returned (.bool (rightP fold wss && scanR (nodesL wss).length z at_)) ∧ Below V.heap.size V w'
  feed : ∀ V, Below W.heap.size W V → ∀ (z at_ : Int) (a : Option Addr) (n cn : Nat) (css : List (List Int)), Wds V a n css → n ≤ 1000000 → css.flatten.length ≤ 1000000 → FedOK V p z at_ a n cn (uZ fold wss z at_ css.flatten) (uA fold wss z at_ css.flatten) (uE fold wss z at_ css.flatten) (uH fold wss z at_ css.flatten)

theorem mach13 (fold : Bool) (a : Option Addr) (la ca : Nat) (wss : List (List Int)) (w : World) (hA : Wds w a la wss) (hla : la ≤ 1000000) (hM : ∀ x ∈ wss, x.length ≤ 1000000) (hT : (begL fold wss).length ≤ 1000000) :
    Calls Tryz.prog 17 #[.agg (setV fold a la ca)] w fun e w' => ∃ (p : Value) (er : Int), e = .returned (.tuple #[p, .int .i64 er]) ∧ Mach14 w' p fold wss ∧ Below w.heap.size w w' := by
  cases hr : rightP fold wss with
  | false =>
    refine (compile13_no fold a la ca wss w hA hla hM hT hr).mono ?_
    rintro e w' ⟨rfl, hb⟩
    refine ⟨_, _, rfl, ⟨fun V hV z at_ => ?_, fun V hV z at_ a n cn css hC hn hT V2 hV2 => ?_⟩, hb⟩
    · rw [hr]
      exact right14_nil z at_ V
    · refine (feed14_nil z at_ a n cn V2).mono ?_
      rintro e w2 ⟨rfl, hb2⟩
      unfold uZ uA uE uH
      simp only [hr]
      exact ⟨_, rfl, World.ownsRow_nil _ _ _ _, hb2⟩
  | true =>
    refine (compile13_use fold a la ca wss w hA hla hM hT hr).mono ?_
    rintro e w' ⟨B, rfl, hU⟩
    refine ⟨_, _, rfl, ⟨fun V hV z at_ => ?_, fun V hV z at_ a n cn css hC hn hT V2 hV2 => ?_⟩, hU.bel⟩
    · rw [hr]
      exact right14_any z at_ V (hU.below hV)
    · refine (feed14_w ((hU.below hV).below hV2) hr z at_ a n cn css (hC.below hV2) hn hT).mono ?_
      rintro e w2 ⟨a1, c1, rfl, _, _, ho, hb⟩
      unfold uZ uA uE uH
      simp only [hr]
      exact ⟨_, rfl, ho, hb⟩

theorem rfeed_u (fold : Bool) (a : Option Addr) (la ca : Nat) (z at_ : Int) (b : Option Addr) (n cn : Nat) (css wss : List (List Int)) (w : World) (hA : Wds w a la wss) (hC : Wds w b n css) (hla : la ≤ 1000) (hM : ∀ x ∈ wss, x.length ≤ 1000000) (hn : n ≤ 1000000) (hT : css.flatten.length ≤ 900000) :
    Calls Tryz.prog 56 #[.agg (setV fold a la ca), scV z at_, .slice b n cn] w fun e w' => ∃ v, e = .returned (.tuple #[scV (uZ fold wss z at_ css.flatten) (uA fold wss z at_ css.flatten), v, .int .i64 (uE fold wss z at_ css.flatten)]) ∧ OwnH w' w.heap.size v (uH fold wss z at_ css.flatten) ∧ Below w.heap.size w w' := by
  unfold uZ uA uE uH
  cases hr : rightP fold wss with
  | false =>
    refine (rfeed14_no fold a la ca z at_ b n cn css wss w hA hC (by omega) hM hn (by omega) (by rw [hr]; rfl)).mono ?_
    rintro e w2 ⟨rfl, hb2⟩
    exact ⟨_, rfl, World.ownsRow_nil _ _ _ _, hb2⟩
  | true => exact rfeed14_r fold a la ca z at_ b n cn css wss w hA hC hla hM hn hT hr

theorem cnt_dist {l : List HitP} {n : Nat} (h : ∀ x ∈ l, 0 ≤ x.2 ∧ x.2 < (n : Int)) : distN (l.map (·.2)) = cntW (l.map (·.2)) n :=
  distN_count fun x hx => by
    obtain ⟨y, hy, rfl⟩ := List.mem_map.1 hx
    exact h y hy

theorem Mach14.count {W : World} {p : Value} {fold : Bool} {wss : List (List Int)} (h : Mach14 W p fold wss) {V : World} (hV : Below W.heap.size W V) (z at_ : Int) (a : Option Addr) (n cn : Nat) (css : List (List Int)) (hC : Wds V a n css) (hn : n ≤ 1000000) (hT : css.flatten.length ≤ 1000000) :
    Calls Tryz.prog 59 #[p, scV z at_, .slice a n cn] V fun e w' => e = .returned (.tuple #[.int .i64 ((uH fold wss z at_ css.flatten).length : Int), .int .i64 (cntW ((uH fold wss z at_ css.flatten).map (·.2)) wss.length : Int)]) ∧ Below V.heap.size V w' := by
  have hl := uH_len (fold := fold) (wss := wss) z at_ css.flatten
  refine (count14_run p z at_ a n cn _ _ _ _ V (h.feed V hV z at_ a n cn css hC hn hT) (by omega) (fun x hx => (uH_bd z at_ _ x hx).1) (by rcases uE_or (fold := fold) (wss := wss) z at_ css.flatten with h | h; exact .inl h; exact .inr h.1)).mono ?_
  rintro e w' ⟨rfl, hb⟩
  refine ⟨?_, hb⟩
  rw [cnt_dist (n := wss.length) (fun x hx => (uH_bd z at_ _ x hx).2)]
  rcases uE_or (fold := fold) (wss := wss) z at_ css.flatten with h | ⟨h, h2⟩
  · rw [if_pos h, if_pos h]
  · rw [h2, h]
    have e : cntW (([] : List HitP).map (·.2)) wss.length = 0 := by simp [cntW]
    rw [e]
    rfl

theorem rcount_u (fold : Bool) (a : Option Addr) (la ca : Nat) (z at_ : Int) (b : Option Addr) (n cn : Nat) (css wss : List (List Int)) (w : World) (hA : Wds w a la wss) (hC : Wds w b n css) (hla : la ≤ 1000) (hM : ∀ x ∈ wss, x.length ≤ 1000000) (hn : n ≤ 1000000) (hT : css.flatten.length ≤ 900000) :
    Calls Tryz.prog 60 #[.agg (setV fold a la ca), scV z at_, .slice b n cn] w fun e w' => e = .returned (.tuple #[.int .i64 ((uH fold wss z at_ css.flatten).length : Int), .int .i64 (cntW ((uH fold wss z at_ css.flatten).map (·.2)) wss.length : Int)]) ∧ Below w.heap.size w w' := by
  have hl := uH_len (fold := fold) (wss := wss) z at_ css.flatten
  have h := rcount14_run fold a la ca z at_ b n cn _ _ _ _ wss w hA hla (fun V hV => rfeed_u fold a la ca z at_ b n cn css wss V (hA.below hV) (hC.below hV) hla hM hn hT) (by omega) (fun x hx => (uH_bd z at_ _ x hx).1)
  rw [hA.len]
  exact h

theorem Mach14.all {W : World} {p : Value} {fold : Bool} {wss : List (List Int)} (h : Mach14 W p fold wss) {V : World} (hV : Below W.heap.size W V) (frm : Int) (a : Option Addr) (n cn : Nat) (css : List (List Int)) (hC : Wds V a n css) (hn : n ≤ 1000000) (hT : css.flatten.length ≤ 1000000) :
    Calls Tryz.prog 63 #[p, .int .i64 frm, .slice a n cn] V fun e w' => ∃ v, e = .returned (.tuple #[v, .int .i64 (if newE frm = 0 then uE fold wss 0 (newA frm) css.flatten else 2)]) ∧ OwnH w' V.heap.size v (if newE frm = 0 then uH fold wss 0 (newA frm) css.flatten else []) ∧ Below V.heap.size V w' := by
  by_cases h0 : newE frm = 0
  · have h1 : newA frm = frm := by
      unfold newE at h0
      unfold newA
      split at h0
      · rename_i h; rw [if_pos h]
      · cases h0
    rw [h1]
    exact all14_run p frm a n cn _ _ _ _ V (fun _ => h.feed V hV 0 frm a n cn css hC hn hT)
  · refine (all14_run p frm a n cn 0 0 0 [] V (fun h1 => absurd h1 h0)).mono ?_
    rintro e w' ⟨v, rfl, ho, hb⟩
    rw [if_neg h0] at ho
    refine ⟨v, ?_, ?_, hb⟩
    · rw [if_neg h0, if_neg h0]
    · rw [if_neg h0]
      exact ho
theorem scan_fields : ((Tryz.prog.fieldsOf 88).toList.map fun f => (f.name, f.type, f.offset)) = [("Node", 3, 0), ("At", 3, 1)] := by kernel_rfl
theorem equalIn_scan (x y : Int × Int) (W : World) : (Op.equalIn 10000 88 (.agg #[.int .i64 x.1, .int .i64 x.2]) (.agg #[.int .i64 y.1, .int .i64 y.2])).run Tryz.prog W = .ok (decide (x = y)) W := by
  rw [run_equalIn_agg W 9999 88 _ _ (by kernel_rfl) (by kernel_rfl)]
  rw [eqFields_map 9999 _ _ _ [⟨ "Node", 3, 0, false, "", "", 0⟩, ⟨ "At", 3, 1, false, "", "", 0⟩] scan_fields]
  have h0 : ∀ W : World, (part 3 #[.int .i64 x.1, .int .i64 x.2] 0).run Tryz.prog W = .ok (.int .i64 x.1) W := fun W => by kernel_rfl
  have h1 : ∀ W : World, (part 3 #[.int .i64 x.1, .int .i64 x.2] 1).run Tryz.prog W = .ok (.int .i64 x.2) W := fun W => by kernel_rfl
  have g0 : ∀ W : World, (part 3 #[.int .i64 y.1, .int .i64 y.2] 0).run Tryz.prog W = .ok (.int .i64 y.1) W := fun W => by kernel_rfl
  have g1 : ∀ W : World, (part 3 #[.int .i64 y.1, .int .i64 y.2] 1).run Tryz.prog W = .ok (.int .i64 y.2) W := fun W => by kernel_rfl
  simp only [Op.eqFields, Sem.run_bind, Sem.run_ite, Sem.run_pure, h0, h1, g0, g1, Result.andThen_ok, run_equalIn_int _ _ _ _ _ _ _ Tryz.underlying3]
  obtain ⟨a, b⟩ := x
  obtain ⟨c, d⟩ := y
  by_cases e1 : a = c <;> by_cases e2 : b = d <;> simp [e1, e2]
theorem neq_scan (x y : Int × Int) (W : World) : (binOp .neq 88 (.agg #[.int .i64 x.1, .int .i64 x.2]) (.agg #[.int .i64 y.1, .int .i64 y.2])).run Tryz.prog W = .ok (.bool (!decide (x = y))) W := by
  rw [run_neq_struct, equalIn_scan]
  rfl
theorem newE_or (frm : Int) : newE frm = 0 ∨ newE frm = 2 := by
  unfold newE
  split <;> simp
end Go.Proofs.YtbiinfnekhhfkaaGreat

namespace Go.Proofs.YtbiinfnekhhfkaaGreat
open Go.RowKit Go.Sort
set_option linter.unusedVariables false
set_option linter.unusedSimpArgs false

set_option maxRecDepth 100000 in
set_option maxHeartbeats 16000000 in
theorem streamTells_walk (fold : Bool) (a : Option Addr) (la ca : Nat) (z at_ frm : Int) (b : Option Addr) (lb cb : Nat) (wss css : List (List Int)) (w : World) (hA : Wds w a la wss) (hC : Wds w b lb css) :
    Calls Tryz.prog 11 #[.agg (setV fold a la ca), scV z at_, .int .i64 frm, .slice b lb cb] w fun e w' => e = .returned (.bool true) ∧ Below w.heap.size w w' := by
  have HL := Lib.hid hA.len
  have HCL := Lib.hid hC.len
  obtain ⟨W, hW⟩ : ∃ W, W = (w.alloc (.cells (setV fold a la ca) 24)).alloc (.cells #[.int .i64 z, .int .i64 at_] 88) := ⟨_, rfl⟩
  have hB : Below w.heap.size w W := by rw [hW]; exact ((Below.refl _ _).alloc (Nat.le_refl _) _).alloc (by simp) _
  have hO : Bx w.heap.size [.cells (setV fold a la ca) 24, .cells #[.int .i64 z, .int .i64 at_] 88] W := by rw [hW]; exact ((Bx.nil _ w).snoc _ rfl).snoc _ (by simp)
  have s0 : W.cell? ⟨w.heap.size, 0, none⟩ = some (.bool fold) := hO.cell (i := 0) rfl rfl
  have s1 : W.cell? ⟨w.heap.size, 1, none⟩ = some (.slice a la ca) := hO.cell (i := 0) rfl rfl
  have KS : Hid (∀ V, RowKit.Below W.heap.size W V → V.cell? ⟨w.heap.size, 0, none⟩ = some (.bool fold) ∧ V.cell? ⟨w.heap.size, 1, none⟩ = some (.slice a la ca) ∧ V.cell? ⟨w.heap.size + 1, 0, none⟩ = some (.int .i64 z) ∧ V.cell? ⟨w.heap.size + 1, 1, none⟩ = some (.int .i64 at_)) := fun V hV =>
    have h := hO.below hV
    ⟨h.cell (i := 0) rfl rfl, h.cell (i := 0) rfl rfl, h.cell (i := 1) rfl rfl, h.cell (i := 1) rfl rfl⟩
  have hg := great14_any fold a b la ca lb cb wss css W (hA.below hB) (hC.below hB)
  obtain ⟨G, hG⟩ : ∃ G, great14 wss css = G := ⟨_, rfl⟩
  rw [hG] at hg
  have HG := Lib.hid hg
  have HA := Lib.hid (hA.below hB)
  have HC := Lib.hid (hC.below hB)
  have HB := Lib.hid hB
  clear hg hA hC hB hO
  go_enter Tryz.func11, Tryz.ntmps11
  go_upto_region 1 with fail
  rw [← hW]
  clear hW
  go_wp2_with fail
  refine HG.out.mono ?_
  rintro e w1 ⟨rfl, hb1⟩
  clear s0 s1 HG
  cases G with
  | true =>
    go_wp2_with fail
    refine (wakes14 _).mono ?_
    rintro e w2 ⟨rfl, hb2⟩
    go_wp2
    go_ret
    exact ⟨rfl, HB.out.trans ((hb1.trans (hb2.mono hb1.size)).mono HB.out.size)⟩
  | false =>
    obtain ⟨k0, k1, k2, k3⟩ := great14_false hG
    obtain ⟨g1, g2, g3⟩ := gr8_bd k0 fold
    rw [HL.out] at g1
    rw [HCL.out] at k1
    have hM : ∀ x ∈ wss, x.length ≤ 1000000 := fun x hx => by have := g2 x hx; omega
    have HM := Lib.hid hM
    have HT := Lib.hid k3
    have hla : la ≤ 80 := g1
    have hlb : lb ≤ 30 := k1
    have HMC := Lib.hid (mach13 fold a la ca wss w1 (HA.out.below hb1) (by omega) hM (by omega))
    obtain ⟨s0, s1, s2, s3⟩ := KS.out w1 hb1
    clear hG k0 k1 k2 k3 g1 g2 g3 hM
    go_upto_region 4 with (go_at_call 17; refine HMC.out.mono ?_; rintro e w2 ⟨p, er, rfl, hU, hb2⟩)
    have hb12 := hb1.trans (hb2.mono hb1.size)
    have HU := Lib.hid hU
    clear s0 s1 s2 s3 HMC hU hb1 hb2
    obtain ⟨F, hF⟩ : ∃ F, css.flatten = F := ⟨_, rfl⟩
    have hu := fun (V : World) (h : RowKit.Below w2.heap.size w2 V) => HC.out.below (hb12.trans (h.mono hb12.size))
    have KF := Lib.hid (fun (V : World) (h : RowKit.Below w2.heap.size w2 V) => HU.out.feed V h z at_ b lb cb css (hu V h) (by omega) (by have := HT.out; omega) V (Below.refl _ _))
    have KN := Lib.hid (fun (V : World) (h : RowKit.Below w2.heap.size w2 V) => HU.out.count h z at_ b lb cb css (hu V h) (by omega) (by have := HT.out; omega))
    have KL := Lib.hid (fun (V : World) (h : RowKit.Below w2.heap.size w2 V) => HU.out.all h frm b lb cb css (hu V h) (by omega) (by have := HT.out; omega))
    have KR := Lib.hid (fun (V : World) (h : RowKit.Below w2.heap.size w2 V) => HU.out.right V h z at_)
    have JF := Lib.hid (fun (V : World) (h : RowKit.Below w2.heap.size w2 V) (y x : Int) => rfeed_u fold a la ca y x b lb cb css wss V (HA.out.below (hb12.trans (h.mono hb12.size))) (hu V h) (by omega) HM.out (by omega) (by have := HT.out; omega))
    have JN := Lib.hid (fun (V : World) (h : RowKit.Below w2.heap.size w2 V) => rcount_u fold a la ca z at_ b lb cb css wss V (HA.out.below (hb12.trans (h.mono hb12.size))) (hu V h) (by omega) HM.out (by omega) (by have := HT.out; omega))
    have JR := Lib.hid (fun (V : World) (h : RowKit.Below w2.heap.size w2 V) => rright14_any fold a la ca z at_ wss V (HA.out.below (hb12.trans (h.mono hb12.size))) (by omega) HM.out)
    rw [hF] at KF KN KL JF JN
    have HFT : Hid (F.length ≤ 200) := by rw [Hid, ← hF]; exact HT.out
    have KB : Hid (∀ V, RowKit.Below w2.heap.size w2 V → (V.cell? ⟨w.heap.size, 0, none⟩ = some (.bool fold) ∧ V.cell? ⟨w.heap.size, 1, none⟩ = some (.slice a la ca) ∧ V.cell? ⟨w.heap.size + 1, 0, none⟩ = some (.int .i64 z) ∧ V.cell? ⟨w.heap.size + 1, 1, none⟩ = some (.int .i64 at_)) ∧ RowKit.Below w.heap.size w V) := fun V h => ⟨KS.out V (hb12.trans (h.mono hb12.size)), HB.out.trans ((hb12.trans (h.mono hb12.size)).mono HB.out.size)⟩
    clear hF hu KS HU hb12 HT HA HC HB HM HCL HL
    obtain ⟨Rb, hRb⟩ : ∃ X, (rightP fold wss && scanR (nodesL wss).length z at_) = X := ⟨_, rfl⟩
    rw [hRb] at KR JR
    have JF1 := Lib.hid (fun (V : World) (h : RowKit.Below w2.heap.size w2 V) => JF.out V h z at_)
    have JF2 := Lib.hid (fun (V : World) (h : RowKit.Below w2.heap.size w2 V) => JF.out V h 0 (newA frm))
    have h1b : ∀ h ∈ uH fold wss z at_ F, I64 h.1 ∧ I64 h.2 := fun h hh => (uH_bd z at_ F h hh).1
    have h3b : ∀ h ∈ uH fold wss 0 (newA frm) F, I64 h.1 ∧ I64 h.2 := fun h hh => (uH_bd 0 (newA frm) F h hh).1
    have h1l : (uH fold wss z at_ F).length ≤ 80000 := by have := uH_len (fold := fold) (wss := wss) z at_ F; have := HFT.out; omega
    have h3l : (uH fold wss 0 (newA frm) F).length ≤ 80000 := by have := uH_len (fold := fold) (wss := wss) 0 (newA frm) F; have := HFT.out; omega
    obtain ⟨Z1, hZ1⟩ : ∃ X, uZ fold wss z at_ F = X := ⟨_, rfl⟩
    obtain ⟨A1, hA1⟩ : ∃ X, uA fold wss z at_ F = X := ⟨_, rfl⟩
    obtain ⟨E1, hE1⟩ : ∃ X, uE fold wss z at_ F = X := ⟨_, rfl⟩
    obtain ⟨H1, hH1⟩ : ∃ X, uH fold wss z at_ F = X := ⟨_, rfl⟩
    obtain ⟨NA, hNA⟩ : ∃ X, newA frm = X := ⟨_, rfl⟩
    obtain ⟨NE, hNE⟩ : ∃ X, newE frm = X := ⟨_, rfl⟩
    rw [hNA] at KL JF2 h3b h3l
    rw [hNE] at KL
    obtain ⟨Z3, hZ3⟩ : ∃ X, uZ fold wss 0 NA F = X := ⟨_, rfl⟩
    obtain ⟨A3, hA3⟩ : ∃ X, uA fold wss 0 NA F = X := ⟨_, rfl⟩
    obtain ⟨E3, hE3⟩ : ∃ X, uE fold wss 0 NA F = X := ⟨_, rfl⟩
    obtain ⟨H3, hH3⟩ : ∃ X, uH fold wss 0 NA F = X := ⟨_, rfl⟩
    rw [hE3, hH3] at KL
    rw [hZ3, hA3, hE3, hH3] at JF2
    rw [hZ1, hA1, hE1, hH1] at KF JF1
    rw [hH1] at KN JN h1b h1l
    rw [hH3] at h3b h3l
    obtain ⟨E2, hE2⟩ : ∃ X, (if NE = 0 then E3 else 2) = X := ⟨_, rfl⟩
    obtain ⟨H2, hH2⟩ : ∃ X, (if NE = 0 then H3 else []) = X := ⟨_, rfl⟩
    rw [hE2, hH2] at KL
    have HNE : Hid ((NE = 0 ∧ E2 = E3 ∧ H2 = H3) ∨ (NE = 2 ∧ E2 = 2 ∧ H2 = [])) := by
      rcases newE_or frm with h | h
      · rw [hNE] at h
        rw [h] at hE2 hH2
        exact .inl ⟨h, hE2.symm, hH2.symm⟩
      · rw [hNE] at h
        rw [h] at hE2 hH2
        exact .inr ⟨h, hE2.symm, hH2.symm⟩
    have h2b : ∀ h ∈ H2, I64 h.1 ∧ I64 h.2 := by
      rcases HNE.out with ⟨_, _, h⟩ | ⟨_, _, h⟩
      · rw [h]; exact h3b
      · rw [h]; simp
    have H2B := Lib.hid h2b
    have h2l : H2.length ≤ 80000 := by
      rcases HNE.out with ⟨_, _, h⟩ | ⟨_, _, h⟩
      · rw [h]; exact h3l
      · rw [h]; simp
    obtain ⟨n1, hn1⟩ : ∃ X, H1.length = X := ⟨_, rfl⟩
    obtain ⟨c1, hc1⟩ : ∃ X, cntW (H1.map (·.2)) wss.length = X := ⟨_, rfl⟩
    have KN' : Hid (∀ V, RowKit.Below w2.heap.size w2 V → Calls Tryz.prog 59 #[p, scV z at_, .slice b lb cb] V fun e w' => e = .returned (.tuple #[.int .i64 (n1 : Int), .int .i64 (c1 : Int)]) ∧ RowKit.Below V.heap.size V w') := by
      rw [Hid, ← hn1, ← hc1]; exact KN.out
    have JN' : Hid (∀ V, RowKit.Below w2.heap.size w2 V → Calls Tryz.prog 60 #[.agg (setV fold a la ca), scV z at_, .slice b lb cb] V fun e w' => e = .returned (.tuple #[.int .i64 (n1 : Int), .int .i64 (c1 : Int)]) ∧ RowKit.Below V.heap.size V w') := by
      rw [Hid, ← hn1, ← hc1]; exact JN.out
    have LN : Hid (∀ V, Calls Tryz.prog 61 #[.int .i64 frm] V fun e w' => e = .returned (.tuple #[scV 0 NA, .int .i64 NE]) ∧ RowKit.Below V.heap.size V w') := by
      rw [Hid, ← hNA, ← hNE]; exact fun V => new14_any frm V
    have MN : Hid (∀ V, Calls Tryz.prog 62 #[.int .i64 frm] V fun e w' => e = .returned (.tuple #[scV 0 NA, .int .i64 NE]) ∧ RowKit.Below V.heap.size V w') := by
      rw [Hid, ← hNA, ← hNE]; exact fun V => rnew14_any frm V
    have H1B := Lib.hid h1b
    have H3B := Lib.hid h3b
    have HN1 : Hid (H1.length = n1) := hn1
    rw [hn1] at h1l
    obtain ⟨n2, hn2⟩ : ∃ X, H2.length = X := ⟨_, rfl⟩
    obtain ⟨n3, hn3⟩ : ∃ X, H3.length = X := ⟨_, rfl⟩
    rw [hn2] at h2l
    rw [hn3] at h3l
    have HN2 : Hid (H2.length = n2) := hn2
    have HN3 : Hid (H3.length = n3) := hn3
    clear KN JN JF hRb hZ1 hA1 hE1 hH1 hNA hNE hZ3 hA3 hE3 hH3 hE2 hH2 h1b h2b h3b hn1 hc1 hn2 hn3 HFT
    have kz : ∀ W, (binOp .neq 88 (.agg #[.int .i64 Z1, .int .i64 A1]) (.agg #[.int .i64 Z1, .int .i64 A1])).run Tryz.prog W = .ok (.bool false) W := fun W => by have h := neq_scan (Z1, A1) (Z1, A1) W; rw [decide_eq_true rfl] at h; exact h
    have ky : ∀ W, (binOp .neq 88 (.agg #[.int .i64 0, .int .i64 NA]) (.agg #[.int .i64 0, .int .i64 NA])).run Tryz.prog W = .ok (.bool false) W := fun W => by have h := neq_scan (0, NA) (0, NA) W; rw [decide_eq_true rfl] at h; exact h
    have kx : ∀ W, (binOp .neq 4 (.bool Rb) (.bool Rb)).run Tryz.prog W = .ok (.bool false) W := fun W => by cases Rb <;> kernel_rfl

    have b2 : RowKit.Below w2.heap.size w2 w2 := Below.refl _ _
    have h := KF.out w2 b2
    have hX := Lib.hid h
    obtain ⟨⟨s0, s1, s2, s3⟩, _⟩ := KB.out w2 b2
    clear h
    go_upto_region 5 with (go_at_call 55; refine hX.out.mono ?_; rintro e w3 ⟨v, rfl, ho, hb⟩; obtain ⟨a11, c11, rfl, hc, hs⟩ := ho.hts H1B.out)
    rw [HN1.out] at hs hc ⊢
    obtain ⟨V3, hV⟩ : ∃ X, X = w3.alloc (.cells #[.int .i64 Z1, .int .i64 A1] 88) := ⟨_, rfl⟩
    have hbb : RowKit.Below w3.heap.size w3 V3 := by rw [hV]; exact below_alloc _ _
    have hBX : V3.heap[w3.heap.size]? = some (.cells #[.int .i64 Z1, .int .i64 A1] 88 (0, 0)) := by rw [hV]; exact World.alloc_heap_new _ _
    rw [← hV]
    have HS11 := Lib.hid (hs.below hbb)
    obtain ⟨x11, hx⟩ : ∃ b, w3.heap.size = b := ⟨_, rfl⟩
    rw [hx] at hBX ⊢
    have X11 : Hid (∀ V, RowKit.Below V3.heap.size V3 V → V.cell? ⟨x11, 0, none⟩ = some (.int .i64 Z1) ∧ V.cell? ⟨x11, 1, none⟩ = some (.int .i64 A1)) := fun V hV => by
      have h := (hV.block x11 (Array.getElem?_eq_some_iff.1 hBX).1).trans hBX
      exact ⟨by simp [World.cell?, h], by simp [World.cell?, h]⟩
    have g11 : Hid (RowKit.Below w2.heap.size w2 V3) := hb.trans (hbb.mono hb.size)
    clear hV hx hBX hbb hs hc ho hb hX s0 s1 s2 s3
    have b3 := g11.out
    have h := JF1.out V3 b3
    have hX := Lib.hid h
    obtain ⟨⟨s0, s1, s2, s3⟩, _⟩ := KB.out V3 b3
    clear h
    go_upto_region 6 with (go_at_call 56; refine hX.out.mono ?_; rintro e w4 ⟨v, rfl, ho, hb⟩; obtain ⟨a14, c14, rfl, hc, hs⟩ := ho.hts H1B.out)
    rw [HN1.out] at hs hc ⊢
    obtain ⟨V4, hV⟩ : ∃ X, X = w4.alloc (.cells #[.int .i64 Z1, .int .i64 A1] 88) := ⟨_, rfl⟩
    have hbb : RowKit.Below w4.heap.size w4 V4 := by rw [hV]; exact below_alloc _ _
    have hBX : V4.heap[w4.heap.size]? = some (.cells #[.int .i64 Z1, .int .i64 A1] 88 (0, 0)) := by rw [hV]; exact World.alloc_heap_new _ _
    rw [← hV]
    have HS14 := Lib.hid (hs.below hbb)
    obtain ⟨x14, hx⟩ : ∃ b, w4.heap.size = b := ⟨_, rfl⟩
    rw [hx] at hBX ⊢
    have X14 : Hid (∀ V, RowKit.Below V4.heap.size V4 V → V.cell? ⟨x14, 0, none⟩ = some (.int .i64 Z1) ∧ V.cell? ⟨x14, 1, none⟩ = some (.int .i64 A1)) := fun V hV => by
      have h := (hV.block x14 (Array.getElem?_eq_some_iff.1 hBX).1).trans hBX
      exact ⟨by simp [World.cell?, h], by simp [World.cell?, h]⟩
    have g14 : Hid (RowKit.Below V3.heap.size V3 V4) := hb.trans (hbb.mono hb.size)
    clear hV hx hBX hbb hs hc ho hb hX s0 s1 s2 s3
    have b4 := b3.trans (g14.out.mono b3.size)
    have KC : Hid (∀ V, RowKit.Below V4.heap.size V4 V → (V.cell? ⟨w.heap.size, 0, none⟩ = some (.bool fold) ∧ V.cell? ⟨w.heap.size, 1, none⟩ = some (.slice a la ca) ∧ V.cell? ⟨w.heap.size + 1, 0, none⟩ = some (.int .i64 z) ∧ V.cell? ⟨w.heap.size + 1, 1, none⟩ = some (.int .i64 at_)) ∧ (V.cell? ⟨x11, 0, none⟩ = some (.int .i64 Z1) ∧ V.cell? ⟨x11, 1, none⟩ = some (.int .i64 A1)) ∧ (V.cell? ⟨x14, 0, none⟩ = some (.int .i64 Z1) ∧ V.cell? ⟨x14, 1, none⟩ = some (.int .i64 A1)) ∧ RowKit.Below w2.heap.size w2 V) := fun V hV =>
      ⟨(KB.out V (b4.trans (hV.mono b4.size))).1, X11.out V (g14.out.trans (hV.mono g14.out.size)), X14.out V hV, b4.trans (hV.mono b4.size)⟩
    have HSS : Hid (∀ V, RowKit.Below V4.heap.size V4 V → Calls Tryz.prog 43 #[.slice a11 n1 c11, .slice a14 n1 c14] V fun e w' => e = .returned (.bool true) ∧ RowKit.Below V.heap.size V w') := fun V hV => by
      have h := rsame6_any a11 a14 n1 c11 n1 c14 H1 H1 V (HS11.out.below (g14.out.trans (hV.mono g14.out.size))) (HS14.out.below hV) (by omega)
      rw [decide_eq_true rfl] at h
      exact h
    clear b2 b3 X11 X14 HS11 HS14 g11 g14
    refine wp_region_noPanic ?_
    refine wp_region_held_drew (S := RowKit.Below V4.heap.size V4) (by kernel_rfl) (bel_drewN V4 1) (fun hS => ?_)
    obtain ⟨w5, hw5⟩ : ∃ X, X = V4.drew := ⟨_, rfl⟩
    rw [← hw5] at hS ⊢
    clear hw5
    change wpAnyH _ _ _ _ _ 23 _ _ _
    iterate 6 (refine tkF 22 (v := ?_) ?_ ?_; rotate_left; (· intro V hV; obtain ⟨⟨q0, q1, q2, q3⟩, ⟨q4, q5⟩, ⟨q6, q7⟩, _⟩ := KC.out V hV; first | (go_simp; done) | (go_simp; with_reducible rfl)); try simp only [Act.put, pA, pB, pC])
    refine rdy 6 (fun K hK => ?_)
    go_simp
    go_at_call 43; refine (HSS.out w5 hS).mono ?_; rintro e w6 ⟨rfl, hb6⟩
    refine hK.out _ _ (hS.trans (hb6.mono hS.size)) (fun hS6 => ?_)
    clear hK K
    try simp only [Act.put, pA, pB, pC]
    iterate 10 (refine tkF 22 (v := ?_) ?_ ?_; rotate_left; (· intro V hV; obtain ⟨⟨q0, q1, q2, q3⟩, ⟨q4, q5⟩, ⟨q6, q7⟩, _⟩ := KC.out V hV; first | (go_simp; done) | (go_simp; with_reducible rfl)); try simp only [Act.put, pA, pB, pC])
    iterate 2 (refine tkF 23 (v := ?_) ?_ ?_; rotate_left; (· intro V hV; obtain ⟨⟨q0, q1, q2, q3⟩, ⟨q4, q5⟩, ⟨q6, q7⟩, _⟩ := KC.out V hV; first | (go_simp; done) | (go_simp; with_reducible rfl)); try simp only [Act.put, pA, pB, pC])
    refine rdy 17 (fun K hK => ?_)
    go_simp
    go_at_call 57; refine (KR.out w6 (KC.out w6 hS6).2.2.2).mono ?_; rintro e w7 ⟨rfl, hb7⟩
    refine hK.out _ _ (hS6.trans (hb7.mono hS6.size)) (fun hS7 => ?_)
    clear hK K
    try simp only [Act.put, pA, pB, pC]
    refine rdy 20 (fun K hK => ?_)
    go_simp
    go_at_call 58; refine (JR.out w7 (KC.out w7 hS7).2.2.2).mono ?_; rintro e w8 ⟨rfl, hb8⟩
    refine hK.out _ _ (hS7.trans (hb8.mono hS7.size)) (fun hS8 => ?_)
    clear hK K
    try simp only [Act.put, pA, pB, pC]
    iterate 2 (refine tkF 22 (v := ?_) ?_ ?_; rotate_left; (· intro V hV; first | (go_simp; done) | (go_simp; with_reducible rfl)); try simp only [Act.put, pA, pB, pC])
    refine wpAnyH_done (by kernel_rfl) ?_ _
    refine NoPanic.normal ?_
    have b8 := b4.trans (hS8.mono b4.size)
    clear hS hS6 hS7 hS8 hb6 hb7 hb8 HSS KC b4 kz kx KR JR KF JF1
    have H8 := Lib.hid (KN'.out w8 b8)
    obtain ⟨⟨s0, s1, s2, s3⟩, _⟩ := KB.out w8 b8
    clear KN'
    go_upto_region 9 with (go_at_call 59; refine H8.out.mono ?_; rintro e w9 ⟨rfl, hb9⟩)
    have b9 := b8.trans (hb9.mono b8.size)
    have H9 := Lib.hid (JN'.out w9 b9)
    clear s0 s1 s2 s3 H8 JN'
    obtain ⟨⟨s0, s1, s2, s3⟩, _⟩ := KB.out w9 b9
    go_upto_region 10 with (go_at_call 60; refine H9.out.mono ?_; rintro e w10 ⟨rfl, hb10⟩)
    have b10 := b9.trans (hb10.mono b9.size)
    clear s0 s1 s2 s3 H9 b8 b9 hb9 hb10
    have hX := Lib.hid (LN.out w10)
    go_upto_region 11 with (go_at_call 61; refine hX.out.mono ?_; rintro e w11 ⟨rfl, hb⟩)
    obtain ⟨V11, hV⟩ : ∃ X, X = w11.alloc (.cells #[.int .i64 0, .int .i64 NA] 88) := ⟨_, rfl⟩
    have hbb : RowKit.Below w11.heap.size w11 V11 := by rw [hV]; exact below_alloc _ _
    have hBX : V11.heap[w11.heap.size]? = some (.cells #[.int .i64 0, .int .i64 NA] 88 (0, 0)) := by rw [hV]; exact World.alloc_heap_new _ _
    rw [← hV]
    obtain ⟨x21, hx⟩ : ∃ b, w11.heap.size = b := ⟨_, rfl⟩
    rw [hx] at hBX ⊢
    have X21 : Hid (∀ V, RowKit.Below V11.heap.size V11 V → V.cell? ⟨x21, 0, none⟩ = some (.int .i64 0) ∧ V.cell? ⟨x21, 1, none⟩ = some (.int .i64 NA)) := fun V hV => by
      have h := (hV.block x21 (Array.getElem?_eq_some_iff.1 hBX).1).trans hBX
      exact ⟨by simp [World.cell?, h], by simp [World.cell?, h]⟩
    have g21 : Hid (RowKit.Below w10.heap.size w10 V11) := hb.trans (hbb.mono hb.size)
    clear hV hx hBX hbb hb hX
    have hX := Lib.hid (MN.out V11)
    go_upto_region 12 with (go_at_call 62; refine hX.out.mono ?_; rintro e w12 ⟨rfl, hb⟩)
    obtain ⟨V12, hV⟩ : ∃ X, X = w12.alloc (.cells #[.int .i64 0, .int .i64 NA] 88) := ⟨_, rfl⟩
    have hbb : RowKit.Below w12.heap.size w12 V12 := by rw [hV]; exact below_alloc _ _
    have hBX : V12.heap[w12.heap.size]? = some (.cells #[.int .i64 0, .int .i64 NA] 88 (0, 0)) := by rw [hV]; exact World.alloc_heap_new _ _
    rw [← hV]
    obtain ⟨x23, hx⟩ : ∃ b, w12.heap.size = b := ⟨_, rfl⟩
    rw [hx] at hBX ⊢
    have X23 : Hid (∀ V, RowKit.Below V12.heap.size V12 V → V.cell? ⟨x23, 0, none⟩ = some (.int .i64 0) ∧ V.cell? ⟨x23, 1, none⟩ = some (.int .i64 NA)) := fun V hV => by
      have h := (hV.block x23 (Array.getElem?_eq_some_iff.1 hBX).1).trans hBX
      exact ⟨by simp [World.cell?, h], by simp [World.cell?, h]⟩
    have g23 : Hid (RowKit.Below V11.heap.size V11 V12) := hb.trans (hbb.mono hb.size)
    clear hV hx hBX hbb hb hX
    have b11 := b10.trans (g21.out.mono b10.size)
    have b12 := b11.trans (g23.out.mono b11.size)
    obtain ⟨q0, q1⟩ := X21.out V12 g23.out
    obtain ⟨q2, q3⟩ := X23.out V12 (Below.refl _ _)
    have B12 := Lib.hid b12
    have G23 := Lib.hid g23.out
    clear b10 b11 b12 g21 g23
    go_upto_region 14 with fail
    clear q0 q1 q2 q3 ky
    have h := KL.out V12 B12.out
    have hX := Lib.hid h
    clear h KL
    go_upto_region 15 with (go_at_call 63; refine hX.out.mono ?_; rintro e w14 ⟨v, rfl, ho, hb⟩; obtain ⟨a25, c25, rfl, hc, hs⟩ := ho.hts H2B.out)
    rw [HN2.out] at hs hc ⊢
    have HS25 := Lib.hid hs
    have b14 := B12.out.trans (hb.mono B12.out.size)
    have hX23 := X23.out w14 hb
    obtain ⟨q2, q3⟩ := hX23
    clear hX hs hc ho
    have h := JF2.out w14 b14
    have hX := Lib.hid h
    obtain ⟨⟨s0, s1, s2, s3⟩, _⟩ := KB.out w14 b14
    clear h
    go_upto_region 16 with (go_at_call 56; refine hX.out.mono ?_; rintro e w15 ⟨v, rfl, ho, hb15⟩; obtain ⟨a28, c28, rfl, hc, hs⟩ := ho.hts H3B.out)
    rw [HN3.out] at hs hc ⊢
    obtain ⟨V15, hV⟩ : ∃ X, X = w15.alloc (.cells #[.int .i64 Z3, .int .i64 A3] 88) := ⟨_, rfl⟩
    have hbb : RowKit.Below w15.heap.size w15 V15 := by rw [hV]; exact below_alloc _ _
    rw [← hV]
    have HS28 := Lib.hid (hs.below hbb)
    have hb16 := hb15.trans (hbb.mono hb15.size)
    have HS25' := Lib.hid (HS25.out.below hb16)
    have b15 := b14.trans (hb16.mono b14.size)
    have HB15 := Lib.hid (KB.out V15 b15).2
    clear hV hbb hs hc ho hX s0 s1 s2 s3 q2 q3 hb15 hb16 HS25 b14 b15 hb JF2 KB X21 X23 G23 B12 LN MN
    rcases HNE.out with ⟨rfl, rfl, h⟩ | ⟨rfl, rfl, h⟩
    · subst h
      have e23 : n2 = n3 := by rw [← HN2.out, ← HN3.out]
      subst e23
      have hX := Lib.hid (rsame6_any a25 a28 n2 c25 n2 c28 H2 H2 V15 HS25'.out HS28.out (by omega))
      rw [decide_eq_true rfl] at hX
      clear HNE
      go_wp2_with fail
      refine hX.out.mono ?_
      rintro e w16 ⟨rfl, hb16⟩
      clear hX
      go_wp2_with fail
      refine (wakes14 _).mono ?_
      rintro e w17 ⟨rfl, hb17⟩
      go_wp2
      go_ret
      exact ⟨rfl, HB15.out.trans ((hb16.trans (hb17.mono hb16.size)).mono HB15.out.size)⟩
    · subst h
      obtain rfl : n2 = 0 := by rw [← HN2.out]; rfl
      clear HNE
      go_wp2_with fail
      refine (wakes14 _).mono ?_
      rintro e w17 ⟨rfl, hb17⟩
      go_wp2
      go_ret
      exact ⟨rfl, HB15.out.trans (hb17.mono HB15.out.size)⟩
end Go.Proofs.YtbiinfnekhhfkaaGreat
