/- Parts of the proof, one behind the other: X7, X8, X9, XA, XB, XC, XD, XE. No condition but what each theorem states. -/
import Derived.Lib.AppendZeros
import Derived.Lib.SliceRun
import Derived.Laws.CopyRow
import Derived.Test.YtglfdclpjmhoiaaZG6
set_option linter.unusedVariables false
set_option linter.unusedSimpArgs false

/- Greedy (layer 15): words measured; hits picked; walked. -/

namespace Go.Proofs.Ytglfdclpjmhoiaa
open Go.RowKit Go.Sort

theorem results_lens {fn : Func} {p : Tmp} {tmps : Array Value} {W : World} {B : Nat} {x y : Value} (h : fn.results = #[.cell p 53]) (hp : tmps.getD p undef = .pointer (some ⟨B, 0, none⟩)) (hB : W.heap[B]? = some (.cells #[x, y] 53 (0, 0))) :
  (results fn tmps).run Try.prog W = .ok (.agg #[x, y]) W := by
 have hl : (loadVar 53 ⟨B, 0, none⟩).run Try.prog W = .ok (.agg #[x, y]) W := run_loadVar_row W B 53 53 #[x, y] (0, 0) _ hB Try.underlying53 rfl (by kernel_rfl)
 have hp' : tmps[p]?.getD undef = .pointer (some ⟨B, 0, none⟩) := by simpa using hp
 simp [results, h, hp', asAddr, hl, Result.andThen]

set_option maxRecDepth 100000 in
set_option maxHeartbeats 8000000 in
theorem measure15_any (fold : Bool) (a : Option Addr) (la ca : Nat) (wss : List (List Int)) (w : World) (hA : Wds w a la wss) (hla : la ≤ 1000000) :
    Calls Try.prog 24 #[.agg (setV fold a la ca)] w fun e w' => ∃ a1 c1, e = .returned (.agg #[.slice a1 la c1, .int .i64 (longL wss)]) ∧ Sl1 (Value.int .i64) w' a1 la (lnL wss) ∧ Below w.heap.size w w' := by
  obtain ⟨i0, hi, hz0, hz1, hz2⟩ := info_parts i64_infoG
  obtain ⟨W, hW⟩ : ∃ W, W = (w.alloc (.cells (setV fold a la ca) 24)).alloc (.cells #[.slice none 0 0, .int .i64 0] 53) := ⟨_, rfl⟩
  have hB : Below w.heap.size w W := by rw [hW]; exact (below_alloc _ _).alloc (by simp) _
  have hO : Bx w.heap.size [.cells (setV fold a la ca) 24, .cells #[.slice none 0 0, .int .i64 0] 53] W := by rw [hW]; exact ((Bx.nil _ w).snoc _ rfl).snoc _ (by simp)
  have hs : W.heap.size = w.heap.size + 1 + 1 := by rw [hW]; simp
  have s0 : W.cell? ⟨w.heap.size, 0, none⟩ = some (.bool fold) := hO.cell (i := 0) rfl rfl
  have s1 : W.cell? ⟨w.heap.size, 1, none⟩ = some (.slice a la ca) := hO.cell (i := 0) rfl rfl
  have HL := Lib.hid (plongest_any fold a la ca wss W (hA.below hB) hla)
  have hlb : longL wss = longL wss := rfl
  have HLEN := Lib.hid hA.len
  have HA := Lib.hid (hA.below hB)
  have HO := Lib.hid hO
  have HB := Lib.hid hB
  clear hA hO hB hlb
  go_enter Try.func24, Try.ntmps24
  go_upto_region 1 with fail
  rw [← hW]
  clear hW
  go_upto_region 2 with (go_at_call 37; refine HL.out.mono ?_; rintro e w1 ⟨rfl, hb1⟩)
  obtain ⟨LW, hLW⟩ : ∃ L, longL wss = L := ⟨_, rfl⟩
  rw [hLW]
  obtain ⟨W2, hW2⟩ : ∃ X, X = w1.alloc (.cells #[.slice none 0 0, .int .i64 LW] 53) := ⟨_, rfl⟩
  have hb2 : Below W.heap.size W W2 := by rw [hW2]; exact hb1.alloc hb1.size _
  have hN2 : W2.heap[w1.heap.size]? = some (.cells #[.slice none 0 0, .int .i64 LW] 53 (0, 0)) := by rw [hW2]; exact World.alloc_heap_new _ _
  rw [← hW2]
  obtain ⟨NB, hNB⟩ : ∃ n, w1.heap.size = n := ⟨_, rfl⟩
  have hWN : W.heap.size ≤ NB := by rw [← hNB]; exact hb1.size
  rw [hNB] at hN2 ⊢
  have HLW := Lib.hid hLW
  have KO : Hid (∀ V, Below NB W2 V → V.cell? ⟨w.heap.size, 1, none⟩ = some (.slice a la ca) ∧ Wds V a la wss ∧ V.heap[w.heap.size + 1]? = some (.cells #[.slice none 0 0, .int .i64 0] 53 (0, 0)) ∧ Below w.heap.size w V) := fun V hV => by
    have h1 : Below W.heap.size W V := hb2.trans (hV.mono hWN)
    have h := HO.out.below h1
    exact ⟨h.cell (i := 0) rfl rfl, HA.out.below h1, h 1 _ rfl, HB.out.trans (h1.mono HB.out.size)⟩
  have HN2 := Lib.hid hN2
  clear hW2 hb1 hb2 hNB hN2 hLW s0 s1 HO HA HB HL
  have s1 := (KO.out W2 (Below.refl _ _)).1
  go_upto_region 3 with fail
  clear s1
  go_loopw [12] (fun s12 wr => ∃ (k : Nat) (v : Value), k ≤ la ∧ s12 = .int .i64 (k : Int) ∧ Hid (wr.heap[NB]? = some (.cells #[v, .int .i64 LW] 53 (0, 0))) ∧ Hid (wr.ownsRow (NB + 1) 3 1 v k ((lnL (wss.take k)).map (Value.int .i64))) ∧ Hid (Below NB W2 wr)) (fun s _ => la - (intOf s).toNat)
  case atStart => exact ⟨0, _, Nat.zero_le _, rfl, HN2.out, World.ownsRow_nil _ _ _ _, Below.refl _ _⟩
  case round =>
    clear HN2
    obtain ⟨k, v, hk, rfl, HN2, HOW, HBE⟩ := hrel
    obtain ⟨s1, hA, hz, _⟩ := KO.out wr HBE.out
    by_cases hlt : k < la
    · have d0 : decide ((k : Int) < (la : Int)) = true := by simp; omega
      have d0' : decide (k < la) = true := by simp; omega
      obtain ⟨bb, off, a', l, c, x, rfl, hbl, hcell, hx, hX, hlc⟩ := hA.at_ hlt
      have hS : lnL (wss.take (k + 1)) = lnL (wss.take k) ++ [(l : Int)] := by
        unfold lnL
        rw [take_step hx, List.map_append, ← hX.len]
        rfl
      have HS := Lib.hid hS
      have hNl : NB < wr.heap.size := (Array.getElem?_eq_some_iff.1 HN2.out).1
      have how := HOW.out
      obtain ⟨av, cv, rfl, _, _⟩ := SlK.own how
      have n0 : wr.cell? ⟨NB, 0, none⟩ = some (.slice av k cv) := by simp [World.cell?, HN2.out]
      have i1 : (0 : Int) ≤ (k : Int) := by omega
      have i2 : (k : Int) < (la : Int) := by omega
      have hownA := own_below_ how (below_alloc wr (.cells #[.int .i64 (l : Int)] 3))
      have hszA : NB + 1 ≤ (wr.alloc (.cells #[.int .i64 (l : Int)] 3)).heap.size := by simp; omega
      have hslA := slk_newG wr (l : Int)
      have HLT := Lib.hid hlt
      clear hx hX hS how hA hz hlt
      go_wp2_with (at_builtin; refine wpList_append_slK rfl _ _ 37 rfl (NB + 1) 3 i0 (.int .i64 0) 1 8 Try.underlying37 hi hz0 hz1 hz2 rfl (by decide) (.slice av k cv) k ((lnL (wss.take k)).map (Value.int .i64)) rfl hownA (some ⟨wr.heap.size, 0, none⟩) 1 1 [.int .i64 (l : Int)] rfl hslA (by simp [Value.oneCell']) (by unfold maxLen; omega) (by omega) hszA ?_; intro v1 W1 ho1 hg1 hat1; have hsz1 := hg1.size; have e0 : W1.heap[NB]? = some (.cells #[.slice av k cv, .int .i64 LW] 53 (0, 0)) := (hg1.block NB (by simp; omega) (fun e => by have := (row_ltG HOW.out NB e.symm).1; omega)).trans ((Below.heap_alloc _ _ _ hNl).trans HN2.out); have e1 : W1.cell? ⟨NB, 0, none⟩ = some (.slice av k cv) := by simp [World.cell?, e0]
                   have e2 : W1.frozen? ⟨NB, 0, none⟩ = false := by simp [World.frozen?, e0]
                   have e3 : NB < W1.heap.size := (Array.getElem?_eq_some_iff.1 e0).1
                   obtain ⟨a1, c1, rfl, _, _⟩ := SlK.own ho1
                   have HF1 : Hid ((W1.setCell ⟨NB, 0, none⟩ (.slice a1 (k + 1) c1)).heap[NB]? = some (.cells #[.slice a1 (k + 1) c1, .int .i64 LW] 53 (0, 0))) := set_at (i := 0) e0 (.slice a1 (k + 1) c1)
                   have HF2 : Hid ((W1.setCell ⟨NB, 0, none⟩ (.slice a1 (k + 1) c1)).ownsRow (NB + 1) 3 1 (.slice a1 (k + 1) c1) (k + 1) ((lnL (wss.take (k + 1))).map (Value.int .i64))) := by
                     rw [HS.out, List.map_append]
                     exact World.ownsRow.kept ho1 (grown_set2 W1 NB 0 (.slice a1 (k + 1) c1)) (.inr fun e => by have := (row_ltG ho1 NB e).1; omega)
                   have HF3 : Hid (Below NB W2 (W1.setCell ⟨NB, 0, none⟩ (.slice a1 (k + 1) c1))) := HBE.out.trans ((((below_alloc wr _).mono (Nat.le_of_lt hNl)).grown hg1 (by simp; omega) (fun j e => by have := (row_ltG HOW.out j e).1; omega)).setCell (Nat.le_refl _) _)
                   clear ho1 hg1 hat1 hownA hslA hszA)
      go_roundw
      case rel => exact ⟨k + 1, _, HLT.out, by go_num, HF1, HF2, HF3⟩
      case measure =>
        have := HLT.out
        simp [intOf]
        omega
    · obtain rfl : k = la := by omega
      have d0 : decide ((k : Int) < (k : Int)) = false := by simp
      have HF : Hid (wss.take k = wss) := List.take_of_length_le (by rw [HLEN.out]; exact Nat.le_refl _)
      have how := HOW.out
      rw [HF.out] at how
      obtain ⟨av, cv, rfl, _, _⟩ := SlK.own how
      have hn2 := HN2.out
      have n0 : wr.cell? ⟨NB, 0, none⟩ = some (.slice av k cv) := by simp [World.cell?, hn2]
      have n1 : wr.cell? ⟨NB, 1, none⟩ = some (.int .i64 LW) := by simp [World.cell?, hn2]
      have z0 : wr.cell? ⟨w.heap.size + 1, 0, none⟩ = some (.slice none 0 0) := by simp [World.cell?, hz]
      have z1 : wr.cell? ⟨w.heap.size + 1, 1, none⟩ = some (.int .i64 0) := by simp [World.cell?, hz]
      have y0 : wr.frozen? ⟨w.heap.size + 1, 0, none⟩ = false := by simp [World.frozen?, hz]
      have y1 : wr.frozen? ⟨w.heap.size + 1, 1, none⟩ = false := by simp [World.frozen?, hz]
      have yl : w.heap.size + 1 < wr.heap.size := (Array.getElem?_eq_some_iff.1 hz).1
      have hz3 := set_at (i := 1) (set_at (i := 0) hz (.slice av k cv)) (.int .i64 LW)
      have hNw : w.heap.size + 1 < NB + 1 := by omega
      have hfin := World.ownsRow.kept (World.ownsRow.kept how (grown_set2 wr (w.heap.size + 1) 0 (.slice av k cv)) (.inr fun e => by have := (row_ltG how _ e).1; omega)) (grown_set2 (wr.setCell ⟨w.heap.size + 1, 0, none⟩ (.slice av k cv)) (w.heap.size + 1) 1 (.int .i64 LW)) (.inr fun e => by have := (row_ltG how _ e).1; omega)
      have HFI := Lib.hid hfin
      have HZ3 := Lib.hid hz3
      have HBF : Hid (Below w.heap.size w ((wr.setCell ⟨w.heap.size + 1, 0, none⟩ (.slice av k cv)).setCell ⟨w.heap.size + 1, 1, none⟩ (.int .i64 LW))) := ((KO.out wr HBE.out).2.2.2.setCell (Nat.le_succ _) _).setCell (Nat.le_succ _) _
      clear hfin hz3 hz hn2 how hlt hA s1
      go_wp2
      refine bodyPost_ret (results_lens rfl rfl (by simpa using HZ3.out)) rfl ?_
      obtain ⟨a1, c1, e1, _, hsl⟩ := own_sl1 HFI.out
      cases e1
      exact ⟨_, _, by rw [HLW.out], hsl, HBF.out⟩

theorem ownsRow_lowerG {w : World} {base base' n size : Nat} {e : TypeId} {v : Value} {xs : List Value} (h : w.ownsRow base e size v n xs) (hb : base' ≤ base) : w.ownsRow base' e size v n xs :=
 ⟨h.1, h.2.imp id fun ⟨g, cap, cur, h1, h2, r⟩ => ⟨g, cap, cur, h1, by omega, r⟩⟩

set_option maxRecDepth 100000 in
set_option maxHeartbeats 8000000 in
theorem pick15_yes (fold : Bool) (a b : Option Addr) (la ca n c : Nat) (wss : List (List Int)) (l : List HitP) (w : World) (hA : Wds w a la wss) (hla : la ≤ 1000000) (hM : ∀ x ∈ wss, x.length ≤ 1000000) (hT : (begL fold wss).length ≤ 1000000) (hr : rightP fold wss = true) (hH : Hts w b n l) (hn : n ≤ 1000000) (hm : ∀ x ∈ l, mayG wss x = true) :
  Calls Try.prog 9 #[.agg (setV fold a la ca), .slice b n c] w fun e w' => ∃ v, e = .returned (.tuple #[v, .int .i64 0]) ∧ OwnH w' w.heap.size v (chG wss 0 (srtG wss l)) ∧ Below w.heap.size w w' := by
 obtain ⟨W, hW⟩ : ∃ W, W = w.alloc (.cells (setV fold a la ca) 24) := ⟨_, rfl⟩
 have hB : Below w.heap.size w W := by rw [hW]; exact below_alloc _ _
 have hO : Bx w.heap.size [.cells (setV fold a la ca) 24] W := by rw [hW]; exact (Bx.nil _ w).snoc _ rfl
 have s0 : W.cell? ⟨w.heap.size, 0, none⟩ = some (.bool fold) := hO.cell (i := 0) rfl rfl
 have s1 : W.cell? ⟨w.heap.size, 1, none⟩ = some (.slice a la ca) := hO.cell (i := 0) rfl rfl
 have hp := pright_any fold a la ca wss W (hA.below hB) hla hM hT
 rw [hr] at hp
 have HP := Lib.hid hp
 have HA := Lib.hid (hA.below hB)
 have HO := Lib.hid hO
 have HH := Lib.hid (hH.below hB)
 have HB := Lib.hid hB
 have HLEN := Lib.hid hH.len
 have HM := Lib.hid hm
 clear hp hr hO hA hH hB hM hT hm
 go_enter Try.func9, Try.ntmps9
 go_upto_region 1 with fail
 rw [← hW]
 clear hW
 go_upto_region 3 with (go_at_call 23; refine HP.out.mono ?_; rintro e w1 ⟨rfl, hb1⟩)
 have HMS := Lib.hid (measure15_any fold a la ca wss w1 (HA.out.below hb1) hla)
 have HB1 := Lib.hid hb1
 clear s0 s1 hb1
 have hO1 := HO.out.below HB1.out
 have s0 : w1.cell? ⟨w.heap.size, 0, none⟩ = some (.bool fold) := hO1.cell (i := 0) rfl rfl
 have s1 : w1.cell? ⟨w.heap.size, 1, none⟩ = some (.slice a la ca) := hO1.cell (i := 0) rfl rfl
 clear hO1
 go_upto_region 4 with (go_at_call 24; refine HMS.out.mono ?_; rintro e w2 ⟨a1, c1, rfl, hsl, hb2⟩)
 obtain ⟨W3, hW3⟩ : ∃ X, X = w2.alloc (.cells #[.slice a1 la c1, .int .i64 (longL wss)] 53) := ⟨_, rfl⟩
 have hb3 : Below w2.heap.size w2 W3 := by rw [hW3]; exact below_alloc _ _
 have hx3 : W3.heap[w2.heap.size]? = some (.cells #[.slice a1 la c1, .int .i64 (longL wss)] 53 (0, 0)) := by rw [hW3]; exact World.alloc_heap_new _ _
 rw [← hW3]
 obtain ⟨NB, hNB⟩ : ∃ n, w2.heap.size = n := ⟨_, rfl⟩
 have hLn : Ln W3 NB a1 la c1 wss := by rw [hNB] at hx3; exact ⟨by simp [World.cell?, hx3], hsl.below hb3, (Array.getElem?_eq_some_iff.1 hx3).1⟩
 rw [hNB] at hx3 ⊢
 have hbW3 : Below W.heap.size W W3 := (HB1.out.trans (hb2.mono HB1.out.size)).trans (hb3.mono (Nat.le_trans HB1.out.size hb2.size))
 have KO : Hid (∀ V, Below W3.heap.size W3 V → Ln V NB a1 la c1 wss ∧ Hts V b n l ∧ Below w.heap.size w V) := fun V hV => ⟨hLn.below hV, HH.out.below (hbW3.trans (hV.mono hbW3.size)), HB.out.trans ((hbW3.trans (hV.mono hbW3.size)).mono HB.out.size)⟩
 have HSW : Hid (w.heap.size ≤ W3.heap.size) := Nat.le_trans HB.out.size hbW3.size
 clear hW3 hb2 hb3 hx3 hNB hLn hbW3 hsl s0 s1 HO HA HH HP HMS HB1 HB
 go_upto_region 5 with fail
 go_loopw [16] (fun s16 wr => ∃ k : Nat, k ≤ n ∧ s16 = .int .i64 (k : Int) ∧ Hid (∀ x ∈ l.take k, mayG wss x = true) ∧ Hid (Below W3.heap.size W3 wr)) (fun s _ => n - (intOf s).toNat)
 case atStart => exact ⟨0, Nat.zero_le _, rfl, by simp [Hid], Below.refl _ _⟩
 case round =>
  obtain ⟨k, hk, rfl, HMA, HBE⟩ := hrel
  obtain ⟨hN, hH, hBw⟩ := KO.out wr HBE.out
  by_cases hlt : k < n
  ·
   have d0 : decide ((k : Int) < (n : Int)) = true := by simp; omega
   have d0' : decide (k < n) = true := by simp; omega
   obtain ⟨b0, o0, x, rfl, hl0, x0, x1, hx, _, _⟩ := hH.at_ hlt
   have i1 : (0 : Int) ≤ (k : Int) := by omega
   have i2 : (k : Int) < (n : Int) := by omega
   obtain ⟨W4, hW4⟩ : ∃ X, X = wr.alloc (.cells #[.int .i64 x.1, .int .i64 x.2] 30) := ⟨_, rfl⟩
   have hb4 : Below wr.heap.size wr W4 := by rw [hW4]; exact below_alloc _ _
   have hx4 : W4.heap[wr.heap.size]? = some (.cells #[.int .i64 x.1, .int .i64 x.2] 30 (0, 0)) := by rw [hW4]; exact World.alloc_heap_new _ _
   have y0 : W4.cell? ⟨wr.heap.size, 0, none⟩ = some (.int .i64 x.1) := by simp [World.cell?, hx4]
   have y1 : W4.cell? ⟨wr.heap.size, 1, none⟩ = some (.int .i64 x.2) := by simp [World.cell?, hx4]
   have HMY := Lib.hid (may15_any NB la c1 a1 wss x W4 (hN.below hb4))
   have HB4 := Lib.hid (HBE.out.trans (hb4.mono HBE.out.size))
   have HLT := Lib.hid hlt
   have HX := Lib.hid hx
   have HW4 := Lib.hid hW4
   obtain ⟨R, hR⟩ : ∃ R, mayG wss x = R := ⟨_, rfl⟩
   rw [hR] at HMY
   have HR := Lib.hid hR
   clear hx4 hb4 hW4 hN hH hBw hx hlt hR
   go_upto_region 7 with fail
   rw [← HW4.out]
   cases R with
   | true =>
    have HMA2 : Hid (∀ y ∈ l.take (k + 1), mayG wss y = true) := fun y hy => by
     rw [take_step HX.out, List.mem_append, List.mem_singleton] at hy
     rcases hy with hy | rfl
     · exact HMA.out y hy
     · exact HR.out
    go_wp2_with (go_at_call 25; refine HMY.out.mono ?_; rintro e w5 ⟨rfl, hb5⟩; have HB5 := Lib.hid (HB4.out.trans (hb5.mono HB4.out.size)); clear hb5)
    go_roundw
    case rel => exact ⟨k + 1, HLT.out, by go_num, HMA2, HB5⟩
    case measure =>
     have := HLT.out
     simp [intOf]
     omega
   | false =>
    have := HM.out x (List.mem_of_getElem? HX.out)
    rw [HR.out] at this
    cases this
  ·
   obtain rfl : k = n := by omega
   have d0 : decide ((k : Int) < (k : Int)) = false := by simp
   have HALL : Hid (∀ x ∈ l, mayG wss x = true) := fun x hx => HMA.out x (by rw [List.take_of_length_le (by rw [HLEN.out]; exact Nat.le_refl _)]; exact hx)
   have HCH := Lib.hid (chosen15_any NB 0 b k c wr)
   have HCC := Lib.hid (fun W hW => collectChosen_any NB k c la c1 a1 b 0 wss l wr W hW hH hn hN HALL.out)
   have HBWR := Lib.hid hBw
   have HWS : Hid (w.heap.size ≤ wr.heap.size) := Nat.le_trans HSW.out HBE.out.size
   clear hN hH hBw hlt
   go_wp2_with fail
   refine HCH.out.mono ?_
   rintro e w5 ⟨rfl, hw5⟩
   have HCC5 := Lib.hid (HCC.out w5 hw5)
   have HS5 : Hid (w.heap.size ≤ w5.heap.size) := by rw [Hid, hw5]; have := HWS.out; simp; omega
   clear hw5
   go_wp2_with fail
   refine HCC5.out.mono ?_
   rintro e w6 ⟨v, rfl, ho, hb6⟩
   have HOO := Lib.hid ho
   have HB6 := Lib.hid (HBWR.out.trans (hb6.mono HBWR.out.size))
   clear ho hb6
   go_wp2
   go_ret2
   exact ⟨v, rfl, ownsRow_lowerG HOO.out HS5.out, HB6.out⟩

set_option maxRecDepth 100000 in
set_option maxHeartbeats 8000000 in
theorem pick15_bad (fold : Bool) (a b : Option Addr) (la ca n c : Nat) (wss : List (List Int)) (l : List HitP) (w : World) (hA : Wds w a la wss) (hla : la ≤ 1000000) (hM : ∀ x ∈ wss, x.length ≤ 1000000) (hT : (begL fold wss).length ≤ 1000000) (hr : rightP fold wss = true) (hH : Hts w b n l) (hn : n ≤ 1000000) (hm : ∃ x ∈ l, mayG wss x = false) :
  Calls Try.prog 9 #[.agg (setV fold a la ca), .slice b n c] w fun e w' => e = .returned (.tuple #[.slice none 0 0, .int .i64 2]) ∧ Below w.heap.size w w' := by
 obtain ⟨W, hW⟩ : ∃ W, W = w.alloc (.cells (setV fold a la ca) 24) := ⟨_, rfl⟩
 have hB : Below w.heap.size w W := by rw [hW]; exact below_alloc _ _
 have hO : Bx w.heap.size [.cells (setV fold a la ca) 24] W := by rw [hW]; exact (Bx.nil _ w).snoc _ rfl
 have s0 : W.cell? ⟨w.heap.size, 0, none⟩ = some (.bool fold) := hO.cell (i := 0) rfl rfl
 have s1 : W.cell? ⟨w.heap.size, 1, none⟩ = some (.slice a la ca) := hO.cell (i := 0) rfl rfl
 have hp := pright_any fold a la ca wss W (hA.below hB) hla hM hT
 rw [hr] at hp
 have HP := Lib.hid hp
 have HA := Lib.hid (hA.below hB)
 have HO := Lib.hid hO
 have HH := Lib.hid (hH.below hB)
 have HB := Lib.hid hB
 have HLEN := Lib.hid hH.len
 have HM := Lib.hid hm
 clear hp hr hO hA hH hB hM hT hm
 go_enter Try.func9, Try.ntmps9
 go_upto_region 1 with fail
 rw [← hW]
 clear hW
 go_upto_region 3 with (go_at_call 23; refine HP.out.mono ?_; rintro e w1 ⟨rfl, hb1⟩)
 have HMS := Lib.hid (measure15_any fold a la ca wss w1 (HA.out.below hb1) hla)
 have HB1 := Lib.hid hb1
 clear s0 s1 hb1
 have hO1 := HO.out.below HB1.out
 have s0 : w1.cell? ⟨w.heap.size, 0, none⟩ = some (.bool fold) := hO1.cell (i := 0) rfl rfl
 have s1 : w1.cell? ⟨w.heap.size, 1, none⟩ = some (.slice a la ca) := hO1.cell (i := 0) rfl rfl
 clear hO1
 go_upto_region 4 with (go_at_call 24; refine HMS.out.mono ?_; rintro e w2 ⟨a1, c1, rfl, hsl, hb2⟩)
 obtain ⟨W3, hW3⟩ : ∃ X, X = w2.alloc (.cells #[.slice a1 la c1, .int .i64 (longL wss)] 53) := ⟨_, rfl⟩
 have hb3 : Below w2.heap.size w2 W3 := by rw [hW3]; exact below_alloc _ _
 have hx3 : W3.heap[w2.heap.size]? = some (.cells #[.slice a1 la c1, .int .i64 (longL wss)] 53 (0, 0)) := by rw [hW3]; exact World.alloc_heap_new _ _
 rw [← hW3]
 obtain ⟨NB, hNB⟩ : ∃ n, w2.heap.size = n := ⟨_, rfl⟩
 have hLn : Ln W3 NB a1 la c1 wss := by rw [hNB] at hx3; exact ⟨by simp [World.cell?, hx3], hsl.below hb3, (Array.getElem?_eq_some_iff.1 hx3).1⟩
 rw [hNB] at hx3 ⊢
 have hbW3 : Below W.heap.size W W3 := (HB1.out.trans (hb2.mono HB1.out.size)).trans (hb3.mono (Nat.le_trans HB1.out.size hb2.size))
 have KO : Hid (∀ V, Below W3.heap.size W3 V → Ln V NB a1 la c1 wss ∧ Hts V b n l ∧ Below w.heap.size w V) := fun V hV => ⟨hLn.below hV, HH.out.below (hbW3.trans (hV.mono hbW3.size)), HB.out.trans ((hbW3.trans (hV.mono hbW3.size)).mono HB.out.size)⟩
 have HSW : Hid (w.heap.size ≤ W3.heap.size) := Nat.le_trans HB.out.size hbW3.size
 clear hW3 hb2 hb3 hx3 hNB hLn hbW3 hsl s0 s1 HO HA HH HP HMS HB1 HB
 go_upto_region 5 with fail
 go_loopw [16] (fun s16 wr => ∃ k : Nat, k ≤ n ∧ s16 = .int .i64 (k : Int) ∧ Hid (∀ x ∈ l.take k, mayG wss x = true) ∧ Hid (Below W3.heap.size W3 wr)) (fun s _ => n - (intOf s).toNat)
 case atStart => exact ⟨0, Nat.zero_le _, rfl, by simp [Hid], Below.refl _ _⟩
 case round =>
  obtain ⟨k, hk, rfl, HMA, HBE⟩ := hrel
  obtain ⟨hN, hH, hBw⟩ := KO.out wr HBE.out
  by_cases hlt : k < n
  ·
   have d0 : decide ((k : Int) < (n : Int)) = true := by simp; omega
   have d0' : decide (k < n) = true := by simp; omega
   obtain ⟨b0, o0, x, rfl, hl0, x0, x1, hx, _, _⟩ := hH.at_ hlt
   have i1 : (0 : Int) ≤ (k : Int) := by omega
   have i2 : (k : Int) < (n : Int) := by omega
   obtain ⟨W4, hW4⟩ : ∃ X, X = wr.alloc (.cells #[.int .i64 x.1, .int .i64 x.2] 30) := ⟨_, rfl⟩
   have hb4 : Below wr.heap.size wr W4 := by rw [hW4]; exact below_alloc _ _
   have hx4 : W4.heap[wr.heap.size]? = some (.cells #[.int .i64 x.1, .int .i64 x.2] 30 (0, 0)) := by rw [hW4]; exact World.alloc_heap_new _ _
   have y0 : W4.cell? ⟨wr.heap.size, 0, none⟩ = some (.int .i64 x.1) := by simp [World.cell?, hx4]
   have y1 : W4.cell? ⟨wr.heap.size, 1, none⟩ = some (.int .i64 x.2) := by simp [World.cell?, hx4]
   have HMY := Lib.hid (may15_any NB la c1 a1 wss x W4 (hN.below hb4))
   have HB4 := Lib.hid (HBE.out.trans (hb4.mono HBE.out.size))
   have HLT := Lib.hid hlt
   have HX := Lib.hid hx
   have HW4 := Lib.hid hW4
   obtain ⟨R, hR⟩ : ∃ R, mayG wss x = R := ⟨_, rfl⟩
   rw [hR] at HMY
   have HR := Lib.hid hR
   clear hx4 hb4 hW4 hN hH hBw hx hlt hR
   go_upto_region 7 with fail
   rw [← HW4.out]
   cases R with
   | true =>
    have HMA2 : Hid (∀ y ∈ l.take (k + 1), mayG wss y = true) := fun y hy => by
     rw [take_step HX.out, List.mem_append, List.mem_singleton] at hy
     rcases hy with hy | rfl
     · exact HMA.out y hy
     · exact HR.out
    go_wp2_with (go_at_call 25; refine HMY.out.mono ?_; rintro e w5 ⟨rfl, hb5⟩; have HB5 := Lib.hid (HB4.out.trans (hb5.mono HB4.out.size)); clear hb5)
    go_roundw
    case rel => exact ⟨k + 1, HLT.out, by go_num, HMA2, HB5⟩
    case measure =>
     have := HLT.out
     simp [intOf]
     omega
   | false =>
    go_wp2_with (go_at_call 25; refine HMY.out.mono ?_; rintro e w5 ⟨rfl, hb5⟩; have HB5 := Lib.hid (HB4.out.trans (hb5.mono HB4.out.size)); clear hb5)
    go_ret2
    exact ⟨rfl, (KO.out w5 HB5.out).2.2⟩
  ·
   obtain rfl : k = n := by omega
   have d0 : decide ((k : Int) < (k : Int)) = false := by simp
   have HALL : Hid (∀ x ∈ l, mayG wss x = true) := fun x hx => HMA.out x (by rw [List.take_of_length_le (by rw [HLEN.out]; exact Nat.le_refl _)]; exact hx)
   obtain ⟨x, hx1, hx2⟩ := HM.out
   have := HALL.out x hx1
   rw [hx2] at this
   cases this
end Go.Proofs.Ytglfdclpjmhoiaa

/- Greedy (layer 15): a chooser is made; how many hits it holds; the place of a hit that a function with a state answers; walked. -/

namespace Go.Proofs.Ytglfdclpjmhoiaa
open Go.RowKit Go.Sort

/-- A chooser's six cells. -/
def chC (a : Option Addr) (n c : Nat) (L pt e : Int) (held : Value) (cl : Bool) : Array Value := #[.slice a n c, .int .i64 L, .int .i64 pt, .int .i64 e, held, .bool cl]
def ChB (W : World) (C : Nat) (a : Option Addr) (n c : Nat) (L pt e : Int) (held : Value) (cl : Bool) : Prop := W.heap[C]? = some (.cells (chC a n c L pt e held cl) 61 (0, 0))

set_option maxRecDepth 100000 in
set_option maxHeartbeats 8000000 in
theorem index60_any {gf : Nat} {lb : Array Value} (a : Option Addr) (n c : Nat) (l : List HitP) (R : Nat → Bool) (I J : Nat → World → Prop) (w : World)
  (eg : ∀ args w, (callFunc gf args).run Try.prog w = .ok (.enter gf args) w) (hHt : ∀ k W, I k W → Hts W a n l) (hn : n ≤ 1000000)
  (hc : ∀ k x W, l[k]? = some x → I k W → Calls Try.prog gf (#[.agg #[.int .i64 x.1, .int .i64 x.2]] ++ lb) W fun e W' => e = .returned (.bool (R k)) ∧ (R k = false → I (k + 1) W') ∧ (R k = true → J k W')) (h0 : I 0 w) :
  Calls Try.prog 60 #[.slice a n c, .func (.func gf) #[] lb] w fun e w' => (∃ k, k < n ∧ e = .returned (.int .i64 (k : Int)) ∧ J k w' ∧ (∀ j, j < k → R j = false) ∧ R k = true) ∨ (e = .returned (.int .i64 (-1)) ∧ I n w' ∧ ∀ j, j < n → R j = false) := by
 go_enter Try.func60, Try.ntmps60
 go_upto_region 2 with fail
 go_loopw [8] (fun s8 wr => ∃ k : Nat, k ≤ n ∧ s8 = .int .i64 (k : Int) ∧ Hid (I k wr) ∧ Hid (∀ j, j < k → R j = false)) (fun s _ => n - (intOf s).toNat)
 case atStart => exact ⟨0, Nat.zero_le _, rfl, h0, fun j hj => absurd hj (Nat.not_lt_zero _)⟩
 case round =>
  clear h0
  obtain ⟨k, hk, rfl, HI, HA⟩ := hrel
  have hH := hHt k wr HI.out
  by_cases hlt : k < n
  ·
   have d0 : decide ((k : Int) < (n : Int)) = true := by simp; omega
   have d0' : decide (k < n) = true := by simp; omega
   obtain ⟨b0, o0, x, rfl, hl0, x0, x1, hx, _, _⟩ := hH.at_ hlt
   have i1 : (0 : Int) ≤ (k : Int) := by omega
   have i2 : (k : Int) < (n : Int) := by omega
   have HC := Lib.hid (hc k x wr hx HI.out)
   obtain ⟨q, hq⟩ : ∃ q, R k = q := ⟨_, rfl⟩
   rw [hq] at HC
   have HQ := Lib.hid hq
   have HLT := Lib.hid hlt
   clear hx hq hH hlt
   cases q with
   | true =>
    go_wp2_with (go_at_fn gf; refine HC.out.mono ?_; rintro e w5 ⟨rfl, _, hj⟩; have HJ := Lib.hid (hj rfl); clear hj)
    go_ret
    exact .inl ⟨k, HLT.out, rfl, HJ.out, HA.out, HQ.out⟩
   | false =>
    go_wp2_with (go_at_fn gf; refine HC.out.mono ?_; rintro e w5 ⟨rfl, hj, _⟩; have HJ := Lib.hid (hj rfl); clear hj)
    go_roundw
    case rel =>
     refine ⟨k + 1, HLT.out, by go_num, HJ, fun j hj => ?_⟩
     by_cases e : j = k
     · rw [e]; exact HQ.out
     · exact HA.out j (by omega)
    case measure =>
     have := HLT.out
     simp [intOf]
     omega
  ·
   obtain rfl : k = n := by omega
   have d0 : decide ((k : Int) < (k : Int)) = false := by simp
   clear hH hlt
   go_wp2
   go_ret
   exact .inr ⟨rfl, HI.out, HA.out⟩

set_option maxRecDepth 100000 in
theorem contains45_any {gf : Nat} {lb : Array Value} (a : Option Addr) (n c : Nat) (l : List HitP) (R : Nat → Bool) (I J : Nat → World → Prop) (w : World)
  (eg : ∀ args w, (callFunc gf args).run Try.prog w = .ok (.enter gf args) w) (hHt : ∀ k W, I k W → Hts W a n l) (hn : n ≤ 1000000)
  (hc : ∀ k x W, l[k]? = some x → I k W → Calls Try.prog gf (#[.agg #[.int .i64 x.1, .int .i64 x.2]] ++ lb) W fun e W' => e = .returned (.bool (R k)) ∧ (R k = false → I (k + 1) W') ∧ (R k = true → J k W')) (h0 : I 0 w) :
  Calls Try.prog 45 #[.slice a n c, .func (.func gf) #[] lb] w fun e w' => (∃ k, k < n ∧ e = .returned (.bool true) ∧ J k w' ∧ (∀ j, j < k → R j = false) ∧ R k = true) ∨ (e = .returned (.bool false) ∧ I n w' ∧ ∀ j, j < n → R j = false) := by
 have HC := Lib.hid (index60_any a n c l R I J w eg hHt hn hc h0)
 clear eg hHt hc h0
 go_enter Try.func45, Try.ntmps45
 go_wp2_with fail
 refine HC.out.mono ?_
 rintro e w5 (⟨k, hk, rfl, hj, h1, h2⟩ | ⟨rfl, hi, h1⟩)
 ·
  have HJ := Lib.hid (And.intro hk (And.intro hj (And.intro h1 h2)))
  have d0 : decide ((k : Int) ≥ 0) = true := by simp
  have d1 : decide ((0 : Int) ≤ (k : Int)) = true := by simp
  clear hk hj h1 h2
  go_wp2
  go_ret
  exact .inl ⟨k, HJ.out.1, by simp, HJ.out.2⟩
 ·
  have HJ := Lib.hid (And.intro hi h1)
  clear hi h1
  go_wp2
  go_ret
  exact .inr ⟨by simp, HJ.out⟩

set_option maxRecDepth 100000 in
theorem held17_nil (w : World) : Calls Try.prog 17 #[.pointer none] w fun e w' => e = .returned (.int .i64 0) ∧ w' = w := by
 go_enter Try.func17, Try.ntmps17
 go_wp2
 go_ret
 exact ⟨rfl, rfl⟩

set_option maxRecDepth 100000 in
theorem held17_any (C : Nat) (a b : Option Addr) (n c m d : Nat) (L pt e : Int) (cl : Bool) (w : World) (hC : ChB w C a n c L pt e (.slice b m d) cl) : Calls Try.prog 17 #[.pointer (some ⟨C, 0, none⟩)] w fun e w' => e = .returned (.int .i64 (m : Int)) ∧ w' = w := by
 have c4 : w.cell? ⟨C, 4, none⟩ = some (.slice b m d) := by simp [World.cell?, show w.heap[C]? = _ from hC, chC]
 clear hC
 go_enter Try.func17, Try.ntmps17
 go_wp2
 go_ret
 exact ⟨rfl, rfl⟩
end Go.Proofs.Ytglfdclpjmhoiaa

/- Greedy (layer 15): a chooser is made; what it drops; walked. -/

namespace Go.Proofs.Ytglfdclpjmhoiaa
open Go.RowKit Go.Sort

set_option maxRecDepth 100000 in
set_option maxHeartbeats 8000000 in
theorem new12_no (fold : Bool) (a : Option Addr) (la ca : Nat) (wss : List (List Int)) (w : World) (hA : Wds w a la wss) (hla : la ≤ 1000000) (hM : ∀ x ∈ wss, x.length ≤ 1000000) (hT : (begL fold wss).length ≤ 1000000) (hr : rightP fold wss = false) :
  Calls Try.prog 12 #[.agg (setV fold a la ca)] w fun e w' => e = .returned (.tuple #[.pointer none, .int .i64 2]) ∧ Below w.heap.size w w' := by
 obtain ⟨W, hW⟩ : ∃ W, W = w.alloc (.cells (setV fold a la ca) 24) := ⟨_, rfl⟩
 have hB : Below w.heap.size w W := by rw [hW]; exact below_alloc _ _
 have hO : Bx w.heap.size [.cells (setV fold a la ca) 24] W := by rw [hW]; exact (Bx.nil _ w).snoc _ rfl
 have s0 : W.cell? ⟨w.heap.size, 0, none⟩ = some (.bool fold) := hO.cell (i := 0) rfl rfl
 have s1 : W.cell? ⟨w.heap.size, 1, none⟩ = some (.slice a la ca) := hO.cell (i := 0) rfl rfl
 have hp := pright_any fold a la ca wss W (hA.below hB) hla hM hT
 rw [hr] at hp
 have HP := Lib.hid hp
 clear hp hr hO hA
 go_enter Try.func12, Try.ntmps12
 go_upto_region 1 with fail
 rw [← hW]
 clear hW
 go_wp2_with (go_at_call 23; refine HP.out.mono ?_; rintro e w1 ⟨rfl, hb1⟩)
 go_ret2
 exact ⟨rfl, hB.trans (hb1.mono hB.size)⟩

set_option maxRecDepth 100000 in
set_option maxHeartbeats 8000000 in
theorem new12_yes (fold : Bool) (a : Option Addr) (la ca : Nat) (wss : List (List Int)) (w : World) (hA : Wds w a la wss) (hla : la ≤ 1000000) (hM : ∀ x ∈ wss, x.length ≤ 1000000) (hT : (begL fold wss).length ≤ 1000000) (hr : rightP fold wss = true) :
  Calls Try.prog 12 #[.agg (setV fold a la ca)] w fun e w' => ∃ C a1 c1, e = .returned (.tuple #[.pointer (some ⟨C, 0, none⟩), .int .i64 0]) ∧ ChB w' C a1 la c1 (longL wss) 0 0 (.slice none 0 0) false ∧ Sl1 (Value.int .i64) w' a1 la (lnL wss) ∧ (la ≠ 0 → ∀ q, a1 = some q → q.block ≠ C) ∧ w.heap.size ≤ C ∧ Below w.heap.size w w' := by
 obtain ⟨W, hW⟩ : ∃ W, W = w.alloc (.cells (setV fold a la ca) 24) := ⟨_, rfl⟩
 have hB : Below w.heap.size w W := by rw [hW]; exact below_alloc _ _
 have hO : Bx w.heap.size [.cells (setV fold a la ca) 24] W := by rw [hW]; exact (Bx.nil _ w).snoc _ rfl
 have s0 : W.cell? ⟨w.heap.size, 0, none⟩ = some (.bool fold) := hO.cell (i := 0) rfl rfl
 have s1 : W.cell? ⟨w.heap.size, 1, none⟩ = some (.slice a la ca) := hO.cell (i := 0) rfl rfl
 have hp := pright_any fold a la ca wss W (hA.below hB) hla hM hT
 rw [hr] at hp
 have HP := Lib.hid hp
 have HA := Lib.hid (hA.below hB)
 have HO := Lib.hid hO
 have HB := Lib.hid hB
 clear hp hr hO hA hB hM hT
 go_enter Try.func12, Try.ntmps12
 go_upto_region 1 with fail
 rw [← hW]
 clear hW
 go_upto_region 3 with (go_at_call 23; refine HP.out.mono ?_; rintro e w1 ⟨rfl, hb1⟩)
 have HMS := Lib.hid (measure15_any fold a la ca wss w1 (HA.out.below hb1) hla)
 have HB1 := Lib.hid hb1
 clear s0 s1 hb1
 have hO1 := HO.out.below HB1.out
 have s0 : w1.cell? ⟨w.heap.size, 0, none⟩ = some (.bool fold) := hO1.cell (i := 0) rfl rfl
 have s1 : w1.cell? ⟨w.heap.size, 1, none⟩ = some (.slice a la ca) := hO1.cell (i := 0) rfl rfl
 clear hO1
 go_wp2_with (go_at_call 24; refine HMS.out.mono ?_; rintro e w2 ⟨a1, c1, rfl, hsl, hb2⟩)
 go_ret2
 have hall := below_alloc w2 (.cells (chC a1 la c1 (longL wss) 0 0 (.slice none 0 0) false) 61)
 have h12 := HB.out.trans ((HB1.out.trans (hb2.mono HB1.out.size)).mono HB.out.size)
 refine ⟨w2.heap.size, a1, c1, rfl, World.alloc_heap_new _ _, hsl.below hall, fun h0 q hq => ?_, h12.size, h12.trans (hall.mono h12.size)⟩
 obtain ⟨b, off, e, hlt, _⟩ := hsl.2.resolve_left h0
 rw [hq] at e
 have e2 := Option.some.inj e
 subst e2
 exact Nat.ne_of_lt hlt

set_option maxRecDepth 100000 in
set_option maxHeartbeats 8000000 in
/-- Does a held hit begin ahead of the chooser's end? -/
theorem tell47_any (P C n c : Nat) (a : Option Addr) (L pt en : Int) (held : Value) (cl : Bool) (wss : List (List Int)) (x : HitP) (w : World) (hP : w.heap[P]? = some (.cells #[.pointer (some ⟨C, 0, none⟩)] 38 (0, 0))) (hC : ChB w C a n c L pt en held cl) (hR : Sl1 (Value.int .i64) w a n (lnL wss)) (hm : mayG wss x = true) :
  Calls Try.prog 47 #[.agg #[.int .i64 x.1, .int .i64 x.2], .pointer (some ⟨P, 0, none⟩)] w fun e w' => e = .returned (.bool (decide (bgG wss x < en))) ∧ Below w.heap.size w w' := by
 obtain ⟨W, hW⟩ : ∃ W, W = w.alloc (.cells #[.int .i64 x.1, .int .i64 x.2] 30) := ⟨_, rfl⟩
 have hB : Below w.heap.size w W := by rw [hW]; exact below_alloc _ _
 have hx : W.heap[w.heap.size]? = some (.cells #[.int .i64 x.1, .int .i64 x.2] 30 (0, 0)) := by rw [hW]; exact World.alloc_heap_new _ _
 have hPW : W.heap[P]? = _ := (hB.block P (Array.getElem?_eq_some_iff.1 hP).1).trans hP
 have hCl : C < w.heap.size := (Array.getElem?_eq_some_iff.1 (show w.heap[C]? = _ from hC)).1
 have hCW : W.heap[C]? = _ := (hB.block C hCl).trans hC
 have hLn : Ln W C a n c wss := ⟨by simp [World.cell?, hCW, chC], hR.below hB, Nat.lt_of_lt_of_le hCl hB.size⟩
 have k0 : ∀ d os, (grow (redrawn W d) os).cell? ⟨P, 0, none⟩ = some (.pointer (some ⟨C, 0, none⟩)) := cell_regrown (by simp [World.cell?, hPW])
 have k1 : ∀ d os, (grow (redrawn W d) os).cell? ⟨C, 3, none⟩ = some (.int .i64 en) := cell_regrown (by simp [World.cell?, hCW, chC])
 have k2 : ∀ d os, (grow (redrawn W d) os).cell? ⟨w.heap.size, 0, none⟩ = some (.int .i64 x.1) := cell_regrown (by simp [World.cell?, hx])
 have k3 : ∀ d os, (grow (redrawn W d) os).cell? ⟨w.heap.size, 1, none⟩ = some (.int .i64 x.2) := cell_regrown (by simp [World.cell?, hx])
 have hbg : ∀ d os, Calls Try.prog 43 #[.pointer (some ⟨C, 0, none⟩), .agg #[.int .i64 x.1, .int .i64 x.2]] (grow (redrawn W d) os) fun e w' => e = .returned (.int .i64 (bgG wss x)) ∧ RowKit.Below (grow (redrawn W d) os).heap.size (grow (redrawn W d) os) w' := fun d os => begin15_any C n c a wss x _ (hLn.below (below_regrown W d os)) hm
 have HB := Lib.hid hB
 obtain ⟨bg, hbge⟩ : ∃ b, bgG wss x = b := ⟨_, rfl⟩
 rw [hbge] at hbg ⊢
 clear hbge hB hx hPW hCl hCW hLn hP hC hR hm
 go_enter Try.func47, Try.ntmps47
 go_upto_region 1 with fail
 rw [← hW]
 clear hW
 refine wp_region_quiet_below mixed (by kernel_rfl) ?_
 iterate 4 (go_big_quiet_step (fail))
 go_big_quiet_step (exact grown_below (hbg _ _))
 iterate 6 (go_big_quiet_step (fail))
 refine wpQuiet_nil ?_
 rintro _ ⟨⟨dq, osq⟩, rfl⟩
 have hb2 := below_regrown W dq osq
 go_wp2
 go_ret
 exact ⟨rfl, HB.out.trans (hb2.mono HB.out.size)⟩
end Go.Proofs.Ytglfdclpjmhoiaa

/- Greedy (layer 15): what a chooser does not take; walked. -/

namespace Go.Proofs.Ytglfdclpjmhoiaa
open Go.RowKit Go.Sort

set_option maxRecDepth 100000 in
set_option maxHeartbeats 8000000 in
/-- Is a hit not to be taken? If it is, the low place rises to its End. -/
theorem takes44_any (P C Q T n c : Nat) (a : Option Addr) (L pt en low at_ : Int) (held : Value) (cl : Bool) (wss : List (List Int)) (x : HitP) (w : World) (hP : w.heap[P]? = some (.cells #[.pointer (some ⟨C, 0, none⟩)] 38 (0, 0))) (hC : ChB w C a n c L pt en held cl) (hR : Sl1 (Value.int .i64) w a n (lnL wss)) (hQ : Boxed w Q 3 (.int .i64 low)) (hT : Boxed w T 3 (.int .i64 at_)) :
  Calls Try.prog 44 #[.agg #[.int .i64 x.1, .int .i64 x.2], .pointer (some ⟨P, 0, none⟩), .pointer (some ⟨Q, 0, none⟩), .pointer (some ⟨T, 0, none⟩)] w fun e w' => e = .returned (.bool (!(mayG wss x && (!decide (x.1 < low) && !decide (at_ < x.1))))) ∧ ((mayG wss x && (!decide (x.1 < low) && !decide (at_ < x.1))) = true → ∃ w1, Below w.heap.size w w1 ∧ w' = w1.setCell ⟨Q, 0, none⟩ (.int .i64 x.1)) := by
 obtain ⟨W, hW⟩ : ∃ W, W = w.alloc (.cells #[.int .i64 x.1, .int .i64 x.2] 30) := ⟨_, rfl⟩
 have hB : Below w.heap.size w W := by rw [hW]; exact below_alloc _ _
 have hx : W.heap[w.heap.size]? = some (.cells #[.int .i64 x.1, .int .i64 x.2] 30 (0, 0)) := by rw [hW]; exact World.alloc_heap_new _ _
 have hPW : W.heap[P]? = _ := (hB.block P (Array.getElem?_eq_some_iff.1 hP).1).trans hP
 have hCl : C < w.heap.size := (Array.getElem?_eq_some_iff.1 (show w.heap[C]? = _ from hC)).1
 have hCW : W.heap[C]? = _ := (hB.block C hCl).trans hC
 have hQW : Boxed W Q 3 (.int .i64 low) := (hB.block Q hQ.lt).trans hQ
 have hTW : Boxed W T 3 (.int .i64 at_) := (hB.block T hT.lt).trans hT
 have hLn : Ln W C a n c wss := ⟨by simp [World.cell?, hCW, chC], hR.below hB, Nat.lt_of_lt_of_le hCl hB.size⟩
 have k0 : ∀ d os, (grow (redrawn W d) os).cell? ⟨P, 0, none⟩ = some (.pointer (some ⟨C, 0, none⟩)) := cell_regrown (by simp [World.cell?, hPW])
 have k1 : ∀ d os, (grow (redrawn W d) os).cell? ⟨Q, 0, none⟩ = some (.int .i64 low) := cell_regrown hQW.cell
 have k4 : ∀ d os, (grow (redrawn W d) os).cell? ⟨T, 0, none⟩ = some (.int .i64 at_) := cell_regrown hTW.cell
 have k2 : ∀ d os, (grow (redrawn W d) os).cell? ⟨w.heap.size, 0, none⟩ = some (.int .i64 x.1) := cell_regrown (by simp [World.cell?, hx])
 have k3 : ∀ d os, (grow (redrawn W d) os).cell? ⟨w.heap.size, 1, none⟩ = some (.int .i64 x.2) := cell_regrown (by simp [World.cell?, hx])
 have hbg : ∀ d os, Calls Try.prog 25 #[.pointer (some ⟨C, 0, none⟩), .agg #[.int .i64 x.1, .int .i64 x.2]] (grow (redrawn W d) os) fun e w' => e = .returned (.bool (mayG wss x)) ∧ RowKit.Below (grow (redrawn W d) os).heap.size (grow (redrawn W d) os) w' := fun d os => may15_any C n c a wss x _ (hLn.below (below_regrown W d os))
 have HB := Lib.hid hB
 have hQl : Q < w.heap.size := hQ.lt
 obtain ⟨M, hM⟩ : ∃ b, mayG wss x = b := ⟨_, rfl⟩
 obtain ⟨D, hD⟩ : ∃ b, decide (x.1 < low) = b := ⟨_, rfl⟩
 obtain ⟨G, hG⟩ : ∃ b, decide (at_ < x.1) = b := ⟨_, rfl⟩
 have hG' : decide (x.1 > at_) = G := hG
 rw [hM] at hbg ⊢
 rw [hD, hG]
 have HX := Lib.hid hx
 have HQW := Lib.hid hQW
 clear hM hB hx hPW hCl hCW hLn hP hC hR hQ hT hQW hTW
 go_enter Try.func44, Try.ntmps44
 go_upto_region 1 with fail
 rw [← hW]
 clear hW
 cases M with
 | false =>
  refine wp_region_quiet_below mixed (by kernel_rfl) ?_
  iterate 4 (go_big_quiet_step (fail))
  go_big_quiet_step (exact grown_below (hbg _ _))
  iterate 13 (go_big_quiet_step (fail))
  refine wpQuiet_nil ?_
  rintro _ ⟨⟨dq, osq⟩, rfl⟩
  have hb2 := below_regrown W dq osq
  go_wp2
  go_ret
  exact ⟨rfl, fun h => by cases h⟩
 | true =>
  cases D with
  | true =>
   refine wp_region_quiet_below mixed (by kernel_rfl) ?_
   iterate 4 (go_big_quiet_step (fail))
   go_big_quiet_step (exact grown_below (hbg _ _))
   iterate 13 (go_big_quiet_step (fail))
   refine wpQuiet_nil ?_
   rintro _ ⟨⟨dq, osq⟩, rfl⟩
   have hb2 := below_regrown W dq osq
   go_wp2
   go_ret
   exact ⟨rfl, fun h => by cases h⟩
  | false =>
   cases G with
   | true =>
    refine wp_region_quiet_below mixed (by kernel_rfl) ?_
    iterate 4 (go_big_quiet_step (fail))
    go_big_quiet_step (exact grown_below (hbg _ _))
    iterate 13 (go_big_quiet_step (fail))
    refine wpQuiet_nil ?_
    rintro _ ⟨⟨dq, osq⟩, rfl⟩
    have hb2 := below_regrown W dq osq
    go_wp2
    go_ret
    exact ⟨rfl, fun h => by cases h⟩
   | false =>
    refine wp_region_quiet_below mixed (by kernel_rfl) ?_
    iterate 4 (go_big_quiet_step (fail))
    go_big_quiet_step (exact grown_below (hbg _ _))
    iterate 13 (go_big_quiet_step (fail))
    refine wpQuiet_nil ?_
    rintro _ ⟨⟨dq, osq⟩, rfl⟩
    have hb2 := below_regrown W dq osq
    obtain ⟨W2, hW2⟩ : ∃ X, X = grow (redrawn W dq) osq := ⟨_, rfl⟩
    rw [← hW2] at hb2 ⊢
    have hbw2 := HB.out.trans (hb2.mono HB.out.size)
    have hx2 := (hb2.block _ (Array.getElem?_eq_some_iff.1 HX.out).1).trans HX.out
    have hq2 : W2.heap[Q]? = _ := (hb2.block Q HQW.out.lt).trans HQW.out
    have c0 : W2.cell? ⟨w.heap.size, 0, none⟩ = some (.int .i64 x.1) := by simp [World.cell?, hx2]
    have c1 : W2.cell? ⟨Q, 0, none⟩ = some (.int .i64 low) := by simp [World.cell?, hq2]
    have c2 : W2.frozen? ⟨Q, 0, none⟩ = false := by simp [World.frozen?, hq2]
    have HBW := Lib.hid hbw2
    clear hW2 hb2 hbw2 hx2 hq2 hbg k0 k1 k2 k3 k4
    go_wp2
    go_ret
    exact ⟨rfl, fun _ => ⟨W2, HBW.out, rfl⟩⟩
end Go.Proofs.Ytglfdclpjmhoiaa

/- Greedy (layer 15): what a chooser takes; walked. -/

namespace Go.Proofs.Ytglfdclpjmhoiaa
open Go.RowKit Go.Sort

/-- The low place ahead of the k-th hit that is fed. -/
def lowG (low : Int) (l : List HitP) : Nat → Int
 | 0 => low
 | k + 1 => (l.getD k (0, 0)).1
def GoodG (wss : List (List Int)) (low at_ : Int) (l : List HitP) : Prop := ∀ k x, l[k]? = some x → mayG wss x = true ∧ lowG low l k ≤ x.1 ∧ x.1 ≤ at_

set_option maxRecDepth 100000 in
set_option maxHeartbeats 8000000 in
theorem takes28_no (C n c m d : Nat) (a b : Option Addr) (L pt en at_ : Int) (held : Value) (cl : Bool) (w : World) (hC : ChB w C a n c L pt en held cl) (hno : cl = true ∨ at_ < pt) :
  Calls Try.prog 28 #[.pointer (some ⟨C, 0, none⟩), .int .i64 at_, .slice b m d] w fun e w' => e = .returned (.bool false) ∧ Below w.heap.size w w' := by
 obtain ⟨W, hW⟩ : ∃ W, W = (w.alloc (.cells #[.pointer (some ⟨C, 0, none⟩)] 38)).alloc (.cells #[.int .i64 at_] 3) := ⟨_, rfl⟩
 have hB : Below w.heap.size w W := by rw [hW]; exact (below_alloc _ _).alloc (by simp) _
 have hO : Bx w.heap.size [.cells #[.pointer (some ⟨C, 0, none⟩)] 38, .cells #[.int .i64 at_] 3] W := by rw [hW]; exact ((Bx.nil _ w).snoc _ rfl).snoc _ (by simp)
 have hCl : C < w.heap.size := (Array.getElem?_eq_some_iff.1 (show w.heap[C]? = _ from hC)).1
 have hCW : W.heap[C]? = _ := (hB.block C hCl).trans hC
 have hs : W.heap.size = w.heap.size + 1 + 1 := by rw [hW]; simp
 have s0 : W.cell? ⟨w.heap.size, 0, none⟩ = some (.pointer (some ⟨C, 0, none⟩)) := hO.cell (i := 0) rfl rfl
 have s1 : W.cell? ⟨w.heap.size + 1, 0, none⟩ = some (.int .i64 at_) := hO.cell (i := 1) rfl rfl
 have k2 : W.cell? ⟨C, 2, none⟩ = some (.int .i64 pt) := by simp [World.cell?, hCW, chC]
 have k5 : W.cell? ⟨C, 5, none⟩ = some (.bool cl) := by simp [World.cell?, hCW, chC]
 have hd := hB.trans ((bel_drewN W 1).mono hB.size)
 clear hO hCl hCW hC hs
 cases cl with
 | true =>
  clear hno
  go_enter Try.func28, Try.ntmps28
  go_upto_region 1 with fail
  rw [← hW]
  clear hW
  go_region
  go_wp2
  go_ret
  exact ⟨rfl, hd⟩
 | false =>
  have hlt : at_ < pt := hno.resolve_left (fun h => by cases h)
  have d0 : decide (at_ < pt) = true := by simpa using hlt
  clear hno hlt
  go_enter Try.func28, Try.ntmps28
  go_upto_region 1 with fail
  rw [← hW]
  clear hW
  go_region
  go_wp2
  go_ret
  exact ⟨rfl, hd⟩

set_option maxRecDepth 100000 in
set_option maxHeartbeats 8000000 in
theorem takes28_yes (C n c m d : Nat) (a b : Option Addr) (L pt en at_ : Int) (held : Value) (wss : List (List Int)) (l : List HitP) (w : World) (hC : ChB w C a n c L pt en held false) (hR : Sl1 (Value.int .i64) w a n (lnL wss)) (hH : Hts w b m l) (hm : m ≤ 1000000)
  (hpt : 0 ≤ pt) (h1 : pt ≤ at_) (h2 : at_ ≤ lastG) (hG : GoodG wss (pt + 1) at_ l) :
  Calls Try.prog 28 #[.pointer (some ⟨C, 0, none⟩), .int .i64 at_, .slice b m d] w fun e w' => e = .returned (.bool true) ∧ Below w.heap.size w w' := by
 obtain ⟨W, hW⟩ : ∃ W, W = (w.alloc (.cells #[.pointer (some ⟨C, 0, none⟩)] 38)).alloc (.cells #[.int .i64 at_] 3) := ⟨_, rfl⟩
 have hB : Below w.heap.size w W := by rw [hW]; exact (below_alloc _ _).alloc (by simp) _
 have hO : Bx w.heap.size [.cells #[.pointer (some ⟨C, 0, none⟩)] 38, .cells #[.int .i64 at_] 3] W := by rw [hW]; exact ((Bx.nil _ w).snoc _ rfl).snoc _ (by simp)
 have hCl : C < w.heap.size := (Array.getElem?_eq_some_iff.1 (show w.heap[C]? = _ from hC)).1
 have hCW : W.heap[C]? = _ := (hB.block C hCl).trans hC
 have hs : W.heap.size = w.heap.size + 1 + 1 := by rw [hW]; simp
 have s0 : W.cell? ⟨w.heap.size, 0, none⟩ = some (.pointer (some ⟨C, 0, none⟩)) := hO.cell (i := 0) rfl rfl
 have s1 : W.cell? ⟨w.heap.size + 1, 0, none⟩ = some (.int .i64 at_) := hO.cell (i := 1) rfl rfl
 have k2 : W.cell? ⟨C, 2, none⟩ = some (.int .i64 pt) := by simp [World.cell?, hCW, chC]
 have k5 : W.cell? ⟨C, 5, none⟩ = some (.bool false) := by simp [World.cell?, hCW, chC]
 have h2 : at_ ≤ 4611686020574871551 := h2
 have d0 : decide (at_ < pt) = false := by simp; omega
 have d1 : decide (at_ > 4611686020574871551) = false := by simp; omega
 have d1' : decide (4611686020574871551 < at_) = false := by simp; omega
 have e1 : IntKind.i64.wrap (pt + 1) = pt + 1 := by rw [IntKind.wrap_i64]; omega
 have eg : ∀ args w, (callFunc 44 args).run Try.prog w = .ok (.enter 44 args) w := enters_of Try.func44 (by kernel_rfl) rfl
 obtain ⟨V, hV⟩ : ∃ V, V = (W.alloc (.cells #[.int .i64 (pt + 1)] 3)).drew := ⟨_, rfl⟩
 have hbV : Below W.heap.size W V := by rw [hV]; exact (below_alloc W _).trans ((bel_drewN _ 1).mono (by simp))
 have hVs : V.heap.size = w.heap.size + 1 + 1 + 1 := by rw [hV]; simp [hs]
 have hVn : Boxed V (w.heap.size + 1 + 1) 3 (.int .i64 (pt + 1)) := by
  have := World.alloc_heap_new W (.cells #[.int .i64 (pt + 1)] 3)
  rw [hs] at this
  rw [hV]
  exact this
 have hP0 : W.heap[w.heap.size]? = some (.cells #[.pointer (some ⟨C, 0, none⟩)] 38 (0, 0)) := hO 0 _ rfl
 have hT0 : W.heap[w.heap.size + 1]? = some (.cells #[.int .i64 at_] 3 (0, 0)) := hO 1 _ rfl
 -- what stays, whatever becomes of the low box
 have KO : ∀ X, w.heap.size + 1 + 1 < X.heap.size → Below (w.heap.size + 1 + 1) V X → X.heap[w.heap.size]? = some (.cells #[.pointer (some ⟨C, 0, none⟩)] 38 (0, 0)) ∧ ChB X C a n c L pt en held false ∧ Sl1 (Value.int .i64) X a n (lnL wss) ∧ Boxed X (w.heap.size + 1) 3 (.int .i64 at_) ∧ Hts X b m l ∧ Below w.heap.size w X := fun X hsz hX => by
  have hWX : Below W.heap.size W X := hbV.trans (hX.mono (by rw [hs]; exact Nat.le_refl _))
  have hwX : Below w.heap.size w X := hB.trans (hWX.mono hB.size)
  exact ⟨(hWX.block _ (by omega)).trans hP0, (hwX.block C hCl).trans hC, hR.below hwX, (hWX.block _ (by omega)).trans hT0, hH.below hwX, hwX⟩
 have HC := Lib.hid (contains45_any (gf := 44) (lb := #[.pointer (some ⟨w.heap.size, 0, none⟩), .pointer (some ⟨w.heap.size + 1 + 1, 0, none⟩), .pointer (some ⟨w.heap.size + 1, 0, none⟩)]) b m d l (fun _ => false) (fun k X => Boxed X (w.heap.size + 1 + 1) 3 (.int .i64 (lowG (pt + 1) l k)) ∧ Below (w.heap.size + 1 + 1) V X) (fun _ _ => False) V eg
  (fun k X hX => (KO X hX.1.lt hX.2).2.2.2.2.1) hm (fun k x X hx hX => by
   obtain ⟨q1, q2, q3, q4, q5, q6⟩ := KO X hX.1.lt hX.2
   obtain ⟨g1, g2, g3⟩ := hG k x hx
   refine (takes44_any w.heap.size C (w.heap.size + 1 + 1) (w.heap.size + 1) n c a L pt en (lowG (pt + 1) l k) at_ held false wss x X q1 q2 q3 hX.1 q4).mono ?_
   rintro e X' ⟨rfl, hok⟩
   have hgood : (mayG wss x && (!decide (x.1 < lowG (pt + 1) l k) && !decide (at_ < x.1))) = true := by
    rw [g1, decide_eq_false (show ¬ x.1 < lowG (pt + 1) l k by omega), decide_eq_false (show ¬ at_ < x.1 by omega)]
    rfl
   refine ⟨by rw [hgood]; rfl, fun _ => ?_, fun h => by cases h⟩
   obtain ⟨X1, hb1, rfl⟩ := hok hgood
   have hl : lowG (pt + 1) l (k + 1) = x.1 := by simp [lowG, List.getD, hx]
   rw [hl]
   have e0 : X1.heap[w.heap.size + 1 + 1]? = _ := (hb1.block _ hX.1.lt).trans hX.1
   exact ⟨set_at (i := 0) e0 (.int .i64 x.1), (hX.2.trans (hb1.mono (Nat.le_of_lt hX.1.lt))).setCell (Nat.le_refl _) _⟩) ⟨hVn, Below.refl _ _⟩)
 have HK := Lib.hid KO
 clear hO hCl hCW hC hP0 hT0 hVn hbV KO hG hH hR eg hB
 go_enter Try.func28, Try.ntmps28
 go_upto_region 1 with fail
 rw [← hW]
 clear hW
 go_region
 have t0 : (W.drew).cell? ⟨w.heap.size, 0, none⟩ = some (.pointer (some ⟨C, 0, none⟩)) := s0
 have t2 : (W.drew).cell? ⟨C, 2, none⟩ = some (.int .i64 pt) := k2
 go_upto_region 5 with fail
 rw [← hV]
 have HVB : Hid (Below w.heap.size w V) := (HK.out V (by omega) (Below.refl _ _)).2.2.2.2.2
 have HVZ : Hid (V.heap.size = w.heap.size + 1 + 1 + 1) := hVs
 clear hV hVs t0 t2 s0 s1 k2 k5 d0 d1 d1' e1 hs
 go_wp2_with fail
 refine HC.out.mono ?_
 rintro e w5 (⟨k, hk, rfl, hj, h1, h2⟩ | ⟨rfl, hi, h1⟩)
 · exact hj.elim
 have HF : Hid (Below w.heap.size w w5) := (HK.out w5 hi.1.lt hi.2).2.2.2.2.2
 clear hi h1
 go_wp2
 go_ret
 exact ⟨rfl, HF.out⟩
end Go.Proofs.Ytglfdclpjmhoiaa

/- Greedy (layer 15): rows of hits joined, copied; walked. -/

namespace Go.Proofs.Ytglfdclpjmhoiaa
open Go.RowKit Go.Sort

set_option maxRecDepth 100000 in
set_option maxHeartbeats 8000000 in
theorem grow48_nil (n : Nat) (w : World) (hn : n ≤ 1000000) :
  Calls Try.prog 48 #[.slice none 0 0, .int .i64 (n : Int)] w fun e w' => ∃ v, e = .returned v ∧ OwnH w' w.heap.size v [] ∧ Below w.heap.size w w' := by
 obtain ⟨i0, hi, hz0, hz1, hz2⟩ := info_parts hit_info
 have d0 : decide ((n : Int) < 0) = false := by simp
 have e1 : IntKind.i64.wrap ((n : Int) - 0) = (n : Int) := by rw [IntKind.wrap_i64]; omega
 have e2 : IntKind.i64.wrap ((n : Int)) = (n : Int) := by rw [IntKind.wrap_i64]; omega
 by_cases h0 : n = 0
 ·
  subst h0
  go_enter Try.func48, Try.ntmps48
  go_wp2
  go_ret
  exact ⟨_, rfl, World.ownsRow_nil _ _ _ _, Below.refl _ _⟩
 ·
  have hpos : 0 < n := Nat.pos_of_ne_zero h0
  have d1 : decide ((n : Int) > 0) = true := by simp; omega
  have d1' : decide ((0 : Int) < (n : Int)) = true := by simp; omega
  have d2 : decide (0 < n) = true := by simpa using hpos
  have hu : Try.prog.underlying 25 = some (.slice 30) := Try.underlying25
  have hu3 : Try.prog.underlying 3 = some (.int .i64) := Try.underlying3
  have hr := fun ty => Lib.run_append_nil_zeros w 25 3 ty 30 i0 (.agg #[.int .i64 0, .int .i64 0]) .i64 .i64 hu hu3 hi hz0 n hpos (by rw [hz1]; omega) (by omega) (by rw [hz2]; omega)
  have hg := grownCap_ge w n 0 30
  have hg2 := grownCap_le_maxLen w n 0 30 (by unfold maxLen; omega)
  obtain ⟨G, hG⟩ : ∃ G, G = grownCap w n 0 30 := ⟨_, rfl⟩
  rw [← hG] at hr hg hg2
  obtain ⟨cs, hcs⟩ : ∃ cs, cs = Builtin.zeroCells (Value.agg #[.int .i64 0, .int .i64 0]).cells n ++ Builtin.zeroCells (Value.agg #[.int .i64 0, .int .i64 0]).cells (G - n) := ⟨_, rfl⟩
  rw [← hcs] at hr
  have hsz : cs.size = G * 2 := by
   rw [hcs]
   simp [Builtin.zeroCells, Value.cells]
   omega
  have hown : OwnH (w.drew.alloc (.cells cs 30)) w.heap.size (.slice (some ⟨w.heap.size, 0, none⟩) 0 G) [] := ⟨rfl, .inr ⟨w.heap.size, G, cs, rfl, Nat.le_refl _, World.alloc_heap_new w.drew _, Nat.zero_le _, hg2, hsz, by simp [hcells]⟩⟩
  have hb : Below w.heap.size w (w.drew.alloc (.cells cs 30)) := (bel_drewN w 1).alloc (bel_drewN w 1).size _
  have HO := Lib.hid hown
  have HB := Lib.hid hb
  have g63 : G ≤ 9223372036854775807 := by unfold maxLen at hg2; omega
  clear hcs hsz hown hb hG hg2 h0 hpos
  go_enter Try.func48, Try.ntmps48
  go_wp2_with (at_builtin; refine Lib.wpList_append_run _ rfl _ _ _ _ rfl _ _ rfl rfl _ _ (hr _) ?_)
  go_ret
  exact ⟨_, rfl, HO.out, HB.out⟩

set_option maxRecDepth 100000 in
set_option maxHeartbeats 8000000 in
theorem clone31_any (a : Option Addr) (n c : Nat) (l : List HitP) (w : World) (hH : Hts w a n l) (hn : n ≤ 1000000) :
  Calls Try.prog 31 #[.slice a n c] w fun e w' => ∃ v, e = .returned v ∧ OwnH w' w.heap.size v l ∧ Below w.heap.size w w' := by
 go_enter Try.func31, Try.ntmps31
 go_upto_region 1 with fail
 have hu : Try.prog.underlying 25 = some (.slice 30) := Try.underlying25
 have hq := Lib.run_eql_slice_nil (P := Try.prog) w 25 30 a n c 0 0 hu
 cases a with
 | none =>
  have h0 : n = 0 := by
   rcases hH.1.2 with h | ⟨b, off, e, _⟩
   · exact h
   · cases e
  have hl : l = [] := List.length_eq_zero_iff.1 (by rw [hH.len, h0])
  subst hl
  clear hH
  subst h0
  simp only [Option.isNone] at hq
  go_wp2
  go_ret
  exact ⟨_, rfl, World.ownsRow_nil _ _ _ _, Below.refl _ _⟩
 | some p =>
  have HH := Lib.hid hH
  clear hH
  simp only [Option.isNone] at hq
  go_upto_region 3 with fail
  clear hq
  obtain ⟨i0, hi, hz0, hz1, hz2⟩ := info_parts hit_info
  have hown : OwnH (w.alloc (.cells #[] 30)) w.heap.size (.slice (some ⟨w.heap.size, 0, none⟩) 0 0) [] := ⟨rfl, .inr ⟨w.heap.size, 0, #[], rfl, Nat.le_refl _, World.alloc_heap_new w _, Nat.zero_le _, Nat.zero_le _, rfl, by simp [hcells]⟩⟩
  have hball := below_alloc w (.cells #[] 30)
  have hsl := (HH.out.below hball).1
  have hlen := HH.out.len
  have hone : ∀ u ∈ hcells l, u.oneCell' = true := hcells_one l
  have hbase : w.heap.size ≤ (w.alloc (.cells #[] 30)).heap.size := by simp
  go_wp2_with (at_builtin; refine wpList_append_slK rfl _ _ 25 rfl w.heap.size 30 i0 (.agg #[.int .i64 0, .int .i64 0]) 2 16 hu hi hz0 hz1 hz2 rfl (by decide) (.slice (some ⟨w.heap.size, 0, none⟩) 0 0) 0 [] rfl hown (some p) n c (hcells l) rfl hsl hone (by unfold maxLen; omega) (by omega) hbase ?_; intro v1 W1 ho1 hg1 hat1; have HO1 := Lib.hid ho1; have HG1 := Lib.hid hg1; clear ho1 hg1 hat1 hown hsl hone)
  go_ret
  refine ⟨v1, rfl, ?_, (hball).grown HG1.out hball.size (fun j e => by injection e with e; exact Nat.le_of_eq e)⟩
  have := HO1.out
  rw [Nat.zero_add, List.nil_append] at this
  show World.ownsRow _ _ _ _ _ l.length _
  rw [hlen]
  exact this
end Go.Proofs.Ytglfdclpjmhoiaa

/- Greedy (layer 15): two rows of hits joined; walked. -/

namespace Go.Proofs.Ytglfdclpjmhoiaa
open Go.RowKit Go.Sort

set_option maxRecDepth 100000 in
set_option maxHeartbeats 8000000 in
theorem concat30_any (RB n1 n2 c1 c2 cc : Nat) (b1 b2 : Option Addr) (l1 l2 : List HitP) (w : World) (hR : w.heap[RB]? = some (.cells #[.slice b1 n1 c1, .slice b2 n2 c2] 25 (0, 0))) (h1 : Hts w b1 n1 l1) (h2 : Hts w b2 n2 l2) (hn1 : n1 ≤ 400000) (hn2 : n2 ≤ 400000) :
  Calls Try.prog 30 #[.slice (some ⟨RB, 0, none⟩) 2 cc] w fun e w' => ∃ v, e = .returned v ∧ OwnH w' w.heap.size v (l1 ++ l2) ∧ Below w.heap.size w w' := by
 obtain ⟨i0, hi, hz0, hz1, hz2⟩ := info_parts hit_info
 have hu : Try.prog.underlying 25 = some (.slice 30) := Try.underlying25
 have hRl := (Array.getElem?_eq_some_iff.1 hR).1
 have KO : Hid (∀ V, Below w.heap.size w V → V.cell? ⟨RB, 0, none⟩ = some (.slice b1 n1 c1) ∧ V.cell? ⟨RB, 1, none⟩ = some (.slice b2 n2 c2) ∧ Hts V b1 n1 l1 ∧ Hts V b2 n2 l2) := fun V hV => by
  have e := (hV.block RB hRl).trans hR
  exact ⟨by simp [World.cell?, e], by simp [World.cell?, e], h1.below hV, h2.below hV⟩
 have HL1 := Lib.hid h1.len
 have HL2 := Lib.hid h2.len
 have HRL := Lib.hid hRl
 have hwr : IntKind.i64.wrap ((n1 : Int) + (n2 : Int)) = ((n1 + n2 : Nat) : Int) := by rw [IntKind.wrap_i64]; omega
 have hw1 : IntKind.i64.wrap ((n1 : Int)) = (n1 : Int) := by rw [IntKind.wrap_i64]; omega
 have hw0 : IntKind.i64.wrap (0 + (n1 : Int)) = (n1 : Int) := by rw [IntKind.wrap_i64]; omega
 have g1 : decide ((n1 : Int) < 0) = false := by simp
 have g2 : decide (((n1 + n2 : Nat) : Int) < 0) = false := by simp; omega
 have g3 : decide ((n1 : Int) + (n2 : Int) < 0) = false := by simp; omega
 clear h1 h2 hR hRl
 go_enter Try.func30, Try.ntmps30
 go_upto_region 3 with fail
 go_loopw [3, 11] (fun s3 s11 wr => wr = w ∧ ((s11 = .int .i64 0 ∧ s3 = .int .i64 0) ∨ (s11 = .int .i64 1 ∧ s3 = .int .i64 (n1 : Int)) ∨ (s11 = .int .i64 2 ∧ s3 = .int .i64 ((n1 + n2 : Nat) : Int)))) (fun _ s _ => 2 - (intOf s).toNat)
 case atStart => exact ⟨rfl, .inl ⟨rfl, rfl⟩⟩
 case round =>
  obtain ⟨rfl, ⟨rfl, rfl⟩ | ⟨rfl, rfl⟩ | ⟨rfl, rfl⟩⟩ := hrel
  ·
   obtain ⟨k0, k1, _, _⟩ := KO.out _ (Below.refl _ _)
   go_wp2
   go_roundw
   case rel => exact ⟨by first | exact rfl | trivial, .inr (.inl ⟨rfl, rfl⟩)⟩
   case measure => simp [intOf]
  ·
   obtain ⟨k0, k1, _, _⟩ := KO.out _ (Below.refl _ _)
   go_wp2
   go_roundw
   case rel => exact ⟨by first | exact rfl | trivial, .inr (.inr ⟨rfl, rfl⟩)⟩
   case measure => simp [intOf]
  ·
   have HG := Lib.hid (grow48_nil (n1 + n2) wr (by omega))
   go_upto_region 9 with fail
   obtain ⟨W0, hW0⟩ : ∃ X, X = wr := ⟨_, rfl⟩
   subst hW0
   go_upto_region 11 with (go_at_call 48; refine HG.out.mono ?_; rintro e w2 ⟨v, rfl, ho, hb⟩; have HO := Lib.hid ho; have HB := Lib.hid hb; clear ho hb)
   clear HG
   go_loopw [6, 27] (fun s6 s27 wr => ∃ ls, Hid (OwnH wr W0.heap.size s6 ls) ∧ Hid (Below W0.heap.size W0 wr) ∧ ((s27 = .int .i64 0 ∧ ls = []) ∨ (s27 = .int .i64 1 ∧ ls = l1) ∨ (s27 = .int .i64 2 ∧ ls = l1 ++ l2))) (fun _ s _ => 2 - (intOf s).toNat)
   case atStart => exact ⟨[], HO.out, HB.out, .inl ⟨rfl, rfl⟩⟩
   case round =>
    clear HO HB
    obtain ⟨ls, HO, HB, ⟨rfl, rfl⟩ | ⟨rfl, hls⟩ | ⟨rfl, hls⟩⟩ := hrel
    ·
     obtain ⟨k0, k1, q1, q2⟩ := KO.out _ HB.out
     have hsl := q1.1
     have hone : ∀ u ∈ hcells l1, u.oneCell' = true := hcells_one l1
     have how := HO.out
     have hbase := HB.out.size
     clear q1 q2 g1 g2 g3 hw0 hw1 hwr
     go_wp2_with (at_builtin; refine wpList_append_slK rfl _ _ 25 rfl W0.heap.size 30 i0 (.agg #[.int .i64 0, .int .i64 0]) 2 16 hu hi hz0 hz1 hz2 rfl (by decide) _ 0 [] rfl how b1 n1 c1 (hcells l1) rfl hsl hone (by unfold maxLen; omega) (by omega) hbase ?_; intro v1 W1 ho1 hg1 hat1; have HO1 := Lib.hid ho1; have HG1 := Lib.hid hg1; clear ho1 hg1 hat1 hsl hone hbase)
     go_roundw
     case rel =>
      refine ⟨l1, ?_, HB.out.grown HG1.out HB.out.size (fun j e => (row_ltG how j e).1), .inr (.inl ⟨rfl, rfl⟩)⟩
      have h := HO1.out
      rw [Nat.zero_add, List.nil_append] at h
      show World.ownsRow _ _ _ _ _ l1.length _
      rw [HL1.out]
      exact h
     case measure => simp [intOf]
    ·
     subst hls
     obtain ⟨k0, k1, q1, q2⟩ := KO.out _ HB.out
     have hsl := q2.1
     have hone : ∀ u ∈ hcells l2, u.oneCell' = true := hcells_one l2
     have how := HO.out
     have hbase := HB.out.size
     have hlen := HL1.out
     clear q1 q2 g1 g2 g3 hw0 hw1 hwr
     go_wp2_with (at_builtin; refine wpList_append_slK rfl _ _ 25 rfl W0.heap.size 30 i0 (.agg #[.int .i64 0, .int .i64 0]) 2 16 hu hi hz0 hz1 hz2 rfl (by decide) _ ls.length (hcells ls) rfl how b2 n2 c2 (hcells l2) rfl hsl hone (by unfold maxLen; omega) (by omega) hbase ?_; intro v1 W1 ho1 hg1 hat1; have HO1 := Lib.hid ho1; have HG1 := Lib.hid hg1; clear ho1 hg1 hat1 hsl hone hbase)
     go_roundw
     case rel =>
      refine ⟨ls ++ l2, ?_, HB.out.grown HG1.out HB.out.size (fun j e => (row_ltG how j e).1), .inr (.inr ⟨rfl, rfl⟩)⟩
      have h := HO1.out
      rw [← hcells_append] at h
      show World.ownsRow _ _ _ _ _ (ls ++ l2).length _
      rw [List.length_append, HL2.out]
      exact h
     case measure => simp [intOf]
    ·
     subst hls
     go_wp2
     go_ret
     exact ⟨_, rfl, HO.out, HB.out⟩
end Go.Proofs.Ytglfdclpjmhoiaa

/- Greedy (layer 15): hits struck out of a row that is one's own; walked. -/

namespace Go.Proofs.Ytglfdclpjmhoiaa
open Go.RowKit Go.Sort

theorem zero_hits (k : Nat) : (Builtin.zeroCells #[.int .i64 0, .int .i64 0] k).toList.length = k * 2 ∧ ∀ v ∈ (Builtin.zeroCells #[.int .i64 0, .int .i64 0] k).toList, v.oneCell' = true := by
 constructor
 · simp [Builtin.zeroCells]
 ·
  intro v hv
  simp only [Builtin.zeroCells, Array.toList_map, List.mem_map] at hv
  obtain ⟨i, _, rfl⟩ := hv
  rcases Nat.mod_two_eq_zero_or_one i with h | h <;> simp [h, Value.oneCell']

theorem run_clear_hits (W : World) (g cap n i c : Nat) (dk : List HitP) (hR : RowAt W g cap dk) (hn : dk.length = n) (hi : i < n) :
  ∃ W', (∀ ty, (Builtin.clear_ #[25] ty #[.slice (some ⟨g, i * 2, none⟩) (n - i) c]).run Try.prog W = .ok (.tuple #[]) W') ∧ RowAt W' g cap (dk.take i) ∧ W.grownBy W' (some g) := by
 obtain ⟨cur, h1, h2, h3, h4⟩ := hR
 obtain ⟨i0, hin, hz0, hz1, hz2⟩ := info_parts hit_info
 obtain ⟨z1, z2⟩ := zero_hits (n - i)
 have hu : Try.prog.underlying 25 = some (.slice 30) := Try.underlying25
 have hst := run_storeCells_at (P := Try.prog) g (i * 2) 30 (Builtin.zeroCells #[.int .i64 0, .int .i64 0] (n - i)).toList 0 cur W h1 (by rw [z1, h2]; omega) z2
 rw [Nat.add_zero] at hst
 have hcell : ∀ k, k < i * 2 → (cur.toList.take (i * 2) ++ (Builtin.zeroCells #[.int .i64 0, .int .i64 0] (n - i)).toList ++ cur.toList.drop (i * 2 + (Builtin.zeroCells #[.int .i64 0, .int .i64 0] (n - i)).toList.length)).toArray[k]? = cur[k]? := fun k hk => by
  rw [List.getElem?_toArray, List.append_assoc, List.getElem?_append_left (by simp [h2]; omega), List.getElem?_take_of_lt hk, Array.getElem?_toList]
 have hsize : (cur.toList.take (i * 2) ++ (Builtin.zeroCells #[.int .i64 0, .int .i64 0] (n - i)).toList ++ cur.toList.drop (i * 2 + (Builtin.zeroCells #[.int .i64 0, .int .i64 0] (n - i)).toList.length)).toArray.size = cap * 2 := by
  simp only [List.size_toArray, List.length_append, List.length_take, List.length_drop, Array.length_toList, z1, h2]
  omega
 obtain ⟨nw, hnw⟩ : ∃ X, X = (cur.toList.take (i * 2) ++ (Builtin.zeroCells #[.int .i64 0, .int .i64 0] (n - i)).toList ++ cur.toList.drop (i * 2 + (Builtin.zeroCells #[.int .i64 0, .int .i64 0] (n - i)).toList.length)).toArray := ⟨_, rfl⟩
 rw [← hnw] at hst hcell hsize
 refine ⟨W.setRow g nw, fun ty => ?_, ⟨nw, ?_, hsize, ?_, fun k hk => ?_⟩, ?_⟩
 ·
  obtain ⟨m, hm⟩ : ∃ m, n - i = m + 1 := ⟨n - i - 1, by omega⟩
  rw [hm] at hst ⊢
  have hv : ∀ w, (zeroValue 30).run Try.prog w = .ok (.agg #[.int .i64 0, .int .i64 0]) w := fun w => by simp [zeroValue, typeInfo, hin, hz0]
  have hvc : (Value.agg #[.int .i64 0, .int .i64 0]).cells = #[.int .i64 0, .int .i64 0] := rfl
  simp [Builtin.clear_, run_underlying hu, hv, hvc, hst]
 · simp [World.setRow, Array.getElem?_modify, h1]
 · rw [List.length_take]; omega
 ·
  rw [List.length_take] at hk
  have e : nth (dk.take i) k = nth dk k := by
   unfold nth
   rw [List.getD_eq_getElem?_getD, List.getElem?_take_of_lt (by omega), ← List.getD_eq_getElem?_getD]
  rw [hcell _ (by omega), hcell _ (by omega), e]
  exact h4 k (by omega)
 ·
  exact ⟨rfl, rfl, rfl, by simp [World.setRow], fun k hk hne => by
   simp only [World.setRow, Array.getElem?_modify]
   rw [if_neg (fun e => hne (by rw [e]))]⟩
theorem filter_take_succ {p : HitP → Bool} {l : List HitP} {j : Nat} {x : HitP} (h : l[j]? = some x) : (l.take (j + 1)).filter p = (l.take j).filter p ++ (if p x then [x] else []) := by
 rw [take_step h, List.filter_append]
 cases hp : p x <;> simp [hp]
theorem grown_of_below {w W : World} (h : Below w.heap.size w W) (r : Option Nat) : w.grownBy W r := ⟨h.os, h.tape, h.output, h.size, fun k hk _ => h.block k hk⟩

set_option maxRecDepth 100000 in
theorem del46_nil (f : Value) (w : World) (gf : Nat) (lb : Array Value) (eg : ∀ args w, (callFunc gf args).run Try.prog w = .ok (.enter gf args) w) :
  Calls Try.prog 46 #[.slice none 0 0, .func (.func gf) #[] lb] w fun e w' => e = .returned (.slice none 0 0) ∧ Below w.heap.size w w' := by
 have HI := Lib.hid (index60_any (gf := gf) (lb := lb) none 0 0 [] (fun _ => false) (fun _ W => Below w.heap.size w W) (fun _ _ => True) w eg (fun _ _ _ => ⟨⟨rfl, .inl rfl⟩, by simp⟩) (by omega) (fun k x W h _ => by simp at h) (Below.refl _ _))
 clear eg
 go_enter Try.func46, Try.ntmps46
 go_wp2_with fail
 refine HI.out.mono ?_
 rintro e w1 (⟨k, hk, _⟩ | ⟨rfl, hb, _⟩)
 · omega
 have HB := Lib.hid hb
 clear hb
 go_wp2
 go_ret
 exact ⟨rfl, HB.out⟩

set_option maxRecDepth 100000 in
set_option maxHeartbeats 16000000 in
theorem del46_any {gf : Nat} {lb : Array Value} (p : HitP → Bool) (base g cap : Nat) (l : List HitP) (w : World) (eg : ∀ args w, (callFunc gf args).run Try.prog w = .ok (.enter gf args) w)
  (hO : OwnH w base (.slice (some ⟨g, 0, none⟩) l.length cap) l) (hI : ∀ x ∈ l, I64 x.1 ∧ I64 x.2) (hn : l.length ≤ 1000000)
  (hp : ∀ W x, w.grownBy W (some g) → x ∈ l → Calls Try.prog gf (#[.agg #[.int .i64 x.1, .int .i64 x.2]] ++ lb) W fun e W' => e = .returned (.bool (p x)) ∧ Below W.heap.size W W') :
  Calls Try.prog 46 #[.slice (some ⟨g, 0, none⟩) l.length cap, .func (.func gf) #[] lb] w fun e w' => e = .returned (.slice (some ⟨g, 0, none⟩) (l.filter fun x => !p x).length cap) ∧ OwnH w' base (.slice (some ⟨g, 0, none⟩) (l.filter fun x => !p x).length cap) (l.filter fun x => !p x) ∧ w.grownBy w' (some g) := by
 obtain ⟨n, hnn⟩ : ∃ n, l.length = n := ⟨_, rfl⟩
 obtain ⟨hrow, hbg, hcm, _⟩ := hO.row
 have hHts : Hts w (some ⟨g, 0, none⟩) n l := by
  obtain ⟨a, c, e, _, h⟩ := OwnH.hts hO hI
  injection e with e1
  rw [← e1, hnn] at h
  exact h
 have hcn : n ≤ cap := by obtain ⟨_, _, _, h, _⟩ := hrow; omega
 have hmax : cap ≤ 9223372036854775807 := by unfold maxLen at hcm; omega
 have HI := Lib.hid (index60_any (gf := gf) (lb := lb) (some ⟨g, 0, none⟩) n cap l (fun k => p (nth l k)) (fun _ W => Below w.heap.size w W) (fun _ W => Below w.heap.size w W) w eg (fun _ W hW => hHts.below hW) (by omega) (fun k x W hx hW => by
  refine (hp W x (grown_of_below hW _) (List.mem_of_getElem? hx)).mono ?_
  rintro e W' ⟨rfl, hb⟩
  have e : nth l k = x := by simp [nth, List.getD, hx]
  rw [e]
  have := hW.trans (hb.mono hW.size)
  exact ⟨rfl, fun _ => this, fun _ => this⟩) (Below.refl _ _))
 have HP := Lib.hid hp
 have HROW := Lib.hid hrow
 have HBG := Lib.hid hbg
 have HCM := Lib.hid hcm
 have HNN := Lib.hid hnn
 have HNL : Hid (n ≤ 1000000) := by rw [← hnn]; exact hn
 rw [hnn]
 clear hp hrow hbg hcm hHts hO hI hn hnn
 go_enter Try.func46, Try.ntmps46
 go_upto_region 2 with fail
 refine HI.out.mono ?_
 rintro e w1 (⟨k0, hk0, rfl, hb, hno, hyes⟩ | ⟨rfl, hb, hno⟩)
 ·
  have HB := Lib.hid hb
  have HNO := Lib.hid hno
  have HYES := Lib.hid hyes
  have HK0 := Lib.hid hk0
  have hne : ((k0 : Int) == -1) = false := beq_eq_false_iff_ne.2 (by omega)
  have hnl := HNL.out
  have hwr : IntKind.i64.wrap ((k0 : Int) + 1) = ((k0 + 1 : Nat) : Int) := by rw [IntKind.wrap_i64]; omega
  clear hb hno hyes HI
  go_upto_region 5 with fail
  go_loopw [5, 6] (fun s5 s6 wr => ∃ (i j : Nat) (dk : List HitP), i < j ∧ j ≤ n ∧ s5 = .int .i64 (i : Int) ∧ s6 = .int .i64 (j : Int) ∧ Hid (dk.length = n) ∧ Hid (RowAt wr g cap dk) ∧ Hid (w.grownBy wr (some g)) ∧ Hid (dk.take i = (l.take j).filter fun x => !p x) ∧ Hid (dk.drop j = l.drop j)) (fun _ s _ => n - (intOf s).toNat)
  case atStart =>
   refine ⟨k0, k0 + 1, l, by omega, HK0.out, rfl, by go_num, HNN.out, HROW.out.below HB.out, grown_of_below HB.out _, ?_, rfl⟩
   have hx : l[k0]? = some (nth l k0) := by simp [nth, List.getD, List.getElem?_eq_getElem (show k0 < l.length by rw [HNN.out]; exact HK0.out)]
   rw [Hid, filter_take_succ hx, HYES.out]
   have : (l.take k0).filter (fun x => !p x) = l.take k0 := by
    rw [List.filter_eq_self]
    intro x hx
    obtain ⟨k, hk, e⟩ := List.getElem_of_mem hx
    rw [List.length_take] at hk
    have h := HNO.out k (by omega)
    rw [List.getElem_take] at e
    rw [show nth l k = x by simp [nth, List.getD, List.getElem?_eq_getElem (show k < l.length by omega), e]] at h
    rw [h]; rfl
   rw [this]
   simp
  case round =>
   clear HB HNO HYES HK0 hne hwr
   obtain ⟨i, j, dk, hij, hjn, rfl, rfl, HDL, HR, HG, HT, HD⟩ := hrel
   by_cases hlt : j < n
   ·
    have d0 : decide ((j : Int) < (n : Int)) = true := by simp; omega
    have d0' : decide (j < n) = true := by simp; omega
    have hgl := HR.out.lt
    obtain ⟨x, hx⟩ : ∃ x, l[j]? = some x := ⟨_, List.getElem?_eq_getElem (show j < l.length by rw [HNN.out]; exact hlt)⟩
    have hxd : nth dk j = x := by
     have h1 : dk[j]? = l[j]? := by
      have := congrArg (fun t => t[0]?) HD.out
      simpa using this
     simp [nth, List.getD, h1, hx]
    obtain ⟨x0, x1, _, _⟩ := HR.out.cell (k := j) (by rw [HDL.out]; exact hlt)
    rw [hxd] at x0 x1
    obtain ⟨W1, hW1⟩ : ∃ X, X = wr.alloc (.cells #[.int .i64 x.1, .int .i64 x.2] 30) := ⟨_, rfl⟩
    have hb1 : Below wr.heap.size wr W1 := by rw [hW1]; exact below_alloc _ _
    have hh1 : W1.heap[wr.heap.size]? = some (.cells #[.int .i64 x.1, .int .i64 x.2] 30 (0, 0)) := by rw [hW1]; exact World.alloc_heap_new _ _
    have HC := Lib.hid (HP.out W1 x (HG.out.trans (grown_of_below hb1 _)) (List.mem_of_getElem? hx))
    have i1 : (0 : Int) ≤ (j : Int) := by omega
    have i2 : (j : Int) < (n : Int) := by omega
    have HX := Lib.hid hx
    have HH1 := Lib.hid hh1
    have HB1 := Lib.hid hb1
    have HW1 := Lib.hid hW1
    have y0 : W1.cell? ⟨wr.heap.size, 0, none⟩ = some (.int .i64 x.1) := by simp [World.cell?, hh1]
    have y1 : W1.cell? ⟨wr.heap.size, 1, none⟩ = some (.int .i64 x.2) := by simp [World.cell?, hh1]
    have HLT := Lib.hid hlt
    obtain ⟨q, hq⟩ : ∃ q, p x = q := ⟨_, rfl⟩
    rw [hq] at HC
    have HQ := Lib.hid hq
    have hwj : IntKind.i64.wrap ((j : Int) + 1) = ((j + 1 : Nat) : Int) := by rw [IntKind.wrap_i64]; omega
    have hwi : IntKind.i64.wrap ((i : Int) + 1) = ((i + 1 : Nat) : Int) := by rw [IntKind.wrap_i64]; omega
    clear hx hh1 hb1 hW1 hxd hlt hq
    go_upto_region 8 with fail
    rw [← HW1.out]
    clear HW1 x0 x1
    cases q with
    | true =>
     go_wp2_with (go_at_fn gf; refine HC.out.mono ?_; rintro e w5 ⟨rfl, hb5⟩; have HB5 := Lib.hid (HB1.out.trans (hb5.mono HB1.out.size)); clear hb5)
     go_roundw
     case rel =>
      refine ⟨i, j + 1, dk, by omega, HLT.out, rfl, by go_num, HDL.out, HR.out.below HB5.out, HG.out.trans (grown_of_below HB5.out _), ?_, ?_⟩
      · rw [Hid, filter_take_succ HX.out, HQ.out, HT.out]; simp
      · rw [Hid, ← List.drop_drop, ← List.drop_drop, HD.out]
     case measure =>
      have := HLT.out
      simp [intOf]
      omega
    | false =>
     have hin : i < dk.length := by rw [HDL.out]; omega
     have HIN := Lib.hid hin
     have j1 : (0 : Int) ≤ (i : Int) := by omega
     have j2 : (i : Int) < (n : Int) := by omega
     clear hin
     go_upto_region 9 with (go_at_fn gf; refine HC.out.mono ?_; rintro e w5 ⟨rfl, hb5⟩; have HB5 := Lib.hid (HB1.out.trans (hb5.mono HB1.out.size)); have HZ5 := Lib.hid ((hb5.block _ (Array.getElem?_eq_some_iff.1 HH1.out).1).trans HH1.out); clear hb5)
     have hR5 := HR.out.below HB5.out
     obtain ⟨u0, u1, u2, u3⟩ := hR5.cell HIN.out
     have v0 : w5.cell? ⟨wr.heap.size, 0, none⟩ = some (.int .i64 x.1) := by simp [World.cell?, HZ5.out]
     have v1 : w5.cell? ⟨wr.heap.size, 1, none⟩ = some (.int .i64 x.2) := by simp [World.cell?, HZ5.out]
     have HR6 := Lib.hid (hR5.set HIN.out x)
     have HG6 : Hid (w.grownBy ((w5.setCell ⟨g, i * 2, none⟩ (.int .i64 x.1)).setCell ⟨g, i * 2 + 1, none⟩ (.int .i64 x.2)) (some g)) := ((HG.out.trans (grown_of_below HB5.out _)).trans (grown_set2 _ _ _ _)).trans (grown_set2 _ _ _ _)
     clear hR5
     go_upto_region 10 with fail
     go_wp2
     go_roundw
     case rel =>
      refine ⟨i + 1, j + 1, dk.set i x, by omega, HLT.out, by go_num, by go_num, by rw [Hid, List.length_set]; exact HDL.out, HR6.out, HG6.out, ?_, ?_⟩
      ·
       have e1 : (dk.set i x)[i]? = some x := by rw [List.getElem?_set_self HIN.out]
       rw [Hid, filter_take_succ HX.out, HQ.out, take_step e1, List.take_set_of_le (Nat.le_refl _), HT.out]
       simp
      · rw [Hid, List.drop_set_of_lt (by omega), ← List.drop_drop, ← List.drop_drop, HD.out]
     case measure =>
      have := HLT.out
      simp [intOf]
      omega
   ·
    obtain rfl : j = n := by omega
    have d0 : decide ((j : Int) < (j : Int)) = false := by simp
    have hdi : dk.take i = l.filter fun x => !p x := by
     have := HT.out
     rw [show l.take j = l from List.take_of_length_le (by rw [HNN.out]; exact Nat.le_refl _)] at this
     exact this
    have hlen : (l.filter fun x => !p x).length = i := by
     rw [← hdi, List.length_take, HDL.out]; omega
    obtain ⟨W6, hcl, hR6, hG6⟩ := run_clear_hits wr g cap j i (cap - i) dk HR.out HDL.out hij
    have HG6 : Hid (w.grownBy W6 (some g)) := HG.out.trans hG6
    rw [hdi] at hR6
    have HO6 : Hid (OwnH W6 base (.slice (some ⟨g, 0, none⟩) (l.filter fun x => !p x).length cap) (l.filter fun x => !p x)) := hR6.own HBG.out HCM.out
    have HLEN := Lib.hid hlen
    have hci : ¬ cap = i := by omega
    have hci' : (cap == i) = false := by simp; omega
    have j1 : (0 : Int) ≤ (i : Int) := by omega
    have j2 : (i : Int) ≤ (j : Int) := by omega
    have j3 : i ≤ j := by omega
    have j4 : (i : Int) ≤ (cap : Int) := by omega
    clear hdi hlen hR6 hG6
    go_wp2
    go_ret
    rw [← HLEN.out]
    exact ⟨rfl, HO6.out, HG6.out⟩
 ·
  have HB := Lib.hid hb
  have hall : l.filter (fun x => !p x) = l := by
   rw [List.filter_eq_self]
   intro x hx
   obtain ⟨k, hk, e⟩ := List.getElem_of_mem hx
   have h := hno k (by rw [← HNN.out]; exact hk)
   rw [show nth l k = x by simp [nth, List.getD, List.getElem?_eq_getElem hk, e]] at h
   rw [h]; rfl
  have HALL := Lib.hid hall
  have HFIN : Hid (OwnH w1 base (.slice (some ⟨g, 0, none⟩) l.length cap) l) := (HROW.out.below hb).own HBG.out HCM.out
  clear hb hno HI hall
  go_wp2
  go_ret
  rw [HALL.out]
  exact ⟨by rw [HNN.out]; rfl, HFIN.out, grown_of_below HB.out _⟩
end Go.Proofs.Ytglfdclpjmhoiaa
