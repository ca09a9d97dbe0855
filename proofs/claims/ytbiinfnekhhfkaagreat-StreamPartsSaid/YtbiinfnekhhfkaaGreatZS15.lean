/- Parts of the proof, one behind the other: E5, E6, YJ, E8, YN, YR, G8, MI, Ot, R1, R2. No condition but what each theorem states. -/
import Derived.Deep.CutBlock
import Derived.Test.YtbiinfnekhhfkaaGreatZS2
import Derived.Test.YtbiinfnekhhfkaaGreatZS3
import Derived.Test.YtbiinfnekhhfkaaGreatZS4
import Derived.Test.YtbiinfnekhhfkaaGreatZS7
import Derived.Test.YtbiinfnekhhfkaaGreatZS8
import Derived.Test.YtbiinfnekhhfkaaGreatZS9
import Derived.Test.YtbiinfnekhhfkaaGreatZS10
import Derived.Test.YtbiinfnekhhfkaaGreatZS11
import Derived.Test.YtbiinfnekhhfkaaGreatZS12
import Derived.Test.YtbiinfnekhhfkaaGreatZS13
import Derived.Test.YtbiinfnekhhfkaaGreatZS14

/- Streams (layer 14): Feed; walked. Printed by exp.py. -/



namespace Go.Proofs.YtbiinfnekhhfkaaGreat
open Go.RowKit Go.Sort
set_option linter.unusedVariables false
set_option linter.unusedSimpArgs false
attribute [local go_sem] Oper.semAt_some
attribute [local simp] wide_fn wide_depth
attribute [local go_sem] wide_fn wide_depth

def HoldsH (b base : Nat) (l : List HitP) (W : World) : Prop := ∃ v, Boxed W b 45 v ∧ OwnH W base v l
theorem holdsH_owns {α : Type} {B b base p : Nat} (hb : base ≤ b) (hp : p < base) (f : α → List HitP) : OwnsX B (fun r _ _ => r = p) (fun s W => HoldsH b base (f s) W) := by
  rintro s W W' row ⟨v, hv, ho⟩ hg hr
  have far : ∀ {k : Nat} {cs : Array Value} {t : TypeId}, W.heap[k]? = some (.cells cs t (0, 0)) → k ≠ p → row ≠ some k := fun {k cs t} hk hkp e => by
    rcases hr k e with ⟨_, o, h1, h2⟩ | h
    · rw [hk] at h1; cases h1; cases h2
    · exact hkp h
  refine ⟨v, (hg.block b hv.lt (fun e => far hv (by omega) e.symm)).trans hv, ho.kept hg ?_⟩
  rcases ho.2 with ⟨rfl, _⟩ | ⟨g, cap, cur, rfl, hg0, hgb, _⟩
  · exact .inl rfl
  · refine .inr fun e => ?_
    have e' : row = some g := by rw [← e]; rfl
    rcases hr g e' with ⟨_, o, h1, h2⟩ | h
    · rw [hgb] at h1; cases h1; cases h2
    · omega

theorem KpL.of_below {bl : Nat} {W V : World} (hb : Below W.heap.size W V) (hl : bl < W.heap.size) : KpL bl W V :=
  ⟨hb.size, fun k cs t f hk _ _ => (hb.block k (KpL.lt (bl := bl) hk)).trans hk, .inl (by unfold rowAt; rw [World.cell?_of_block (a := ⟨bl, 0, none⟩) (hb.block bl hl)])⟩
theorem kpl_append {V w5 : World} {bl base size n : Nat} {t e : TypeId} {v v' : Value} {xs : List Value} {tmp : Obj} (hv : Boxed V bl t v) (hv1 : Boxed w5 bl t v) (hg : (V.alloc tmp).grownBy w5 v.ownBlock) (hat : v'.ownBlock = v.ownBlock ∨ v'.ownBlock = some (V.alloc tmp).heap.size)
    (hown' : w5.ownsRow base e size v' n xs) : KpL bl V (w5.setCell ⟨bl, 0, none⟩ v') := by
  have hs : V.heap.size ≤ w5.heap.size := by have := hg.size; simp at this; omega
  have e1 : rowAt bl V = v.ownBlock := by unfold rowAt; rw [hv.cell]; rfl
  have e2 : rowAt bl (w5.setCell ⟨bl, 0, none⟩ v') = v'.ownBlock := by unfold rowAt; rw [(hv1.set v').cell]; rfl
  have hs2 : (w5.setCell ⟨bl, 0, none⟩ v').heap.size = w5.heap.size := by simp [World.setCell]
  refine ⟨by rw [hs2]; exact hs, fun k cs t f hk hb hr => ?_, ?_⟩
  · have hkl := KpL.lt (bl := bl) hk
    rw [e1] at hr
    rw [Below.heap_setCell w5 ⟨bl, 0, none⟩ v' k hb, hg.block k (by simp; omega) (fun e => hr e.symm), Below.heap_alloc _ _ _ hkl]
    exact hk
  · rw [e1, e2, hs2]
    rcases hat with h | h
    · exact .inl h
    · refine .inr ⟨_, h, by simp, ?_⟩
      rcases hown'.2 with ⟨h0, _⟩ | ⟨g, cap, cur, h0, _, hgb, _⟩
      · rw [h0] at h; cases h
      · rw [h0] at h
        simp only [Value.ownBlock, Option.some.injEq] at h
        rw [← h]
        exact (Array.getElem?_eq_some_iff.1 hgb).1
theorem slk_hit (V : World) (x : HitP) : SlK 2 (V.alloc (.cells #[.int .i64 x.1, .int .i64 x.2] 61)) (some ⟨V.heap.size, 0, none⟩) 1 [.int .i64 x.1, .int .i64 x.2] := by
  refine ⟨rfl, .inr ⟨V.heap.size, 0, rfl, by simp, fun i u hu => ?_⟩⟩
  have := cells_new (w := V) #[.int .i64 x.1, .int .i64 x.2] 61 rfl i u (by simpa using hu)
  rwa [add_plain] at this

theorem hits14_any (g : Nat) (a : Option Addr) (n c : Nat) (w : World) :
    Calls Tryz.prog 94 #[.pointer (some ⟨g, 0, none⟩), .slice a n c] w fun e w' => e = .returned (.func (.func 123) #[] #[.pointer (some ⟨w.heap.size + 1, 0, none⟩), .pointer (some ⟨w.heap.size, 0, none⟩)]) ∧
      w' = (w.alloc (.cells #[.pointer (some ⟨g, 0, none⟩)] 185)).alloc (.cells #[.slice a n c] 22) := by
  go_enter Tryz.func94, Tryz.ntmps94
  go_wp2
  go_ret
  exact ⟨rfl, rfl⟩

theorem sum_prefix {css : List (List Int)} {i : Nat} {x : List Int} (h : css[i]? = some x) : (css.take (i + 1)).flatten.length = (css.take i).flatten.length + x.length ∧ (css.take (i + 1)).flatten.length ≤ css.flatten.length := by
  have h1 := (flat_prefix h x.length).length_le
  rw [List.take_of_length_le (Nat.le_refl _), List.length_append] at h1
  rw [flat_step h, List.length_append]
  exact ⟨rfl, h1⟩

set_option maxRecDepth 100000 in
set_option maxHeartbeats 8000000 in
theorem feed14_yes {W0 : World} {B : Nat} {fold : Bool} {wss : List (List Int)} (z : Nat) (at_ : Int) (a : Option Addr) (n cn : Nat) (css : List (List Int)) (w : World) (h : MUse W0 B fold wss w) (hC : Wds w a n css) (hn : n ≤ 1000000) (hl : ∀ x ∈ css, x.length ≤ 1000000)
    (hz : z < (nodesL wss).length) (hat : 0 ≤ at_) (hlast : at_ + css.flatten.length ≤ 4611686020574871551) (hi6 : ∀ (node : Int), ∀ v ∈ words13 wss node, I64 v) (hF : (scanH fold wss z at_ css.flatten).length ≤ 1000000000) :
    Calls Tryz.prog 55 #[.pointer (some ⟨B, 0, none⟩), scV (z : Int) at_, .slice a n cn] w fun e w' => ∃ v, e = .returned (.tuple #[scV (feedZ fold wss z css.flatten : Nat) (at_ + css.flatten.length), v, .int .i64 0]) ∧ OwnH w' w.heap.size v (scanH fold wss z at_ css.flatten) ∧ Below w.heap.size w w' := by
  obtain ⟨i0, hi, hz0, hz1, hz2⟩ := info_parts hit_info
  obtain ⟨W, hW⟩ : ∃ W, W = (w.alloc (.cells #[.int .i64 (z : Int), .int .i64 at_] 88)).alloc (.cells #[.int .i64 0, .int .i64 0] 88) := ⟨_, rfl⟩
  have hB : Below w.heap.size w W := by rw [hW]; exact ((Below.refl _ _).alloc (Nat.le_refl _) _).alloc (by simp) _
  have hO : Bx w.heap.size [.cells #[.int .i64 (z : Int), .int .i64 at_] 88, .cells #[.int .i64 0, .int .i64 0] 88] W := by rw [hW]; exact ((Bx.nil _ w).snoc _ rfl).snoc _ (by simp)
  have hlW : w.heap.size + 1 < W.heap.size := by rw [hW]; simp
  have HO : Hid (∀ V, RowKit.Below W.heap.size W V → V.cell? ⟨w.heap.size, 0, none⟩ = some (.int .i64 (z : Int)) ∧ V.cell? ⟨w.heap.size, 1, none⟩ = some (.int .i64 at_) ∧ V.heap[w.heap.size + 1]? = some (.cells #[.int .i64 0, .int .i64 0] 88 (0, 0)) ∧ w.heap.size + 1 < V.heap.size) := fun V hV => by
    have h := hO.below hV
    exact ⟨h.cell (i := 0) rfl rfl, h.cell (i := 0) rfl rfl, h 1 _ rfl, Nat.lt_of_lt_of_le hlW hV.size⟩
  have HU := Lib.hid (h.below hB)
  have HC := Lib.hid (hC.below hB)
  have HCL := Lib.hid hC.len
  have HL := Lib.hid hl
  have HB := Lib.hid hB
  have HFL := Lib.hid hF
  have hsR : scanR (nodesL wss).length (z : Int) at_ = true := by unfold scanR; simp; omega
  have HR := Lib.hid (right14_any (z : Int) at_ W HU.out)
  rw [hsR] at HR
  have HI6 := Lib.hid hi6
  have HZ := Lib.hid hz
  clear h hC hl hB hO hsR hF hi6 hz
  refine calls_of_wp_M Tryz.func55 rfl ?_
  simp only [Tryz.ntmps55, List.size_toArray, List.length_cons, List.length_nil, Nat.reduceAdd, Nat.reduceSub, Array.replicate_succ, Array.replicate_zero, List.push_toArray, List.append_toArray, List.nil_append, List.cons_append]
  go_upto_region 1 with fail
  rw [← hW]
  clear hW
  obtain ⟨s0, s1, s2, s3⟩ := HO.out W (Below.refl _ _)
  go_upto_region 3 with (go_at_call 57; refine HR.out.mono ?_; rintro e w1 ⟨rfl, hb1⟩)
  clear s0 s1 s2 s3 HR
  obtain ⟨s0, s1, s2, s3⟩ := HO.out w1 hb1
  go_upto_region 5 with fail
  clear s0 s1 s2 s3
  go_loopw [9, 25] (fun s9 s25 wr => ∃ i : Nat, i ≤ n ∧ s25 = .int .i64 (i : Int) ∧ s9 = .int .i64 (4611686020574871551 - at_ - ((css.take i).flatten.length : Int)) ∧ Hid (RowKit.Below W.heap.size W wr)) (fun _ s _ => n - (intOf s).toNat)
  case atStart => exact ⟨0, Nat.zero_le _, rfl, by simp, hb1⟩
  case round =>
    clear hb1
    obtain ⟨i, hi', rfl, rfl, HBr⟩ := hrel
    by_cases hin : i < n
    · have hd : decide ((i : Int) < (n : Int)) = true := by simp; omega
      obtain ⟨bb, off, a', lx, cx, x, rfl, hbl', hcell, hx, hX, hlc⟩ := (HC.out.below HBr.out).at_ hin
      obtain ⟨g1, g2⟩ := sum_prefix hx
      rw [hX.len] at g1
      have hlx : lx ≤ 1000000 := by have := HL.out x (List.mem_of_getElem? hx); rw [hX.len] at this; exact this
      have i1 : (0 : Int) ≤ (i : Int) := by omega
      have i2 : (i : Int) < (n : Int) := by omega
      obtain ⟨k, hk⟩ : ∃ k : Nat, (css.take i).flatten.length = k := ⟨_, rfl⟩
      obtain ⟨T, hT⟩ : ∃ T : Nat, css.flatten.length = T := ⟨_, rfl⟩
      rw [hk] at g1 ⊢
      have d2 : decide (4611686020574871551 - at_ - (k : Int) < (lx : Int)) = false := by simp; omega
      have e9 : Hid (4611686020574871551 - at_ - (k : Int) - (lx : Int) = 4611686020574871551 - at_ - ((css.take (i + 1)).flatten.length : Int)) := by rw [Hid, g1]; omega
      have hkb : (k : Int) + lx + at_ ≤ 4611686020574871551 := by omega
      have HK := Lib.hid hk
      clear hx hX g1 g2 hk hT
      go_wp2_with fail
      go_roundw
      case rel => exact ⟨i + 1, by omega, by go_num, by rw [← e9.out], HBr⟩
      case measure => simp [intOf]; omega
    · obtain rfl : n = i := by omega
      have hd : decide ((n : Int) < (n : Int)) = false := by simp
      obtain ⟨s0, s1, s2, s3⟩ := HO.out wr HBr.out
      go_upto_region 13 with fail
      go_wp2_with (go_at_call 94; refine (hits14_any _ _ _ _ _).mono ?_; rintro e w' ⟨rfl, rfl⟩)
      obtain ⟨W4, hW4⟩ : ∃ X, X = (((wr.alloc (.cells (goC z at_ B) 146)).alloc (.cells #[.slice none 0 0] 45)).alloc (.cells #[.pointer (some ⟨wr.heap.size, 0, none⟩)] 185)).alloc (.cells #[.slice a n cn] 22) := ⟨_, rfl⟩
      have hO4 : Bx wr.heap.size [.cells (goC z at_ B) 146, .cells #[.slice none 0 0] 45, .cells #[.pointer (some ⟨wr.heap.size, 0, none⟩)] 185, .cells #[.slice a n cn] 22] W4 := by rw [hW4]; exact ((((Bx.nil _ wr).snoc _ rfl).snoc _ (by simp)).snoc _ (by simp)).snoc _ (by simp)
      have hb4 : RowKit.Below wr.heap.size wr W4 := by rw [hW4]; exact (((below_alloc wr _).alloc (by simp) _).alloc (by simp; omega) _).alloc (by simp; omega) _
      have hs4 : W4.heap.size = wr.heap.size + 1 + 1 + 1 + 1 := by rw [hW4]; simp
      rw [show (((wr.alloc (.cells #[.int .i64 (z : Int), .int .i64 at_, .pointer (some ⟨B, 0, none⟩)] 146)).alloc (.cells #[.slice none 0 0] 45)).alloc (.cells #[.pointer (some ⟨wr.heap.size, 0, none⟩)] 185)).alloc (.cells #[.slice a n cn] 22) = W4 from hW4.symm]
      clear hW4 s0 s1 s2 s3
      have g4 : GoX wr.heap.size z at_ B W4 := hO4 0 _ rfl
      have bl4 : Boxed W4 (wr.heap.size + 1) 45 (.slice none 0 0) := hO4 1 _ rfl
      have b2 : Boxed W4 (wr.heap.size + 1 + 1) 185 (.pointer (some ⟨wr.heap.size, 0, none⟩)) := hO4 2 _ rfl
      have b3 : Boxed W4 (wr.heap.size + 1 + 1 + 1) 22 (.slice a n cn) := hO4 3 _ rfl
      have hce : CellsK wr W4 := ⟨hb4.size, fun k cs t f hk => (hb4.block k (KpL.lt (bl := 0) hk)).trans hk⟩
      have hrow : ∀ r, rowAt (wr.heap.size + 1) W4 ≠ some r := fun r e => by
        unfold rowAt at e
        rw [bl4.cell] at e
        cases e
      have hps := hits14_stops (fold := fold) (wss := wss) (bl := wr.heap.size + 1) (cn := cn) (wr.heap.size + 1 + 1) (wr.heap.size + 1 + 1 + 1) 8 W0 wr W4 (HU.out.below HBr.out) (HC.out.below HBr.out) hce (Nat.le_refl _) (Nat.le_succ _) (by omega) bl4.lt b3 b2 g4 ⟨by omega, by omega, by omega, by omega⟩ hrow HZ.out hat hlast HI6.out (by omega) HL.out
      have hBw : RowKit.Below w.heap.size w wr := HB.out.trans (HBr.out.mono HB.out.size)
      have hsw := hBw.size
      have hgw : w.heap.size + 1 < wr.heap.size := Nat.lt_of_lt_of_le hlW HBr.out.size
      have hbw4 : RowKit.Below w.heap.size w W4 := hBw.trans (hb4.mono hBw.size)
      have h64 : Hid (W4.heap[w.heap.size + 1]? = some (.cells #[.int .i64 0, .int .i64 0] 88 (0, 0))) := by
        obtain ⟨_, _, h, h'⟩ := HO.out wr HBr.out
        exact (hb4.block _ h').trans h
      obtain ⟨F, hFe⟩ : ∃ F, css.flatten = F := ⟨_, rfl⟩
      rw [hFe] at hps hlast HFL
      obtain ⟨hh, hhe⟩ : ∃ hh, scanH fold wss z at_ F = hh := ⟨_, rfl⟩
      rw [hhe] at hps HFL
      obtain ⟨zf, hzf⟩ : ∃ zf, feedZ fold wss z F = zf := ⟨_, rfl⟩
      rw [hzf] at hps
      have HFE := Lib.hid hFe
      have HHE := Lib.hid hhe
      have HZF := Lib.hid hzf
      obtain ⟨g, hg⟩ : ∃ g, wr.heap.size = g := ⟨_, rfl⟩
      rw [hg] at hps hs4 bl4 hsw hgw ⊢
      clear hO4 hb4 b2 b3 hce hrow hBw hd g4 hg hFe hhe hzf
      apply rangeX rfl (enters_of Tryz.func123 (by kernel_rfl) rfl) hps (fun r W W' hr => by rw [hr]; omega) ?hSk KpL.t (KpL.b (by omega)) (fun _ => rfl)
        (fun pre V => HoldsH (g + 1) (g + 1) pre V ∧ RowKit.Below w.heap.size w V ∧ (W4.heap.size ≤ V.heap.size ∧ V.heap[w.heap.size + 1]? = some (.cells #[.int .i64 0, .int .i64 0] 88 (0, 0))))
        (fun _ _ _ => False)
      case wA => exact fun x W => W.alloc (.cells #[.int .i64 x.1, .int .i64 x.2] 61)
      case hwA => exact fun x W => below_alloc _ _
      case hSk =>
        rintro xs V l o o' hl ho hc ⟨e, hG⟩
        refine ⟨e, ?_⟩
        unfold GoX at hG ⊢
        rw [World.putObj_heap_other (by omega)]
        exact hG
      case hKg => exact fun x W hW => KpL.of_below (below_alloc _ _) (by omega)
      case hI => exact OwnsX.and (holdsH_owns (Nat.le_refl _) (Nat.lt_succ_self _) id) (OwnsX.and (OwnsX.below (by omega) (by omega) (fun r W W' hr => by rw [hr]; omega)) (OwnsX.and (OwnsX.size _ _ _) (OwnsX.block _ _ _ _ _ _ (fun W W' hr => by omega))))
      case hIx => exact fun _ _ _ _ _ hs _ _ => hs
      case h0 => exact ⟨⟨_, bl4, World.ownsRow_nil _ _ _ _⟩, hbw4, Nat.le_refl _, h64.out⟩
      case hassign =>
        intro l x W K hK
        unfold htEnc
        gi_wp2
        exact hK
      case hbody =>
        rintro l pre x Wb V hCE ⟨⟨v, hv, hown⟩, hBe, hsz, h6⟩ hlen
        try dsimp only
        have hbx := hCE.2 Wb.heap.size _ _ _ (World.alloc_heap_new Wb (.cells #[.int .i64 x.1, .int .i64 x.2] 61))
        have k0 : V.cell? ⟨Wb.heap.size, 0, none⟩ = some (.int .i64 x.1) := by simp [World.cell?, hbx]
        have k1 : V.cell? ⟨Wb.heap.size, 1, none⟩ = some (.int .i64 x.2) := by simp [World.cell?, hbx]
        have k2 : Wb.heap.size < V.heap.size := (Array.getElem?_eq_some_iff.1 hbx).1
        obtain ⟨m, hm⟩ : ∃ m, pre.length = m := ⟨_, rfl⟩
        have hml : m ≤ 1000000001 := by have := HFL.out; omega
        unfold OwnH at hown
        rw [hm] at hown
        have HMM := Lib.hid hm
        clear hm
        obtain ⟨av, cv, rfl, hcv, hsl⟩ := SlK.own hown
        have c2 := hv.cell
        have hbl := hv.lt
        have H6 := Lib.hid h6
        clear h6 hbx
        gi_wp2_with (gi_at_builtin; refine wpListIn_append_slK _ rfl _ _ 45 rfl (g + 1) 61 i0 (.agg #[.int .i64 0, .int .i64 0]) 2 16 Tryz.underlying45 hi hz0 hz1 hz2 rfl (by decide) _ _ _ rfl (hown.alloc _) (some ⟨V.heap.size, 0, none⟩) 1 1 [.int .i64 x.1, .int .i64 x.2] rfl (slk_hit V x) (by simp [Value.oneCell']) (by unfold maxLen; omega) (by omega) (by simp; omega) ?_; intro v' w5 hown' hgrow hat; obtain ⟨g', cap', rfl⟩ := ownsRow_succ hown'; obtain ⟨b1, b2, b3, b4, b5⟩ := hv.appended (of_decide_eq_true (by kernel_rfl)) hown (by omega) (Nat.le_refl _) hown' hgrow; have d1 := b1.cell; have d2 := b1.frozen; have d3 := b1.lt; have hkp := kpl_append hv b1 hgrow hat hown')
        refine ⟨b4.from _, hkp, ⟨_, b2, ?_⟩, hBe.trans (b5.mono (by omega)), Nat.le_trans hsz (by have := b5.size; simpa using this), (b5.block _ (by omega)).trans H6.out⟩
        unfold OwnH
        rw [List.length_append, HMM.out, hcells_append]
        exact b3
      case hstop => exact fun _ _ _ _ _ _ h _ => h.elim
      case hdone =>
        rintro D zs V hD ⟨rfl, hG⟩ ⟨⟨v, hv, hown⟩, hBe, hsz, h6⟩ hD2
        obtain ⟨q0, q1, q2, q3, q4, q5⟩ := hG.cells
        have c2 := hv.cell
        have c3 := hv.lt
        have r0 : V.cell? ⟨w.heap.size + 1, 0, none⟩ = some (.int .i64 0) := by simp [World.cell?, h6]
        have r1 : V.cell? ⟨w.heap.size + 1, 1, none⟩ = some (.int .i64 0) := by simp [World.cell?, h6]
        have r2 : V.frozen? ⟨w.heap.size + 1, 0, none⟩ = false := by simp [World.frozen?, h6]
        have r3 : V.frozen? ⟨w.heap.size + 1, 1, none⟩ = false := by simp [World.frozen?, h6]
        have H6 := Lib.hid h6
        clear h6
        go_wp2_with fail
        go_region
        go_wp2
        obtain ⟨X0, hX0⟩ : ∃ X, X = (V.setCell ⟨w.heap.size + 1, 0, none⟩ (.int .i64 (zf : Int))).setCell ⟨w.heap.size + 1, 1, none⟩ (.int .i64 (at_ + (F.length : Int))) := ⟨_, rfl⟩
        obtain ⟨X, hX⟩ : ∃ X, X = X0.drew := ⟨_, rfl⟩
        rw [← hX0, ← hX]
        have hDk : D ≠ w.heap.size + 1 := by omega
        have x1 : X.heap[D]? = some (.deferred (some [])) := by
          rw [hX, hX0]
          exact (Below.heap_setCell (V.setCell ⟨w.heap.size + 1, 0, none⟩ (.int .i64 (zf : Int))) ⟨w.heap.size + 1, 1, none⟩ _ D hDk).trans ((Below.heap_setCell V ⟨w.heap.size + 1, 0, none⟩ _ D hDk).trans hD2)
        have x0 : X0.heap[w.heap.size + 1]? = some (.cells #[.int .i64 (zf : Int), .int .i64 (at_ + (F.length : Int))] 88 (0, 0)) := by
          rw [hX0]
          have hz3 := set_at (i := 1) (set_at (i := 0) H6.out (.int .i64 (zf : Int))) (.int .i64 (at_ + (F.length : Int)))
          simpa using hz3
        have x2 : X.heap[w.heap.size + 1]? = some (.cells #[.int .i64 (zf : Int), .int .i64 (at_ + (F.length : Int))] 88 (0, 0)) := by
          rw [hX]
          exact x0
        have hBX : RowKit.Below w.heap.size w X0 := by rw [hX0]; exact (hBe.setCell (by show w.heap.size ≤ w.heap.size + 1; omega) _).setCell (by show w.heap.size ≤ w.heap.size + 1; omega) _
        have x3 : RowKit.Below w.heap.size w X := hBX.trans (by rw [hX]; exact (bel_drewN X0 1).mono hBX.size)
        have x4 : OwnH X w.heap.size v zs := by
          unfold OwnH at hown ⊢
          have h1 := (hown.kept (grown_set2 V (w.heap.size + 1) 0 (.int .i64 (zf : Int))) (.inr (fun e => by have := (row_lt hown _ e).1; omega)))
          have h2 := (h1.kept (grown_set2 _ (w.heap.size + 1) 1 (.int .i64 (at_ + (F.length : Int)))) (.inr (fun e => by have := (row_lt h1 _ e).1; omega)))
          rw [← hX0] at h2
          have h3 := own_below_ h2 (bel_drewN X0 1)
          rw [hX]
          exact row_lower h3 (by omega)
        clear hX0 hX
        refine endM rfl x1 (results_scan3 rfl rfl ((World.putObj_heap_other (Ne.symm hDk)).trans x2)) ⟨v, ?_, ?_, put_below x3 (by omega) (Nat.le_refl _) _⟩
        · rw [HFE.out, HZF.out]
          rfl
        · rw [HFE.out, HHE.out]
          unfold OwnH at x4 ⊢
          refine x4.kept (grownBy_putObj' X D _) ?_
          rcases x4.2 with ⟨rfl, _⟩ | ⟨g', cap, cur, rfl, _, hgb, _⟩
          · exact .inl rfl
          · refine .inr fun e => ?_
            have e' : g' = D := by simpa [Value.ownBlock] using e
            rw [e', x1] at hgb
            cases hgb
end Go.Proofs.YtbiinfnekhhfkaaGreat

/- Streams (layer 14): Feed that may not be, of no machine; All; walked. Printed by exp.py. -/


namespace Go.Proofs.YtbiinfnekhhfkaaGreat
open Go.RowKit Go.Sort
set_option linter.unusedVariables false
set_option linter.unusedSimpArgs false

theorem scanH_len {fold : Bool} {ws : List (List Int)} : ∀ (b : List Int) (z : Nat) (at_ : Int), z < (nodesL ws).length → (scanH fold ws z at_ b).length ≤ (nodesL ws).length * b.length
  | [], z, at_, _ => by simp [scanH]
  | c :: b, z, at_, hz => by
    have hx : (nodesL ws)[z]? = some (nodesL ws)[z] := List.getElem?_eq_getElem hz
    have hn := (List.getElem?_eq_some_iff.1 (nextZ_at (fold := fold) hx c).1).1
    have ih := scanH_len (fold := fold) b (nextZ fold ws z c) (at_ + 1) hn
    have h9 := words9_len ws (nextZ fold ws z c)
    simp only [scanH, List.length_append, List.length_map, List.length_cons]
    rw [Nat.mul_succ]
    omega

/-- May bytes come? What is told then. -/
def fdOK (wss : List (List Int)) (z at_ : Int) (F : List Int) : Bool := scanR (nodesL wss).length z at_ && decide (at_ + F.length ≤ 4611686020574871551)
def fdZ (fold : Bool) (wss : List (List Int)) (z at_ : Int) (F : List Int) : Int := if fdOK wss z at_ F = true then (feedZ fold wss z.toNat F : Nat) else z
def fdA (wss : List (List Int)) (z at_ : Int) (F : List Int) : Int := if fdOK wss z at_ F = true then at_ + F.length else at_
def fdH (fold : Bool) (wss : List (List Int)) (z at_ : Int) (F : List Int) : List HitP := if fdOK wss z at_ F = true then scanH fold wss z.toNat at_ F else []
def fdE (wss : List (List Int)) (z at_ : Int) (F : List Int) : Int := if fdOK wss z at_ F = true then 0 else 2

set_option maxRecDepth 100000 in
set_option maxHeartbeats 4000000 in
theorem right14_nil (z at_ : Int) (w : World) : Calls Tryz.prog 57 #[.pointer none, scV z at_] w fun e w' => e = .returned (.bool false) ∧ Below w.heap.size w w' := by
  obtain ⟨W, hW⟩ : ∃ W, W = w.alloc (.cells #[.int .i64 z, .int .i64 at_] 88) := ⟨_, rfl⟩
  have hB : Below w.heap.size w W := by rw [hW]; exact below_alloc _ _
  go_enter Tryz.func57, Tryz.ntmps57
  go_upto_region 1 with fail
  rw [← hW]
  clear hW
  refine wp_region_noPanic ?_
  refine wp_region_held_drew (S := RowKit.Below W.heap.size W) (by kernel_rfl) (bel_drewN W 1) (fun hS => ?_)
  change wpAnyH _ _ _ _ _ 25 _ _ _
  iterate 3 (refine tkF 24 (v := ?_) ?_ ?_; rotate_left; (· intro V hV; first | (go_simp; done) | (go_simp; with_reducible rfl)); try simp only [Act.put, pA, pB, pC])
  refine tkN 3 ?_
  try simp only [Act.put, pA, pB, pC]
  refine tkN 4 ?_
  try simp only [Act.put, pA, pB, pC]
  refine tkN 5 ?_
  try simp only [Act.put, pA, pB, pC]
  iterate 2 (refine tkF 24 (v := ?_) ?_ ?_; rotate_left; (· intro V hV; first | (go_simp; done) | (go_simp; with_reducible rfl)); try simp only [Act.put, pA, pB, pC])
  refine tkN 8 ?_
  try simp only [Act.put, pA, pB, pC]
  refine tkN 9 ?_
  try simp only [Act.put, pA, pB, pC]
  refine tkN 10 ?_
  try simp only [Act.put, pA, pB, pC]
  refine tkN 11 ?_
  try simp only [Act.put, pA, pB, pC]
  refine tkN 12 ?_
  try simp only [Act.put, pA, pB, pC]
  iterate 2 (refine tkF 24 (v := ?_) ?_ ?_; rotate_left; (· intro V hV; first | (go_simp; done) | (go_simp; with_reducible rfl)); try simp only [Act.put, pA, pB, pC])
  refine tkN 15 ?_
  try simp only [Act.put, pA, pB, pC]
  refine tkN 16 ?_
  try simp only [Act.put, pA, pB, pC]
  refine tkN 17 ?_
  try simp only [Act.put, pA, pB, pC]
  iterate 2 (refine tkF 24 (v := ?_) ?_ ?_; rotate_left; (· intro V hV; first | (go_simp; done) | (go_simp; with_reducible rfl)); try simp only [Act.put, pA, pB, pC])
  refine tkN 20 ?_
  try simp only [Act.put, pA, pB, pC]
  refine tkN 21 ?_
  try simp only [Act.put, pA, pB, pC]
  refine tkN 22 ?_
  try simp only [Act.put, pA, pB, pC]
  iterate 2 (refine tkF 24 (v := ?_) ?_ ?_; rotate_left; (· intro V hV; first | (go_simp; done) | (go_simp; with_reducible rfl)); try simp only [Act.put, pA, pB, pC])
  refine wpAnyH_done (by kernel_rfl) ?_ _
  refine NoPanic.normal ?_
  go_wp2
  go_ret
  exact ⟨rfl, hB.trans (hS.mono hB.size)⟩

/-- A scan that may not be. -/
theorem feed14_run (p : Value) (z at_ : Int) (a : Option Addr) (n cn : Nat) (w : World)
    (hR : ∀ V, Below w.heap.size w V → Calls Tryz.prog 57 #[p, scV z at_] V fun e w' => e = .returned (.bool false) ∧ Below V.heap.size V w') :
    Calls Tryz.prog 55 #[p, scV z at_, .slice a n cn] w fun e w' => e = .returned (.tuple #[scV z at_, .slice none 0 0, .int .i64 2]) ∧ Below w.heap.size w w' := by
  obtain ⟨W, hW⟩ : ∃ W, W = (w.alloc (.cells #[.int .i64 z, .int .i64 at_] 88)).alloc (.cells #[.int .i64 0, .int .i64 0] 88) := ⟨_, rfl⟩
  have hB : Below w.heap.size w W := by rw [hW]; exact ((Below.refl _ _).alloc (Nat.le_refl _) _).alloc (by simp) _
  have hO : Bx w.heap.size [.cells #[.int .i64 z, .int .i64 at_] 88, .cells #[.int .i64 0, .int .i64 0] 88] W := by rw [hW]; exact ((Bx.nil _ w).snoc _ rfl).snoc _ (by simp)
  have HR := Lib.hid (hR W hB)
  have s0 : W.cell? ⟨w.heap.size, 0, none⟩ = some (.int .i64 z) := hO.cell (i := 0) rfl rfl
  have s1 : W.cell? ⟨w.heap.size, 1, none⟩ = some (.int .i64 at_) := hO.cell (i := 0) rfl rfl
  have HO := Lib.hid hO
  clear hR hO
  go_enter Tryz.func55, Tryz.ntmps55
  go_upto_region 1 with fail
  rw [← hW]
  clear hW
  go_upto_region 2 with (go_at_call 57; refine HR.out.mono ?_; rintro e w1 ⟨rfl, hb1⟩)
  have hO1 := HO.out.below hb1
  clear s0 s1 HR
  have s0 : w1.cell? ⟨w.heap.size, 0, none⟩ = some (.int .i64 z) := hO1.cell (i := 0) rfl rfl
  have s1 : w1.cell? ⟨w.heap.size, 1, none⟩ = some (.int .i64 at_) := hO1.cell (i := 0) rfl rfl
  have h6 : w1.heap[w.heap.size + 1]? = some (.cells #[.int .i64 0, .int .i64 0] 88 (0, 0)) := hO1 1 _ rfl
  have r0 : w1.cell? ⟨w.heap.size + 1, 0, none⟩ = some (.int .i64 0) := by simp [World.cell?, h6]
  have r1 : w1.cell? ⟨w.heap.size + 1, 1, none⟩ = some (.int .i64 0) := by simp [World.cell?, h6]
  have r2 : w1.frozen? ⟨w.heap.size + 1, 0, none⟩ = false := by simp [World.frozen?, h6]
  have r3 : w1.frozen? ⟨w.heap.size + 1, 1, none⟩ = false := by simp [World.frozen?, h6]
  have hz3 := set_at (i := 1) (set_at (i := 0) h6 (.int .i64 z)) (.int .i64 at_)
  have HZ3 := Lib.hid hz3
  clear hz3 h6
  go_wp2
  refine bodyPost_ret (results_scan3 rfl rfl (by simpa using HZ3.out)) rfl ?_
  exact ⟨rfl, ((hB.trans (hb1.mono hB.size)).setCell (by show w.heap.size ≤ w.heap.size + 1; omega) _).setCell (by show w.heap.size ≤ w.heap.size + 1; omega) _⟩
theorem feed14_nil (z at_ : Int) (a : Option Addr) (n cn : Nat) (w : World) :
    Calls Tryz.prog 55 #[.pointer none, scV z at_, .slice a n cn] w fun e w' => e = .returned (.tuple #[scV z at_, .slice none 0 0, .int .i64 2]) ∧ Below w.heap.size w w' :=
  feed14_run _ z at_ a n cn w (fun V _ => right14_nil z at_ V)

set_option maxRecDepth 100000 in
set_option maxHeartbeats 8000000 in
theorem feed14_over {W0 : World} {B : Nat} {fold : Bool} {wss : List (List Int)} (z at_ : Int) (a : Option Addr) (n cn : Nat) (css : List (List Int)) (w : World) (h : MUse W0 B fold wss w) (hC : Wds w a n css) (hn : n ≤ 1000000) (hl : ∀ x ∈ css, x.length ≤ 1000000)
    (hr : scanR (nodesL wss).length z at_ = true) (hover : ¬ at_ + css.flatten.length ≤ 4611686020574871551) :
    Calls Tryz.prog 55 #[.pointer (some ⟨B, 0, none⟩), scV z at_, .slice a n cn] w fun e w' => e = .returned (.tuple #[scV z at_, .slice none 0 0, .int .i64 2]) ∧ Below w.heap.size w w' := by
  obtain ⟨W, hW⟩ : ∃ W, W = (w.alloc (.cells #[.int .i64 z, .int .i64 at_] 88)).alloc (.cells #[.int .i64 0, .int .i64 0] 88) := ⟨_, rfl⟩
  have hB : Below w.heap.size w W := by rw [hW]; exact ((Below.refl _ _).alloc (Nat.le_refl _) _).alloc (by simp) _
  have hO : Bx w.heap.size [.cells #[.int .i64 z, .int .i64 at_] 88, .cells #[.int .i64 0, .int .i64 0] 88] W := by rw [hW]; exact ((Bx.nil _ w).snoc _ rfl).snoc _ (by simp)
  have hlW : w.heap.size + 1 < W.heap.size := by rw [hW]; simp
  have HO : Hid (∀ V, RowKit.Below W.heap.size W V → V.cell? ⟨w.heap.size, 0, none⟩ = some (.int .i64 z) ∧ V.cell? ⟨w.heap.size, 1, none⟩ = some (.int .i64 at_) ∧ V.heap[w.heap.size + 1]? = some (.cells #[.int .i64 0, .int .i64 0] 88 (0, 0)) ∧ w.heap.size + 1 < V.heap.size) := fun V hV => by
    have h := hO.below hV
    exact ⟨h.cell (i := 0) rfl rfl, h.cell (i := 0) rfl rfl, h 1 _ rfl, Nat.lt_of_lt_of_le hlW hV.size⟩
  have HC := Lib.hid (hC.below hB)
  have HCL := Lib.hid hC.len
  have HL := Lib.hid hl
  have HB := Lib.hid hB
  have hat : 0 ≤ at_ ∧ at_ ≤ 4611686020574871551 := by have := of_decide_eq_true hr; exact this.2
  have HR := Lib.hid (right14_any z at_ W (h.below hB))
  rw [hr] at HR
  have HOV := Lib.hid hover
  clear h hC hl hB hO hr hover
  go_enter Tryz.func55, Tryz.ntmps55
  go_upto_region 1 with fail
  rw [← hW]
  clear hW
  obtain ⟨s0, s1, s2, s3⟩ := HO.out W (Below.refl _ _)
  go_upto_region 3 with (go_at_call 57; refine HR.out.mono ?_; rintro e w1 ⟨rfl, hb1⟩)
  clear s0 s1 s2 s3 HR
  obtain ⟨s0, s1, s2, s3⟩ := HO.out w1 hb1
  go_upto_region 5 with fail
  clear s0 s1 s2 s3
  go_loopw [9, 25] (fun s9 s25 wr => ∃ i : Nat, i ≤ n ∧ s25 = .int .i64 (i : Int) ∧ s9 = .int .i64 (4611686020574871551 - at_ - ((css.take i).flatten.length : Int)) ∧ at_ + ((css.take i).flatten.length : Int) ≤ 4611686020574871551 ∧ Hid (RowKit.Below W.heap.size W wr)) (fun _ s _ => n - (intOf s).toNat)
  case atStart => exact ⟨0, Nat.zero_le _, rfl, by simp, by simp; omega, hb1⟩
  case round =>
    clear hb1
    obtain ⟨i, hi', rfl, rfl, hle, HBr⟩ := hrel
    by_cases hin : i < n
    · have hd : decide ((i : Int) < (n : Int)) = true := by simp; omega
      obtain ⟨bb, off, a', lx, cx, x, rfl, hbl', hcell, hx, hX, hlc⟩ := (HC.out.below HBr.out).at_ hin
      obtain ⟨g1, g2⟩ := sum_prefix hx
      rw [hX.len] at g1
      have hlx : lx ≤ 1000000 := by have := HL.out x (List.mem_of_getElem? hx); rw [hX.len] at this; exact this
      have i1 : (0 : Int) ≤ (i : Int) := by omega
      have i2 : (i : Int) < (n : Int) := by omega
      obtain ⟨k, hk⟩ : ∃ k : Nat, (css.take i).flatten.length = k := ⟨_, rfl⟩
      rw [hk] at g1 hle ⊢
      by_cases hov : at_ + (k : Int) + lx ≤ 4611686020574871551
      · have d2 : decide (4611686020574871551 - at_ - (k : Int) < (lx : Int)) = false := by simp; omega
        have e9 : Hid (4611686020574871551 - at_ - (k : Int) - (lx : Int) = 4611686020574871551 - at_ - ((css.take (i + 1)).flatten.length : Int)) := by rw [Hid, g1]; omega
        have e8 : Hid (at_ + ((css.take (i + 1)).flatten.length : Int) ≤ 4611686020574871551) := by rw [Hid, g1]; omega
        clear hx hX g1 g2 hk
        go_wp2_with fail
        go_roundw
        case rel => exact ⟨i + 1, by omega, by go_num, by rw [← e9.out], e8.out, HBr⟩
        case measure => simp [intOf]; omega
      · have d2 : decide (4611686020574871551 - at_ - (k : Int) < (lx : Int)) = true := by simp; omega
        obtain ⟨s0, s1, h6, s3⟩ := HO.out wr HBr.out
        have r0 : wr.cell? ⟨w.heap.size + 1, 0, none⟩ = some (.int .i64 0) := by simp [World.cell?, h6]
        have r1 : wr.cell? ⟨w.heap.size + 1, 1, none⟩ = some (.int .i64 0) := by simp [World.cell?, h6]
        have r2 : wr.frozen? ⟨w.heap.size + 1, 0, none⟩ = false := by simp [World.frozen?, h6]
        have r3 : wr.frozen? ⟨w.heap.size + 1, 1, none⟩ = false := by simp [World.frozen?, h6]
        have hz3 := set_at (i := 1) (set_at (i := 0) h6 (.int .i64 z)) (.int .i64 at_)
        have HZ3 := Lib.hid hz3
        clear hx hX g1 g2 hk hz3 h6 hov
        go_wp2
        refine bodyPost_ret (results_scan3 rfl rfl (by simpa using HZ3.out)) rfl ?_
        exact ⟨rfl, ((HB.out.trans (HBr.out.mono HB.out.size)).setCell (by show w.heap.size ≤ w.heap.size + 1; omega) _).setCell (by show w.heap.size ≤ w.heap.size + 1; omega) _⟩
    · obtain rfl : n = i := by omega
      rw [List.take_of_length_le (by rw [HCL.out]; exact Nat.le_refl _)] at hle
      exact absurd HOV.out (by omega)

theorem feed14_uni {W0 : World} {B : Nat} {fold : Bool} {wss : List (List Int)} (z at_ : Int) (a : Option Addr) (n cn : Nat) (css : List (List Int)) (w : World) (h : MUse W0 B fold wss w) (hC : Wds w a n css) (hn : n ≤ 1000000) (hl : ∀ x ∈ css, x.length ≤ 1000000)
    (hT : css.flatten.length ≤ 1000000) (hN : (nodesL wss).length ≤ 1000) (hi6 : ∀ (node : Int), ∀ v ∈ words13 wss node, I64 v) :
    Calls Tryz.prog 55 #[.pointer (some ⟨B, 0, none⟩), scV z at_, .slice a n cn] w fun e w' => ∃ v, e = .returned (.tuple #[scV (fdZ fold wss z at_ css.flatten) (fdA wss z at_ css.flatten), v, .int .i64 (fdE wss z at_ css.flatten)]) ∧ OwnH w' w.heap.size v (fdH fold wss z at_ css.flatten) ∧ Below w.heap.size w w' := by
  by_cases hok : fdOK wss z at_ css.flatten = true
  · unfold fdZ fdA fdE fdH
    rw [if_pos hok, if_pos hok, if_pos hok, if_pos hok]
    unfold fdOK at hok
    rw [Bool.and_eq_true] at hok
    obtain ⟨h1, h2⟩ := hok
    have h2 := of_decide_eq_true h2
    obtain ⟨⟨h3, h4⟩, h5, h6⟩ := of_decide_eq_true h1
    obtain ⟨y, rfl⟩ : ∃ y : Nat, z = (y : Int) := ⟨z.toNat, by omega⟩
    rw [Int.toNat_natCast]
    have hF := scanH_len (fold := fold) css.flatten y at_ (by omega : y < (nodesL wss).length)
    have hF2 : (nodesL wss).length * css.flatten.length ≤ 1000 * 1000000 := Nat.mul_le_mul hN hT
    exact feed14_yes y at_ a n cn css w h hC hn hl (by omega) h5 h2 hi6 (by omega)
  · unfold fdZ fdA fdE fdH
    rw [if_neg hok, if_neg hok, if_neg hok, if_neg hok]
    have key : Calls Tryz.prog 55 #[.pointer (some ⟨B, 0, none⟩), scV z at_, .slice a n cn] w fun e w' => e = .returned (.tuple #[scV z at_, .slice none 0 0, .int .i64 2]) ∧ Below w.heap.size w w' := by
      cases hr : scanR (nodesL wss).length z at_ with
      | false => exact feed14_run _ z at_ a n cn w (fun V hV => by have h := right14_any z at_ V (h.below hV); rw [hr] at h; exact h)
      | true =>
        refine feed14_over z at_ a n cn css w h hC hn hl hr (fun hle => hok ?_)
        unfold fdOK
        rw [hr, decide_eq_true hle]
        rfl
    refine key.mono ?_
    rintro e w' ⟨rfl, hb⟩
    exact ⟨_, rfl, World.ownsRow_nil _ _ _ _, hb⟩
end Go.Proofs.YtbiinfnekhhfkaaGreat

/- The document's table (layer 11): the node of the longest end; walked. -/


namespace Go.Proofs.YtbiinfnekhhfkaaGreat
open Go.RowKit Go.Sort
set_option linter.unusedVariables false
set_option linter.unusedSimpArgs false

set_option maxHeartbeats 1000000 in
theorem text11_any (fold : Bool) (a : Option Addr) (la ca : Nat) (xs : List Int) (w : World) (hA : Bys w a la xs) (hla : la ≤ 1000000) :
    Calls Tryz.prog 86 #[.bool fold, .slice a la ca] w fun e w' => ∃ a1 c1, e = .returned (.slice a1 la c1) ∧ la ≤ c1 ∧ Bys w' a1 la (foldL fold xs) ∧ Below w.heap.size w w' := by
  have hbd := foldL_bd (fold := fold) hA.2
  obtain ⟨i0, hi, hz0, hz1, hz2⟩ := info_parts u8_info
  cases fold
  · have hA1 := hA.below ((Below.refl _ _).alloc (Nat.le_refl _) (.cells #[] 5))
    have hown0 : OwnB (w.alloc (.cells #[] 5)) w.heap.size (.slice (some ⟨w.heap.size, 0, none⟩) 0 0) 0 [] := World.ownsRow_lit w #[] 0 (Nat.le_refl _) (Nat.zero_le _) rfl
    go_enter Tryz.func86, Tryz.ntmps86
    go_wp2_with (at_builtin; refine wpList_append_sl1 rfl _ _ 25 rfl u8_one w.heap.size 5 i0 (.int .u8 0) 1 Tryz.underlying25 hi hz0 hz1 hz2 rfl _ 0 [] rfl hown0 a la ca xs rfl hA1.1 (by unfold maxLen; omega) (by omega) (by simp) ?_; intro v' w5 hown' hgrow hat)
    go_ret
    have ho : OwnB w5 w.heap.size v' la (foldL false xs) := by simpa [foldL, OwnB] using hown'
    obtain ⟨a1, c1, rfl, hc, h⟩ := own_bys ho hbd
    exact ⟨a1, c1, rfl, hc, h, ((Below.refl _ _).alloc (Nat.le_refl _) _).grown hgrow (by simp) (fun k e => by cases e; exact Nat.le_refl _)⟩
  · go_enter Tryz.func86, Tryz.ntmps86
    go_wp2_with fail
    refine (rfolded_any a la ca xs w hA hla).mono ?_
    rintro e w1 ⟨v, rfl, hown, hb⟩
    have ho : OwnB w1 w.heap.size v la (foldL true xs) := by simpa [foldL, OwnB] using hown
    obtain ⟨a1, c1, rfl, hc, h⟩ := own_bys ho hbd
    go_wp2
    go_ret
    exact ⟨a1, c1, rfl, hc, h, hb⟩

end Go.Proofs.YtbiinfnekhhfkaaGreat

/- Streams (layer 14): the document's Join, New, Right; walked. -/




namespace Go.Proofs.YtbiinfnekhhfkaaGreat
open Go.RowKit Go.Sort
set_option linter.unusedVariables false
set_option linter.unusedSimpArgs false

set_option maxRecDepth 100000 in
set_option maxHeartbeats 4000000 in
theorem join03_any (a : Option Addr) (n cn : Nat) (css : List (List Int)) (w : World) (hC : Wds w a n css) (hn : n ≤ 1000000) (hT : css.flatten.length ≤ 1000000000) :
    Calls Tryz.prog 64 #[.slice a n cn] w fun e w' => ∃ (a1 : Option Addr) (c1 : Nat), e = .returned (.slice a1 css.flatten.length c1) ∧ css.flatten.length ≤ c1 ∧ Bys w' a1 css.flatten.length css.flatten ∧ Below w.heap.size w w' := by
  obtain ⟨iU, hj, hy0, hy1, hy2⟩ := info_parts u8_info
  have HCL := Lib.hid hC.len
  have HC := Lib.hid hC
  have hbt : ∀ x ∈ css.flatten, 0 ≤ x ∧ x ≤ 255 := fun x hx => by
    obtain ⟨l, hl, hx⟩ := List.mem_flatten.1 hx
    exact hC.bytes l hl x hx
  have HBT := Lib.hid hbt
  clear hC hbt
  go_enter Tryz.func64, Tryz.ntmps64
  go_wp2
  go_loopw [3, 4] (fun v s4 wr => ∃ i : Nat, i ≤ n ∧ s4 = .int .i64 (i : Int) ∧ Hid (RowKit.Below w.heap.size w wr) ∧ OwnB wr w.heap.size v (css.take i).flatten.length (css.take i).flatten) (fun _ s _ => n - (intOf s).toNat)
  case atStart => exact ⟨0, Nat.zero_le _, rfl, Below.refl _ _, World.ownsRow_nil _ _ _ _⟩
  case round =>
    obtain ⟨i, hi, rfl, HBr, hown⟩ := hrel
    by_cases hin : i < n
    · have hd : decide ((i : Int) < (n : Int)) = true := by simp; omega
      obtain ⟨bb, off, a', lx, cx, x, rfl, hbl', hcell, hx, hX, hlc⟩ := (HC.out.below HBr.out).at_ hin
      obtain ⟨g1, g2⟩ := sum_prefix hx
      have hxl := hX.len
      rw [hxl] at g1
      have i1 : (0 : Int) ≤ (i : Int) := by omega
      have i2 : (i : Int) < (n : Int) := by omega
      obtain ⟨k, hk⟩ : ∃ k : Nat, (css.take i).flatten.length = k := ⟨_, rfl⟩
      rw [hk] at g1 hown
      have HX := Lib.hid hx
      have HK := Lib.hid hk
      have HG1 := Lib.hid g1
      have hb2 : k + lx ≤ 1000000000 := by omega
      have hsz : w.heap.size ≤ wr.heap.size := HBr.out.size
      clear hx hk g1 g2 hxl
      go_wp2_with (at_builtin; refine wpList_append_sl1 rfl _ _ 25 rfl u8_one w.heap.size 5 iU (.int .u8 0) 1 Tryz.underlying25 hj hy0 hy1 hy2 rfl _ k _ rfl hown a' lx cx x rfl hX.1 (by unfold maxLen; omega) (by omega) hsz ?_; intro v' w5 hown' hgrow hat)
      have hB5 : RowKit.Below w.heap.size w w5 := HBr.out.grown hgrow hsz (fun j hj => (hown.lt j hj).1)
      go_roundw
      case rel =>
        refine ⟨i + 1, by omega, by go_num, hB5, ?_⟩
        unfold OwnB
        rw [HG1.out, flat_step HX.out, List.map_append]
        exact hown'
      case measure => simp [intOf]; omega
    · obtain rfl : n = i := by omega
      have hd : decide ((n : Int) < (n : Int)) = false := by simp
      have HFA : Hid ((css.take n).flatten = css.flatten) := by rw [Hid, List.take_of_length_le (by rw [HCL.out]; exact Nat.le_refl _)]
      rw [HFA.out] at hown
      obtain ⟨a1, c1, rfl, hc, hs⟩ := own_bys hown HBT.out
      go_wp2
      go_ret
      exact ⟨a1, c1, rfl, hc, hs, HBr.out⟩

set_option maxHeartbeats 2000000 in
theorem rnew14_any (frm : Int) (w : World) : Calls Tryz.prog 62 #[.int .i64 frm] w fun e w' => e = .returned (.tuple #[scV 0 (newA frm), .int .i64 (newE frm)]) ∧ Below w.heap.size w w' := by
  obtain ⟨W, hW⟩ : ∃ W, W = w.alloc (.cells #[.int .i64 0, .int .i64 0] 88) := ⟨_, rfl⟩
  have hB : Below w.heap.size w W := by rw [hW]; exact below_alloc _ _
  have hz : W.heap[w.heap.size]? = some (.cells #[.int .i64 0, .int .i64 0] 88 (0, 0)) := by rw [hW]; exact World.alloc_heap_new _ _
  have z0 : W.cell? ⟨w.heap.size, 0, none⟩ = some (.int .i64 0) := by simp [World.cell?, hz]
  have z1 : W.cell? ⟨w.heap.size, 1, none⟩ = some (.int .i64 0) := by simp [World.cell?, hz]
  have y0 : W.frozen? ⟨w.heap.size, 0, none⟩ = false := by simp [World.frozen?, hz]
  have y1 : W.frozen? ⟨w.heap.size, 1, none⟩ = false := by simp [World.frozen?, hz]
  have fin : ∀ a : Int, ((W.setCell ⟨w.heap.size, 0, none⟩ (.int .i64 0)).setCell ⟨w.heap.size, 1, none⟩ (.int .i64 a)).heap[w.heap.size]? = some (.cells #[.int .i64 0, .int .i64 a] 88 (0, 0)) := fun a => by
    have h := set_at (i := 1) (set_at (i := 0) hz (.int .i64 0)) (.int .i64 a)
    simpa using h
  have hB2 : ∀ a : Int, Below w.heap.size w ((W.setCell ⟨w.heap.size, 0, none⟩ (.int .i64 0)).setCell ⟨w.heap.size, 1, none⟩ (.int .i64 a)) := fun a => (hB.setCell (Nat.le_refl _) _).setCell (Nat.le_refl _) _
  have HF := Lib.hid fin
  have HB2 := Lib.hid hB2
  clear fin hB2 hz hB
  by_cases h0 : 0 ≤ frm
  · have d0 : decide (frm < 0) = false := by simp; omega
    by_cases h1 : frm ≤ 4611686018427387904
    · have e1 : newA frm = frm := by unfold newA; rw [if_pos ⟨h0, h1⟩]
      have e2 : newE frm = 0 := by unfold newE; rw [if_pos ⟨h0, h1⟩]
      rw [e1, e2]
      have d1 : decide ((4611686018427387904 : Int) < frm) = false := by simp; omega
      clear e1 e2
      go_enter Tryz.func62, Tryz.ntmps62
      go_upto_region 1 with fail
      rw [← hW]
      clear hW
      go_wp2
      refine bodyPost_ret (results_scan2 rfl rfl (HF.out frm)) rfl ?_
      exact ⟨rfl, HB2.out _⟩
    · have e1 : newA frm = 0 := by unfold newA; rw [if_neg (fun h => h1 h.2)]
      have e2 : newE frm = 2 := by unfold newE; rw [if_neg (fun h => h1 h.2)]
      rw [e1, e2]
      have d1 : decide ((4611686018427387904 : Int) < frm) = true := by simp; omega
      clear e1 e2
      go_enter Tryz.func62, Tryz.ntmps62
      go_upto_region 1 with fail
      rw [← hW]
      clear hW
      go_wp2
      refine bodyPost_ret (results_scan2 rfl rfl (HF.out 0)) rfl ?_
      exact ⟨rfl, HB2.out _⟩
  · have e1 : newA frm = 0 := by unfold newA; rw [if_neg (fun h => h0 h.1)]
    have e2 : newE frm = 2 := by unfold newE; rw [if_neg (fun h => h0 h.1)]
    rw [e1, e2]
    have d0 : decide (frm < 0) = true := by simp; omega
    clear e1 e2
    go_enter Tryz.func62, Tryz.ntmps62
    go_upto_region 1 with fail
    rw [← hW]
    clear hW
    go_wp2
    refine bodyPost_ret (results_scan2 rfl rfl (HF.out 0)) rfl ?_
    exact ⟨rfl, HB2.out _⟩

set_option maxRecDepth 100000 in
set_option maxHeartbeats 4000000 in
theorem rright14_any (fold : Bool) (a : Option Addr) (la ca : Nat) (z at_ : Int) (wss : List (List Int)) (w : World) (hA : Wds w a la wss) (hla : la ≤ 1000000) (hM : ∀ x ∈ wss, x.length ≤ 1000000) :
    Calls Tryz.prog 58 #[.agg (setV fold a la ca), scV z at_] w fun e w' => e = .returned (.bool (rightP fold wss && scanR (nodesL wss).length z at_)) ∧ Below w.heap.size w w' := by
  obtain ⟨W, hW⟩ : ∃ W, W = (w.alloc (.cells (setV fold a la ca) 24)).alloc (.cells #[.int .i64 z, .int .i64 at_] 88) := ⟨_, rfl⟩
  have hB : Below w.heap.size w W := by rw [hW]; exact ((Below.refl _ _).alloc (Nat.le_refl _) _).alloc (by simp) _
  have hO : Bx w.heap.size [.cells (setV fold a la ca) 24, .cells #[.int .i64 z, .int .i64 at_] 88] W := by rw [hW]; exact ((Bx.nil _ w).snoc _ rfl).snoc _ (by simp)
  have hlW : w.heap.size + 1 < W.heap.size := by rw [hW]; simp
  have HO : Hid (∀ V, RowKit.Below W.heap.size W V → V.cell? ⟨w.heap.size, 0, none⟩ = some (.bool fold) ∧ V.cell? ⟨w.heap.size, 1, none⟩ = some (.slice a la ca) ∧ V.cell? ⟨w.heap.size + 1, 0, none⟩ = some (.int .i64 z) ∧ V.cell? ⟨w.heap.size + 1, 1, none⟩ = some (.int .i64 at_) ∧ w.heap.size + 1 < V.heap.size) := fun V hV => by
    have h := hO.below hV
    exact ⟨h.cell (i := 0) rfl rfl, h.cell (i := 0) rfl rfl, h.cell (i := 1) rfl rfl, h.cell (i := 1) rfl rfl, Nat.lt_of_lt_of_le hlW hV.size⟩
  have HB := Lib.hid hB
  have hAW := hA.below hB
  cases hr : rightP fold wss with
  | false =>
    have HM := Lib.hid (rmake7_no fold a la ca wss W hAW hla hM hr)
    rw [Bool.false_and]
    clear hr hO hB hA hAW
    obtain ⟨q0, q1, q2, q3, q4⟩ := HO.out W (Below.refl _ _)
    go_enter Tryz.func58, Tryz.ntmps58
    go_upto_region 1 with fail
    rw [← hW]
    clear hW
    go_wp2_with (go_at_call 19; refine HM.out.mono ?_; rintro e w1 ⟨rfl, hb1⟩)
    go_ret
    have hb := HB.out.trans (hb1.mono HB.out.size)
    exact ⟨rfl, hb.alloc hb.size _⟩
  | true =>
    have HM := Lib.hid (rmake7_yes fold a la ca wss W hAW hr)
    rw [Bool.true_and]
    have HUL := Lib.hid (up_len13 wss)
    obtain ⟨n, hn⟩ : ∃ n, (nodesL wss).length = n := ⟨_, rfl⟩
    rw [hn] at HUL ⊢
    clear hr hO hB hA hAW hn
    obtain ⟨q0, q1, q2, q3, q4⟩ := HO.out W (Below.refl _ _)
    go_enter Tryz.func58, Tryz.ntmps58
    go_upto_region 1 with fail
    rw [← hW]
    clear hW
    go_upto_region 2 with (go_at_call 19; refine HM.out.mono ?_; rintro e w1 ⟨t, rfl, hT, hb1⟩; obtain ⟨ua, un, uc, da, dn, dc, xa, xn, xc, ba, bn, bc⟩ := t; simp only [TV.cells])
    obtain ⟨W2, hW2⟩ : ∃ X, X = w1.alloc (.cells #[.slice ua un uc, .slice da dn dc, .slice xa xn xc, .slice ba bn bc] 34) := ⟨_, rfl⟩
    have hb2 : RowKit.Below W.heap.size W W2 := by rw [hW2]; exact hb1.alloc hb1.size _
    have hO2 : W2.heap[w1.heap.size]? = some (.cells #[.slice ua un uc, .slice da dn dc, .slice xa xn xc, .slice ba bn bc] 34 (0, 0)) := by rw [hW2]; exact World.alloc_heap_new _ _
    rw [← hW2]
    obtain rfl : un = n := by
      have h1 := hT.up.1
      have h2 := HUL.out
      dsimp only at h1
      omega
    clear hW2 hT hb1 HUL q0 q1 q2 q3 q4 HM
    have e0 : W2.cell? ⟨w1.heap.size, 0, none⟩ = some (.slice ua un uc) := by simp [World.cell?, hO2]
    obtain ⟨q0, q1, q2, q3, q4⟩ := HO.out W2 hb2
    have HBF : Hid (RowKit.Below w.heap.size w W2) := HB.out.trans (hb2.mono HB.out.size)
    clear hO2 hb2
    by_cases h0 : 0 ≤ z
    · have d0 : decide ((0 : Int) ≤ z) = true := by simpa using h0
      by_cases h1 : z < (un : Int)
      · have d1 : decide (z < (un : Int)) = true := by simpa using h1
        by_cases h2 : 0 ≤ at_
        · have d2 : decide ((0 : Int) ≤ at_) = true := by simpa using h2
          have e : Hid (scanR un z at_ = decide (at_ ≤ 4611686020574871551)) := by unfold Hid scanR; simp [h0, h1, h2]
          clear h0 h1 h2
          go_wp2
          go_ret
          exact ⟨by rw [e.out]; rfl, HBF.out⟩
        · have d2 : decide ((0 : Int) ≤ at_) = false := by simpa using h2
          have e : Hid (scanR un z at_ = false) := by unfold Hid scanR; simp [h0, h1, h2]
          clear h0 h1 h2
          go_wp2
          go_ret
          exact ⟨by rw [e.out]; rfl, HBF.out⟩
      · have d1 : decide (z < (un : Int)) = false := by simp; omega
        have e : Hid (scanR un z at_ = false) := by unfold Hid scanR; simp [h0, h1]
        clear h0 h1
        go_wp2
        go_ret
        exact ⟨by rw [e.out]; rfl, HBF.out⟩
    · have d0 : decide ((0 : Int) ≤ z) = false := by simpa using h0
      have e : Hid (scanR un z at_ = false) := by unfold Hid scanR; simp [h0]
      clear h0
      go_wp2
      go_ret
      exact ⟨by rw [e.out]; rfl, HBF.out⟩
end Go.Proofs.YtbiinfnekhhfkaaGreat

/- The document's classes (layer 10): of each byte its class; walked. -/


namespace Go.Proofs.YtbiinfnekhhfkaaGreat
open Go.RowKit Go.Sort
set_option linter.unusedVariables false
set_option linter.unusedSimpArgs false

/-- A row of numbers in a variable of 256. -/
def ArrB (W : World) (B : Nat) (l : List Int) : Prop := W.heap[B]? = some (.cells (l.map (Value.int .i64)).toArray 107 (0, 0))
theorem ArrB.lt {W : World} {B : Nat} {l : List Int} (h : ArrB W B l) : B < W.heap.size := (Array.getElem?_eq_some_iff.1 h).1
theorem ArrB.cell {W : World} {B : Nat} {l : List Int} (h : ArrB W B l) {i : Nat} {v : Int} (hv : l[i]? = some v) : W.cell? ⟨B, i, none⟩ = some (.int .i64 v) := by
  rw [cell_of_row W B i _ _ _ h]
  simp [hv]
theorem ArrB.frozen {W : World} {B : Nat} {l : List Int} (h : ArrB W B l) (i : Nat) : W.frozen? ⟨B, i, none⟩ = false := by
  have h2 : W.heap[B]? = some (.cells (l.map (Value.int .i64)).toArray 107 (0, 0)) := h
  simp [World.frozen?, h2]
theorem ArrB.set {W : World} {B : Nat} {l : List Int} (h : ArrB W B l) (i : Nat) (v : Int) : ArrB (W.setCell ⟨B, i, none⟩ (.int .i64 v)) B (l.set i v) := by
  have h2 : W.heap[B]? = some (.cells (l.map (Value.int .i64)).toArray 107 (0, 0)) := h
  unfold ArrB
  rw [setCell_eq_setRow W B i _ _ _ _ h2, setRow_heap W B _ _ _ _ h2]
  simp [List.map_set]
theorem ArrB.below {W V : World} {B : Nat} {l : List Int} (h : ArrB W B l) (hb : Below W.heap.size W V) : ArrB V B l := (hb.block B h.lt).trans h

end Go.Proofs.YtbiinfnekhhfkaaGreat

/- The document's table (layer 11): made; walked. Printed by exp.py. -/





namespace Go.Proofs.YtbiinfnekhhfkaaGreat
open Go.RowKit Go.Sort
set_option linter.unusedVariables false
set_option linter.unusedSimpArgs false

theorem Dv.frozen {W : World} {B : Nat} {L : List Int} {m : Int} {row : Value} (h : Dv W B L m row) (i : Nat) : W.frozen? ⟨B, i, none⟩ = false := by simp [World.frozen?, h.box]
theorem Dv.setMany {W : World} {B : Nat} {L : List Int} {m : Int} {row : Value} (h : Dv W B L m row) (v : Int) : Dv (W.setCell ⟨B, 256, none⟩ (.int .i64 v)) B L v row := by
  refine ⟨?_, h.len⟩
  rw [setCell_eq_setRow W B 256 _ _ _ _ h.box, setRow_heap W B _ _ _ _ h.box]
  have e : (dvC L m row).toArray.setIfInBounds 256 (.int .i64 v) = (dvC L v row).toArray := by
    rw [dvC_eq, dvC_eq, List.setIfInBounds_toArray, List.set_append_right _ _ (by simp [h.len])]
    simp [h.len]
  rw [e]
theorem Dv.setRows {W : World} {B : Nat} {L : List Int} {m : Int} {row : Value} (h : Dv W B L m row) (v : Value) : Dv (W.setCell ⟨B, 257, none⟩ v) B L m v := by
  refine ⟨?_, h.len⟩
  rw [setCell_eq_setRow W B 257 _ _ _ _ h.box, setRow_heap W B _ _ _ _ h.box]
  have e : (dvC L m row).toArray.setIfInBounds 257 v = (dvC L m v).toArray := by
    rw [dvC_eq, dvC_eq, List.setIfInBounds_toArray, List.set_append_right _ _ (by simp [h.len])]
    simp [h.len]
  rw [e]
end Go.Proofs.YtbiinfnekhhfkaaGreat

/- Tries (layer 7): what the law with the document's answers leans on: contracts brought together; two calls of which either may come first. -/




namespace Go.Proofs.YtbiinfnekhhfkaaGreat
open Go.RowKit Go.Sort
set_option linter.unusedVariables false
set_option linter.unusedSimpArgs false

theorem spellT_bd {T : TrieT} {w : World} {a : Option Addr} {n : Nat} (hB : Bys w a n T.byt) {node : Int} {x : List Int} (h : spellT T node = some x) : x.length ≤ 1000 ∧ ∀ y ∈ x, 0 ≤ y ∧ y ≤ 255 := by
  unfold spellT at h
  cases hr : readP T with
  | none => rw [hr] at h; cases h
  | some q =>
    rw [hr] at h
    dsimp only at h
    by_cases h0 : node < 0
    · rw [if_pos h0] at h; cases h
    · rw [if_neg h0] at h
      have := (readR7 (sp := q.1) (ws := q.2) hr).2 _ x h
      subst this
      have := spellR_len T (node.toNat : Int)
      exact ⟨by omega, spellR_bd hB _⟩
/-- The bytes that Spell tells, and whether it tells any. -/
def spB (T : TrieT) (node : Int) : List Int := (spellT T node).getD []
theorem rspell_uni (t : TV) (T : TrieT) (node : Int) (w : World) (hT : Tri w t T) (hb : Bd4 t) :
    Calls Tryz.prog 95 #[.agg t.cells, .int .i64 node] w fun e w' => ∃ a n c, e = .returned (.tuple #[.slice a n c, .bool (spellT T node).isSome]) ∧ Bys w' a n (spB T node) ∧ Below w.heap.size w w' := by
  unfold spB
  cases hs : spellT T node with
  | none =>
    refine (rspell7_no t T node w hT hb hs).mono ?_
    rintro e w' ⟨rfl, h⟩
    exact ⟨none, 0, 0, rfl, Bys.nil _ _, h⟩
  | some x =>
    refine (rspell7_yes t T node x w hT hb hs).mono ?_
    rintro e w' ⟨v, rfl, hv, h⟩
    obtain ⟨a, c, rfl, _, hB⟩ := own_bys hv (spellT_bd hT.byt hs).2
    exact ⟨a, _, c, rfl, hB, h⟩
end Go.Proofs.YtbiinfnekhhfkaaGreat

/- Machines (layer 13): the document's Step and Hits, of a set that may be; walked. Printed by exp.py. -/













namespace Go.Proofs.YtbiinfnekhhfkaaGreat
open Go.RowKit Go.Sort
set_option linter.unusedVariables false
set_option linter.unusedSimpArgs false

theorem bd4_trie {w : World} {t : TV} {wss : List (List Int)} (hT : Tri w t (trieP wss)) (hn : (nodesL wss).length ≤ 400) : Bd4 t := by
  have h1 := hT.up.1
  have h2 := hT.dep.1
  have h3 := hT.wrd.1
  have h4 := hT.byt.len
  simp only [trieP, List.length_map] at h1 h2 h3 h4
  refine ⟨?_, ?_, ?_, ?_⟩ <;> omega

end Go.Proofs.YtbiinfnekhhfkaaGreat

/- A row of hits, parted. -/

namespace Go.Proofs.YtbiinfnekhhfkaaGreat
open Go.RowKit Go.Sort
set_option linter.unusedVariables false
set_option linter.unusedSimpArgs false

theorem Hts.take {w : World} {a : Option Addr} {n : Nat} {l : List HitP} (h : Hts w a n l) {m : Nat} (hm : m ≤ n) : Hts w a m (l.take m) := by
  have hl := h.len
  refine ⟨⟨by rw [hcells_length]; simp; omega, ?_⟩, fun x hx => h.2 x (List.mem_of_mem_take hx)⟩
  by_cases h0 : m = 0
  · exact .inl h0
  · right
    obtain ⟨b, off, rfl, hlt, hcell⟩ := h.1.2.resolve_left (by omega)
    refine ⟨b, off, rfl, hlt, fun i u hu => hcell i u ?_⟩
    have e1 : hcells l = hcells (l.take m) ++ hcells (l.drop m) := by rw [← hcells_append, List.take_append_drop]
    rw [e1, List.getElem?_append_left (List.getElem?_eq_some_iff.1 hu).1]
    exact hu
theorem Hts.drop {w : World} {a : Option Addr} {n : Nat} {l : List HitP} (h : Hts w a n l) {m : Nat} (hm : m ≤ n) : Hts w (a.map (·.add (m * 2))) (n - m) (l.drop m) := by
  have hc := h.cut (lo := m) (m := n - m) (by omega)
  rwa [List.take_of_length_le (by rw [List.length_drop, h.len]; exact Nat.le_refl _)] at hc
theorem Hts.none_ {w : World} {a : Option Addr} {n : Nat} {l : List HitP} (hb : ∀ h ∈ l, I64 h.1 ∧ I64 h.2) (hl : l.length = n) {m : Nat} (hm : m = n) : Hts w a (n - m) (l.drop m) := by
  have : l.drop m = [] := List.drop_eq_nil_of_le (by omega)
  rw [this, show n - m = 0 by omega]
  exact ⟨⟨rfl, .inl rfl⟩, by simp⟩

theorem Hts.rest {V : World} {b : Option Addr} {lb cb n : Nat} {l : List HitP} (h : Hts V b lb l) (hn : n ≤ lb) (hcb : lb ≤ cb) : Hts V (if cb = n then b else Option.map (fun x => x.add (n * 2)) b) (lb - n) (l.drop n) := by
  split
  · exact Hts.none_ h.2 h.len (by omega)
  · exact h.drop hn
end Go.Proofs.YtbiinfnekhhfkaaGreat

/- The document's hits (layer 6): a word's length, which comes ahead, one put among others: walked. -/






namespace Go.Proofs.YtbiinfnekhhfkaaGreat
open Go.RowKit Go.Sort
set_option linter.unusedVariables false
set_option linter.unusedSimpArgs false

set_option maxHeartbeats 1000000 in
theorem rlen6_any (fold : Bool) (a : Option Addr) (la ca : Nat) (k : Int) (wss : List (List Int)) (w : World) (hA : Wds w a la wss) (hla : la ≤ 1000000) :
    Calls Tryz.prog 122 #[.agg (setV fold a la ca), .int .i64 k] w fun e w' => e = .returned (.int .i64 (lenW wss k)) ∧ Below w.heap.size w w' := by
  have HL := Lib.hid hA.len
  have hB0 : Below w.heap.size w (w.alloc (.cells (setV fold a la ca) 24)) := (Below.refl _ _).alloc (Nat.le_refl _) _
  have hA1 := hA.below hB0
  by_cases h0 : 0 ≤ k
  · by_cases h1 : k < la
    · obtain ⟨n, rfl⟩ : ∃ n : Nat, k = n := ⟨k.toNat, by omega⟩
      obtain ⟨bb, off, a', l, c, x, rfl, hbl, hcell, hx, hX, hlc⟩ := hA1.at_ (show n < la by omega)
      have hE : Hid (lenW wss n = l) := by
        unfold Hid lenW
        rw [if_pos ⟨h0, by rw [HL.out]; exact h1⟩, Int.toNat_natCast, hx, Option.getD_some, hX.len]
      clear hx hX hA hA1
      go_enter Tryz.func122, Tryz.ntmps122
      go_wp2
      go_ret
      exact ⟨by rw [hE.out]; rfl, hB0⟩
    · have hE : Hid (lenW wss k = 0) := by
        unfold Hid lenW
        rw [if_neg (by rw [HL.out]; omega)]
      go_enter Tryz.func122, Tryz.ntmps122
      go_wp2
      go_ret
      exact ⟨by rw [hE.out]; rfl, hB0⟩
  · have hE : Hid (lenW wss k = 0) := by
      unfold Hid lenW
      rw [if_neg (by omega)]
    go_enter Tryz.func122, Tryz.ntmps122
    go_wp2
    go_ret
    exact ⟨by rw [hE.out]; rfl, hB0⟩

theorem lessH_1 {wss : List (List Int)} {x y : HitP} (h : x.1 ≠ y.1) : lessH wss x y = decide (x.1 < y.1) := by
  rw [Bool.eq_iff_iff, lessH_iff, decide_eq_true_eq]; omega
theorem lessH_2 {wss : List (List Int)} {x y : HitP} (h : x.1 = y.1) (h2 : lenW wss x.2 ≠ lenW wss y.2) : lessH wss x y = decide (lenW wss y.2 < lenW wss x.2) := by
  rw [Bool.eq_iff_iff, lessH_iff, decide_eq_true_eq]; omega
theorem lessH_3 {wss : List (List Int)} {x y : HitP} (h : x.1 = y.1) (h2 : lenW wss x.2 = lenW wss y.2) : lessH wss x y = decide (x.2 < y.2) := by
  rw [Bool.eq_iff_iff, lessH_iff, decide_eq_true_eq]; omega

set_option maxHeartbeats 2000000 in
theorem rless6_any (fold : Bool) (a : Option Addr) (la ca : Nat) (x y : HitP) (wss : List (List Int)) (w : World) (hA : Wds w a la wss) (hla : la ≤ 1000000) :
    Calls Tryz.prog 93 #[.agg (setV fold a la ca), .agg #[.int .i64 x.1, .int .i64 x.2], .agg #[.int .i64 y.1, .int .i64 y.2]] w fun e w' => e = .returned (.bool (lessH wss x y)) ∧ Below w.heap.size w w' := by
  have hB3 : Below w.heap.size w (((w.alloc (.cells (setV fold a la ca) 24)).alloc (.cells #[.int .i64 x.1, .int .i64 x.2] 61)).alloc (.cells #[.int .i64 y.1, .int .i64 y.2] 61)) :=
    (((Below.refl _ _).alloc (Nat.le_refl _) _).alloc (by simp) _).alloc (by simp; omega) _
  by_cases h1 : x.1 = y.1
  · have hne : ((x.1 : Int) != y.1) = false := by simp [h1]
    have H1 := Lib.hid h1
    clear h1
    obtain ⟨W3, hW3⟩ : ∃ W3, W3 = (((w.alloc (.cells (setV fold a la ca) 24)).alloc (.cells #[.int .i64 x.1, .int .i64 x.2] 61)).alloc (.cells #[.int .i64 y.1, .int .i64 y.2] 61)) := ⟨_, rfl⟩
    have hz : w.heap.size + 1 + 1 < W3.heap.size := by rw [hW3]; simp
    have b0 : W3.heap[w.heap.size]? = some (.cells (setV fold a la ca) 24 (0, 0)) := by
      rw [hW3]; exact (Below.heap_alloc _ _ _ (by simp; omega)).trans ((Below.heap_alloc _ _ _ (by simp)).trans (World.alloc_heap_new _ _))
    have b1 : W3.heap[w.heap.size + 1]? = some (.cells #[.int .i64 x.1, .int .i64 x.2] 61 (0, 0)) := by
      rw [hW3]; exact (Below.heap_alloc _ _ _ (by simp)).trans (alloc_at (by simp) _)
    have b2 : W3.heap[w.heap.size + 1 + 1]? = some (.cells #[.int .i64 y.1, .int .i64 y.2] 61 (0, 0)) := by
      rw [hW3]; exact alloc_at (by simp) _
    have hA2 : ∀ d os, Wds (grow (redrawn W3 d) os) a la wss := fun d os => (hA.below (hW3 ▸ hB3)).below (below_regrown W3 d os)
    have cell : ∀ (n i : Nat) (cs : Array Value) (t : TypeId) (v : Value), n < W3.heap.size → W3.heap[n]? = some (.cells cs t (0, 0)) → cs[i]? = some v → ∀ d os, (grow (redrawn W3 d) os).cell? ⟨n, i, none⟩ = some v := fun n i cs t v hn hb hv d os =>
      ((below_regrown W3 d os).cell (p := ⟨n, i, none⟩) hn).trans (by simp [World.cell?, hb, hv])
    have s0 := cell w.heap.size 0 _ _ (.bool fold) (by omega) b0 rfl
    have s1 := cell w.heap.size 1 _ _ (.slice a la ca) (by omega) b0 rfl
    have x1 := cell (w.heap.size + 1) 1 _ _ (.int .i64 x.2) (by omega) b1 rfl
    have y1 := cell (w.heap.size + 1 + 1) 1 _ _ (.int .i64 y.2) (by omega) b2 rfl
    have HB3 := Lib.hid (hW3 ▸ hB3)
    clear b0 b1 b2 cell hB3 hA
    go_enter Tryz.func93, Tryz.ntmps93
    go_wp2
    rw [← hW3]
    clear hW3
    refine wp_region_quiet_below mixed (by kernel_rfl) ?_
    repeat (go_big_quiet_step (exact grown_below (rlen6_any fold a la ca _ wss _ (hA2 _ _) hla)))
    refine wpQuiet_nil ?_
    rintro _ ⟨⟨dq, osq⟩, rfl⟩
    have hx1 := x1 dq osq
    have hy1 := y1 dq osq
    have hB : Below w.heap.size w (grow (redrawn W3 dq) osq) := HB3.out.trans ((below_regrown W3 dq osq).mono (by omega))
    clear s0 s1 x1 y1 hA2
    by_cases h2 : lenW wss x.2 = lenW wss y.2
    · have hn2 : (lenW wss x.2 != lenW wss y.2) = false := by simp [h2]
      have HE := Lib.hid (lessH_3 H1.out h2)
      clear h2
      go_wp2
      go_ret
      exact ⟨by rw [HE.out]; rfl, hB⟩
    · have hn2 : (lenW wss x.2 != lenW wss y.2) = true := by simp [h2]
      have HE := Lib.hid (lessH_2 H1.out h2)
      clear h2
      go_wp2
      go_ret
      exact ⟨by rw [HE.out]; rfl, hB⟩
  · have hne : ((x.1 : Int) != y.1) = true := by simp [h1]
    have HE := Lib.hid (lessH_1 (wss := wss) h1)
    clear h1
    go_enter Tryz.func93, Tryz.ntmps93
    go_wp2
    go_ret
    exact ⟨by rw [HE.out]; rfl, hB3⟩

set_option maxRecDepth 100000 in
set_option maxHeartbeats 4000000 in
theorem rput_any (fold : Bool) (a b : Option Addr) (la ca lb cb : Nat) (l : List HitP) (h : HitP) (wss : List (List Int)) (w : World) (hA : Wds w a la wss) (hL : Hts w b lb l) (hla : la ≤ 1000000) (hlb : lb ≤ 1000000000) (hcb : lb ≤ cb) :
    Calls Tryz.prog 92 #[.agg (setV fold a la ca), .slice b lb cb, .agg #[.int .i64 h.1, .int .i64 h.2]] w fun e w' => ∃ v, e = .returned v ∧ OwnH w' w.heap.size v (putH wss l h) ∧ Below w.heap.size w w' := by
  obtain ⟨i0, hi, hz0, hz1, hz2⟩ := info_parts hit_info
  have HLN := Lib.hid hL.len
  have hB2 : Below w.heap.size w ((w.alloc (.cells (setV fold a la ca) 24)).alloc (.cells #[.int .i64 h.1, .int .i64 h.2] 61)) :=
    ((Below.refl _ _).alloc (Nat.le_refl _) _).alloc (by simp) _
  have b0 : ((w.alloc (.cells (setV fold a la ca) 24)).alloc (.cells #[.int .i64 h.1, .int .i64 h.2] 61)).heap[w.heap.size]? = some (.cells (setV fold a la ca) 24 (0, 0)) :=
    (Below.heap_alloc _ _ _ (by simp)).trans (World.alloc_heap_new _ _)
  have b1 : ((w.alloc (.cells (setV fold a la ca) 24)).alloc (.cells #[.int .i64 h.1, .int .i64 h.2] 61)).heap[w.heap.size + 1]? = some (.cells #[.int .i64 h.1, .int .i64 h.2] 61 (0, 0)) :=
    alloc_at (by simp) _
  go_enter Tryz.func92, Tryz.ntmps92
  go_upto_block 0 with fail
  go_cut [7] (fun s7 wx => ∃ k : Nat, k ≤ lb ∧ s7 = .int .i64 k ∧ Hid (putN wss l h = k) ∧ Below w.heap.size w wx ∧ wx.heap[w.heap.size + 1]? = some (.cells #[.int .i64 h.1, .int .i64 h.2] 61 (0, 0)))
  case first =>
    go_wp2_with fail
    go_loopw [7] (fun s7 wr => ∃ k : Nat, k ≤ lb ∧ s7 = .int .i64 k ∧ Hid (∀ x ∈ l.drop k, lessH wss h x = true) ∧ Below w.heap.size w wr ∧ wr.heap[w.heap.size]? = some (.cells (setV fold a la ca) 24 (0, 0)) ∧ wr.heap[w.heap.size + 1]? = some (.cells #[.int .i64 h.1, .int .i64 h.2] 61 (0, 0))) (fun i _ => (intOf i).toNat)
    case atStart => exact ⟨lb, Nat.le_refl _, rfl, (by rw [Hid, List.drop_of_length_le (by rw [HLN.out]; exact Nat.le_refl _)]; simp), hB2, b0, b1⟩
    case round =>
      clear hB2 b0 b1
      obtain ⟨k, hk, rfl, HK, hBe, b0, b1⟩ := hrel
      by_cases h0 : 0 < k
      · obtain ⟨j, rfl⟩ : ∃ j, k = j + 1 := ⟨k - 1, by omega⟩
        have hLr := hL.below hBe
        obtain ⟨bb, off, x, rfl, hbl, cx0, cx1, hx, _, _⟩ := hLr.at_ (show j < lb by omega)
        have hz : w.heap.size + 1 < wr.heap.size := (Array.getElem?_eq_some_iff.1 b1).1
        have cell : ∀ (n i : Nat) (cs : Array Value) (t : TypeId) (v : Value), n < wr.heap.size → wr.heap[n]? = some (.cells cs t (0, 0)) → cs[i]? = some v → ∀ d os, (grow (redrawn wr d) os).cell? ⟨n, i, none⟩ = some v := fun n i cs t v hn hb hv d os =>
          ((below_regrown wr d os).cell (p := ⟨n, i, none⟩) hn).trans (by simp [World.cell?, hb, hv])
        have s0 := cell w.heap.size 0 _ _ (.bool fold) (by omega) b0 rfl
        have s1 := cell w.heap.size 1 _ _ (.slice a la ca) (by omega) b0 rfl
        have h0' := cell (w.heap.size + 1) 0 _ _ (.int .i64 h.1) (by omega) b1 rfl
        have h1' := cell (w.heap.size + 1) 1 _ _ (.int .i64 h.2) (by omega) b1 rfl
        have x0 : ∀ d os, (grow (redrawn wr d) os).cell? ⟨bb, off + j * 2, none⟩ = some (.int .i64 x.1) := fun d os => ((below_regrown wr d os).cell (p := ⟨bb, off + j * 2, none⟩) hbl).trans cx0
        have x1 : ∀ d os, (grow (redrawn wr d) os).cell? ⟨bb, off + j * 2 + 1, none⟩ = some (.int .i64 x.2) := fun d os => ((below_regrown wr d os).cell (p := ⟨bb, off + j * 2 + 1, none⟩) hbl).trans cx1
        have hA2 : ∀ d os, Wds (grow (redrawn wr d) os) a la wss := fun d os => (hA.below hBe).below (below_regrown wr d os)
        have HX := Lib.hid hx
        have hjl : j < lb := by omega
        clear cell cx0 cx1 hx h0 hLr
        go_wp2
        refine wp_region_quiet_below mixed (by kernel_rfl) ?_
        repeat (go_big_quiet_step (exact grown_below (rless6_any fold a la ca h x wss _ (hA2 _ _) hla)))
        refine wpQuiet_nil ?_
        rintro _ ⟨⟨dq, osq⟩, rfl⟩
        have hBq := below_regrown wr dq osq
        have hB1 : Below w.heap.size w (grow (redrawn wr dq) osq) := hBe.trans (hBq.mono hBe.size)
        have c0 : (grow (redrawn wr dq) osq).heap[w.heap.size]? = _ := (hBq.block _ (by omega)).trans b0
        have c1 : (grow (redrawn wr dq) osq).heap[w.heap.size + 1]? = _ := (hBq.block _ hz).trans b1
        clear s0 s1 h0' h1' x0 x1 hA2 b0 b1 hBe hBq
        cases e : lessH wss h x with
        | true =>
          have HK2 : Hid (∀ x ∈ l.drop j, lessH wss h x = true) := by
            have hj' : j < l.length := (List.getElem?_eq_some_iff.1 HX.out).1
            have e2 : l.drop j = x :: l.drop (j + 1) := by
              rw [List.drop_eq_getElem_cons hj', (List.getElem?_eq_some_iff.1 HX.out).2]
            rw [Hid, e2]
            intro z hz
            rcases List.mem_cons.1 hz with rfl | hz
            · exact e
            · exact HK.out z hz
          go_wp2
          go_roundw
          case rel => exact ⟨j, by omega, by go_num, HK2, hB1, c0, c1⟩
          case measure => simp [intOf]; try omega
        | false =>
          have HP : Hid (putN wss l h = j + 1) := putN_is (by rw [HLN.out]; exact hk) HK.out (fun z _ hz => by
            rw [Nat.add_sub_cancel, HX.out] at hz
            rw [← Option.some.inj hz]; exact e)
          go_wp2_with fail
          go_meet
          exact ⟨j + 1, hk, by go_num, HP, hB1, c1⟩
      · obtain rfl : k = 0 := by omega
        have HP : Hid (putN wss l h = 0) := putN_is (by omega) HK.out (fun z hz _ => absurd hz (by omega))
        go_wp2
        go_quiet (fail)
        go_wp2_with fail
        go_meet
        exact ⟨0, by omega, by go_num, HP, hBe.trans ⟨rfl, rfl, rfl, Nat.le_refl _, fun _ _ => rfl⟩, b1⟩
  case rest =>
    obtain ⟨k, hk, rfl, HP, hB, c1⟩ := hcut
    clear hB2 b0 b1
    have hT := (hL.below hB).take hk
    have hz : w.heap.size + 1 < wc.heap.size := (Array.getElem?_eq_some_iff.1 c1).1
    go_upto_region 6 with (at_builtin; refine wpList_append_slK rfl _ _ 45 rfl w.heap.size 61 i0 (.agg #[.int .i64 0, .int .i64 0]) 2 16 Tryz.underlying45 hi hz0 hz1 hz2 rfl (by decide) _ _ _ rfl (World.ownsRow_nil wc w.heap.size 61 2) b k cb (hcells (l.take k)) rfl hT.1 (hcells_one _) (by unfold maxLen; omega) (by omega) (by omega) ?_; intro v1 w3 hown1 hgrow1 hat1)
    simp only [Nat.zero_add, List.nil_append] at hown1
    have hB3 : Below w.heap.size w w3 := hB.grown hgrow1 (by omega) (fun j hj => by cases hj)
    have d1 : w3.heap[w.heap.size + 1]? = some (.cells #[.int .i64 h.1, .int .i64 h.2] 61 (0, 0)) := (hgrow1.block _ hz (by intro e; cases e)).trans c1
    have q0 : w3.cell? ⟨w.heap.size + 1, 0, none⟩ = some (.int .i64 h.1) := by simp [World.cell?, d1]
    have q1 : w3.cell? ⟨w.heap.size + 1, 1, none⟩ = some (.int .i64 h.2) := by simp [World.cell?, d1]
    have hs3 := hB3.size
    go_upto_region 7 with (at_builtin; refine wpList_append_own _ rfl _ _ 45 rfl w.heap.size 61 i0 (.agg #[.int .i64 0, .int .i64 0]) 2 16 Tryz.underlying45 hi hz0 hz1 hz2 rfl (by decide) _ _ _ rfl (hown1.alloc _) ⟨w3.heap.size, 0, none⟩ 1 1 [.int .i64 h.1, .int .i64 h.2] rfl rfl (cells_new _ _ (by simp)) (by simp [Value.oneCell']) (by unfold maxLen; omega) (by omega) (by simp; omega) ?_; intro v2 w4 hown2 hgrow2 hnil2)
    have hB4 : Below w.heap.size w w4 := below_append (base := 0) hB3 hown1 hgrow2
    have hR := (hL.below hB4).rest hk hcb
    have hs4 := hB4.size
    have E1 : Hid ((putH wss l h).length = k + 1 + (lb - k)) := by unfold Hid putH; rw [HP.out, List.length_append, List.length_cons, List.length_take, List.length_drop, HLN.out]; omega
    have E2 : Hid (hcells (putH wss l h) = hcells (l.take k) ++ [Value.int .i64 h.1, Value.int .i64 h.2] ++ hcells (l.drop k)) := by unfold Hid putH; rw [HP.out]; simp [hcells, hitE]
    clear q0 q1 hgrow1 hgrow2
    go_wp2_with (at_builtin; refine wpList_append_slK rfl _ _ 45 rfl w.heap.size 61 i0 (.agg #[.int .i64 0, .int .i64 0]) 2 16 Tryz.underlying45 hi hz0 hz1 hz2 rfl (by decide) _ _ _ rfl hown2 (if cb = k then b else Option.map (fun x => x.add (k * 2)) b) (lb - k) (cb - k) (hcells (l.drop k)) rfl hR.1 (hcells_one _) (by unfold maxLen; omega) (by omega) (by omega) ?_; intro v3 w5 hown3 hgrow3 hat3)
    all_goals
      have hB5 : Below w.heap.size w w5 := hB4.grown hgrow3 (by omega) (fun j hj => (hown2.lt j hj).1)
      go_ret
      refine ⟨_, rfl, ?_, hB5⟩
      unfold OwnH
      rw [E1.out, E2.out]
      exact hown3

end Go.Proofs.YtbiinfnekhhfkaaGreat

/- All hits of a text, as the document has them (layer 6): walked. -/


namespace Go.Proofs.YtbiinfnekhhfkaaGreat
open Go.RowKit Go.Sort
set_option linter.unusedVariables false
set_option linter.unusedSimpArgs false

theorem OwnH.below {w w' : World} {base : Nat} {v : Value} {l : List HitP} (h : OwnH w base v l) (hb : Below w.heap.size w w') : OwnH w' base v l := by
  obtain ⟨h1, h2 | ⟨g, cap, cur, e, hg, hh, hr⟩⟩ := h
  · exact ⟨h1, .inl h2⟩
  · exact ⟨h1, .inr ⟨g, cap, cur, e, hg, (hb.block g (Array.getElem?_eq_some_iff.1 hh).1).trans hh, hr⟩⟩
theorem hereD_bd {fold : Bool} {wss : List (List Int)} {frm : Int} {text : List Int} {p n : Nat} (h0 : 0 ≤ frm) (h1 : frm ≤ 4611686018427387904) (hp : p ≤ 1000001) (hn : n ≤ 1000000) : ∀ h ∈ hereD fold wss frm text p n, I64 h.1 ∧ I64 h.2 := by
  intro h hm
  obtain ⟨k, hk, _, rfl⟩ := mem_hereD.1 hm
  unfold I64
  dsimp only
  omega
theorem hereD_le (fold : Bool) (wss : List (List Int)) (frm : Int) (text : List Int) (p n : Nat) : (hereD fold wss frm text p n).length ≤ n := by
  rw [hereD_length]
  have := List.length_filter_le (fun k => stands fold wss text p k) (List.range n)
  simpa using this
theorem occTo_le (fold : Bool) (wss : List (List Int)) (frm : Int) (text : List Int) : ∀ n, (occTo fold wss frm text n).length ≤ n * wss.length
  | 0 => by simp [occTo]
  | n + 1 => by
    have h1 := occTo_le fold wss frm text n
    have h2 := hereD_le fold wss frm text n wss.length
    rw [occTo_succ, List.length_append, Nat.add_mul, Nat.one_mul]
    omega

set_option maxRecDepth 100000 in
set_option maxHeartbeats 8000000 in
theorem rocc_yes (fold : Bool) (a b : Option Addr) (la ca lb cb : Nat) (frm : Int) (text : List Int) (wss : List (List Int)) (w : World) (hA : Wds w a la wss) (hL : Bys w b lb text) (hla : la ≤ 1000) (hlb : lb ≤ 1000000) (hcb : lb ≤ cb) (hM : ∀ x ∈ wss, x.length ≤ 1000000) (hm : mayP fold wss frm = true) :
    Calls Tryz.prog 50 #[.agg (setV fold a la ca), .int .i64 frm, .slice b lb cb] w fun e w' => ∃ v, e = .returned (.tuple #[v, .int .i64 0]) ∧ OwnH w' w.heap.size v (occD fold wss frm text) ∧ Below w.heap.size w w' := by
  obtain ⟨i0, hi, hz0, hz1, hz2⟩ := info_parts hit_info
  have hB0 : Below w.heap.size w (w.alloc (.cells (setV fold a la ca) 24)) := (Below.refl _ _).alloc (Nat.le_refl _) _
  have hnew := World.alloc_heap_new w (.cells (setV fold a la ca) 24)
  obtain ⟨hf0, hf1⟩ := mayP_frm hm
  unfold mayP at hm
  rw [right_eq, decide_eq_true ⟨hf0, hf1⟩, Bool.true_and] at hm
  have HM := Lib.hid hm
  have HWL := Lib.hid hA.len
  have HTL := Lib.hid hL.len
  clear hm
  go_enter Tryz.func50, Tryz.ntmps50
  go_wp2_with fail
  refine (rright_any fold a la ca wss _ (hA.below hB0) (by omega) hM).mono ?_
  rintro e w1 ⟨rfl, hb⟩
  rw [HM.out]
  have hB1 : Below w.heap.size w w1 := hB0.trans (hb.mono (by simp))
  have n1 : w1.heap[w.heap.size]? = some (.cells (setV fold a la ca) 24 (0, 0)) := (hb.block _ (by simp)).trans hnew
  clear hb hnew hB0
  go_wp2
  go_loopw [8, 9, 10, 11] (fun s8 s9 _ _ wr => ∃ (p : Nat) (v : Value), v = s8 ∧ p ≤ lb + 1 ∧ s9 = .int .i64 p ∧ OwnH wr w.heap.size v (occTo fold wss frm text p) ∧ Below w.heap.size w wr ∧ wr.heap[w.heap.size]? = some (.cells (setV fold a la ca) 24 (0, 0))) (fun _ s9 _ _ _ => lb + 1 - (intOf s9).toNat)
  case atStart => exact ⟨0, _, rfl, by omega, rfl, World.ownsRow_nil _ _ _ _, hB1, n1⟩
  case round =>
    clear hB1 n1
    obtain ⟨p, v, rfl, hp, rfl, hown, hBe, n1⟩ := hrel
    have hol := occTo_le fold wss frm text p
    have hom : p * wss.length ≤ 1000001 * 1000 := Nat.mul_le_mul (by omega) (by rw [HWL.out]; exact hla)
    by_cases hlt : p ≤ lb
    · have hd : decide ((p : Int) ≤ lb) = true := by simp; omega
      go_upto_block 2 with fail
      go_cut [10] (fun s10 wx => ∃ (a' : Option Addr) (c' : Nat) (l : List HitP), s10 = .slice a' l.length c' ∧ l.length ≤ c' ∧ Hid (l = hereD fold wss frm text p la) ∧ Hts wx a' l.length l ∧ OwnH wx w.heap.size v (occTo fold wss frm text p) ∧ Below w.heap.size w wx ∧ wx.heap[w.heap.size]? = some (.cells (setV fold a la ca) 24 (0, 0)))
      case first =>
        go_wp2_with fail
        go_loopw [10, 11] (fun s10 s11 wx => ∃ (k : Nat) (a' : Option Addr) (c' : Nat) (l : List HitP), k ≤ la ∧ s11 = .int .i64 k ∧ s10 = .slice a' l.length c' ∧ l.length ≤ c' ∧ Hid (l = hereD fold wss frm text p k) ∧ Hts wx a' l.length l ∧ OwnH wx w.heap.size v (occTo fold wss frm text p) ∧ Below w.heap.size w wx ∧ wx.heap[w.heap.size]? = some (.cells (setV fold a la ca) 24 (0, 0))) (fun _ s11 _ => la - (intOf s11).toNat)
        case atStart => exact ⟨0, none, 0, [], Nat.zero_le _, rfl, rfl, Nat.le_refl _, rfl, ⟨⟨rfl, .inl rfl⟩, by simp⟩, hown, hBe, n1⟩
        case round =>
          clear hown hBe n1
          obtain ⟨k, a', c', l, hk, rfl, rfl, hlc, HH, hts, hown, hBe, n1⟩ := hrel
          have n0 : w.heap.size < wr.heap.size := (Array.getElem?_eq_some_iff.1 n1).1
          have s0 : ∀ d os, (grow (redrawn wr d) os).cell? ⟨w.heap.size, 0, none⟩ = some (.bool fold) := fun d os => ((below_regrown wr d os).cell (p := ⟨w.heap.size, 0, none⟩) n0).trans (by simp [World.cell?, n1])
          have s1 : ∀ d os, (grow (redrawn wr d) os).cell? ⟨w.heap.size, 1, none⟩ = some (.slice a la ca) := fun d os => ((below_regrown wr d os).cell (p := ⟨w.heap.size, 1, none⟩) n0).trans (by simp [World.cell?, n1])
          have t1 : wr.cell? ⟨w.heap.size, 1, none⟩ = some (.slice a la ca) := by simp [World.cell?, n1]
          by_cases hkl : k < la
          · obtain ⟨bb, off, aw, lw, cw, x, rfl, hbl, hcell, hx, hX, hlc2⟩ := (hA.below hBe).at_ hkl
            have hlw : lw ≤ 1000000 := by have := mem_bd hM hx; rw [hX.len] at this; exact this
            have hcell2 : ∀ d os, (grow (redrawn wr d) os).cell? ⟨bb, off + k, none⟩ = some (.slice aw lw cw) := fun d os => ((below_regrown wr d os).cell (p := ⟨bb, off + k, none⟩) hbl).trans hcell
            have hX2 : ∀ d os, Bys (grow (redrawn wr d) os) aw lw x := fun d os => hX.below (below_regrown wr d os)
            have hL2 : ∀ d os, Bys (grow (redrawn wr d) os) b lb text := fun d os => (hL.below hBe).below (below_regrown wr d os)
            have HST : Hid (stands fold wss text p k = atL fold text (p : Int) x) := stands_is hx
            have hdk : decide ((k : Int) < la) = true := by simp; omega
            clear hx hcell
            go_wp2
            refine wp_region_quiet_below mixed (by kernel_rfl) ?_
            repeat (go_big_quiet_step (exact grown_below (rat_any fold b aw lb cb lw cw (p : Int) text x _ (hL2 _ _) (hX2 _ _) hcb hlb hlw (by omega))))
            refine wpQuiet_nil ?_
            rintro _ ⟨⟨dq, osq⟩, rfl⟩
            have hBq := below_regrown wr dq osq
            have hB5 : Below w.heap.size w (grow (redrawn wr dq) osq) := hBe.trans (hBq.mono hBe.size)
            have m1 : (grow (redrawn wr dq) osq).heap[w.heap.size]? = _ := (hBq.block _ n0).trans n1
            have hown5 := hown.below hBq
            have hts5 := hts.below hBq
            have q0 := s0 dq osq
            have q1 := s1 dq osq
            clear s0 s1 t1 hcell2 hX2 hL2 hX n1 hBe hown hts
            obtain ⟨W5, hW5⟩ : ∃ W5, W5 = grow (redrawn wr dq) osq := ⟨_, rfl⟩
            rw [← hW5] at hB5 m1 hown5 hts5 q0 q1 ⊢
            clear hW5 hBq
            cases e : atL fold text (p : Int) x with
            | false =>
              have HH2 : Hid (l = hereD fold wss frm text p (k + 1)) := by rw [Hid, hereD_succ, HST.out, e, HH.out]; rfl
              go_wp2
              go_roundw
              case rel => exact ⟨k + 1, a', c', l, by omega, by go_num, rfl, hlc, HH2, hts5, hown5, hB5, m1⟩
              case measure => simp [intOf]; omega
            | true =>
              have HH2 : Hid (putH wss l (frm + (p : Int), (k : Int)) = hereD fold wss frm text p (k + 1)) := by rw [Hid, hereD_succ, HST.out, e, HH.out]; rfl
              have hll : l.length ≤ 1000000 := by rw [HH.out]; have := hereD_le fold wss frm text p k; omega
              have hb' : ∀ x ∈ putH wss l (frm + (p : Int), (k : Int)), I64 x.1 ∧ I64 x.2 := by rw [HH2.out]; exact hereD_bd hf0 hf1 (by omega) (by omega)
              have HB' := Lib.hid hb'
              have hA5 := hA.below hB5
              clear hb'
              go_wp2_with fail
              refine (rput_any fold _ a' la ca l.length c' l (frm + (p : Int), (k : Int)) wss _ hA5 hts5 (by omega) (by omega) hlc).mono ?_
              rintro e w6 ⟨v6, rfl, hown6, hb6⟩
              obtain ⟨a2, c2, rfl, hc2, hts6⟩ := hown6.hts HB'.out
              have hB6 : Below w.heap.size w w6 := hB5.trans (hb6.mono hB5.size)
              have m6 : w6.heap[w.heap.size]? = _ := (hb6.block _ (Array.getElem?_eq_some_iff.1 m1).1).trans m1
              have hown7 := hown5.below hb6
              clear hown6 hown5 hts5 q0 q1 hb6 m1 hB5 hA5
              go_wp2
              go_roundw
              case rel => exact ⟨k + 1, a2, c2, _, by omega, by go_num, rfl, hc2, HH2, hts6, hown7, hB6, m6⟩
              case measure => simp [intOf]; omega
          · obtain rfl : k = la := by omega
            have hdk : decide ((k : Int) < k) = false := by simp
            go_wp2_with fail
            go_meet
            exact ⟨a', c', l, rfl, hlc, HH, hts, hown, hBe, n1⟩
      case rest =>
        clear hown hBe n1
        obtain ⟨a', c', l, rfl, hlc, HH, hts, hown, hBe, n1⟩ := hcut
        have n0 : w.heap.size < wc.heap.size := (Array.getElem?_eq_some_iff.1 n1).1
        have hll : l.length ≤ 1000000 := by rw [HH.out]; have := hereD_le fold wss frm text p la; omega
        have hne := own_far hown n1 (of_decide_eq_true (by kernel_rfl))
        have HS : Hid (occTo fold wss frm text (p + 1) = occTo fold wss frm text p ++ l) := by rw [Hid, occTo_succ, HWL.out, HH.out]
        obtain ⟨m, hm⟩ : ∃ m, (occTo fold wss frm text p).length = m := ⟨_, rfl⟩
        unfold OwnH at hown
        rw [hm] at hown hol
        have HM2 := Lib.hid hm
        clear hm
        go_wp2_with (at_builtin; refine wpList_append_slK rfl _ _ 45 rfl w.heap.size 61 i0 (.agg #[.int .i64 0, .int .i64 0]) 2 16 Tryz.underlying45 hi hz0 hz1 hz2 rfl (by decide) _ _ _ rfl hown a' l.length c' (hcells l) rfl hts.1 (hcells_one l) (by unfold maxLen; omega) (by omega) hBe.size ?_; intro v' w5 hown' hgrow hat)
        have hB5 : Below w.heap.size w w5 := hBe.grown hgrow hBe.size (fun j hj => (hown.lt j hj).1)
        have n5 : w5.heap[w.heap.size]? = _ := (hgrow.block _ n0 (Ne.symm hne)).trans n1
        go_roundw
        case rel =>
          refine ⟨p + 1, _, rfl, by omega, by go_num, ?_, hB5, n5⟩
          unfold OwnH
          rw [HS.out, List.length_append, HM2.out, hcells_append]
          exact hown'
        case measure => simp [intOf]; omega
    · obtain rfl : p = lb + 1 := by omega
      have HO : Hid (occTo fold wss frm text (lb + 1) = occD fold wss frm text) := by unfold Hid occD; rw [HTL.out]
      rw [HO.out] at hown
      go_wp2
      go_ret2
      exact ⟨_, rfl, hown, hBe⟩

end Go.Proofs.YtbiinfnekhhfkaaGreat
