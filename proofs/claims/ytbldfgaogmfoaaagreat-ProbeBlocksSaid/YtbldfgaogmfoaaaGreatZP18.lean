/- Parts of the proof, one behind the other: QE, Fr, Fs, Fx. No condition but what each theorem states. -/
import Derived.Test.YtbldfgaogmfoaaaGreatRows
import Derived.ProofKit
import Derived.OpenShut
import Derived.ShutString
import Derived.ChangeOld
import Derived.Lib.SmallJoins
import Derived.Deep.Matrix
import Derived.Test.YtbldfgaogmfoaaaGreatZP1
import Derived.Test.YtbldfgaogmfoaaaGreatZP5
import Derived.Test.YtbldfgaogmfoaaaGreatZP9
import Derived.Test.YtbldfgaogmfoaaaGreatZP13
import Derived.Test.YtbldfgaogmfoaaaGreatZP14
import Derived.Test.YtbldfgaogmfoaaaGreatZP15
import Derived.Test.YtbldfgaogmfoaaaGreatZP17
set_option linter.unusedVariables false
set_option linter.unusedSimpArgs false

/- Probes (layer 20): what the document says of xshe in blocks; walked. Printed by gen_qe.py and exp.py. -/

namespace Go.Proofs.YtbldfgaogmfoaaaGreat
open Go.RowKit Go.Sort

theorem w20_a : whH false heW 12 2 [120, 115, 104, 101] = [(14, 1), (14, 0)] ∧ whH false heW 13 2 [115, 104, 101] = [(14, 1), (14, 0)] ∧ whH false heW 9 3 [117, 115, 104, 101] = [] := by decide +kernel
theorem w20_b : slZ false heW 12 2 [120, 115, 104, 101] 0 0 3 = 4 ∧ slD false heW 12 2 [120, 115, 104, 101] 0 0 3 = 3 ∧ slH false heW 12 2 [120, 115, 104, 101] 0 0 3 = [] ∧ slO false heW 12 2 [120, 115, 104, 101] 0 0 3 = false := by decide +kernel
theorem w20_c : slZ false heW 12 2 [120, 115, 104, 101] 4 3 9 = 6 ∧ slD false heW 12 2 [120, 115, 104, 101] 4 3 9 = 4 ∧ slH false heW 12 2 [120, 115, 104, 101] 4 3 9 = [(14, 1), (14, 0)] ∧ slO false heW 12 2 [120, 115, 104, 101] 4 3 9 = true := by decide +kernel
theorem w20_d : slZ false [] 12 2 [120, 115, 104, 101] 0 0 1 = 0 ∧ slD false [] 12 2 [120, 115, 104, 101] 0 0 1 = 0 ∧ slH false [] 12 2 [120, 115, 104, 101] 0 0 1 = [] ∧ slO false [] 12 2 [120, 115, 104, 101] 0 0 1 = false := by decide +kernel
theorem w20_e : prbD false heW 12 2 4 6 4 = true ∧ prbD false heW 0 0 0 6 4 = false ∧ rightP false [] = false := by decide +kernel
theorem i64_0 : ∀ x ∈ ([] : List HitP), I64 x.1 ∧ I64 x.2 := fun x hx => by cases hx
theorem i64_2 : ∀ x ∈ ([(14, 1), (14, 0)] : List HitP), I64 x.1 ∧ I64 x.2 := fun x hx => by
 simp only [List.mem_cons, List.not_mem_nil, or_false] at hx
 rcases hx with rfl | rfl <;> (unfold I64; decide)
theorem i64_4 : ∀ x ∈ ([(14, 1), (14, 0), (14, 1), (14, 0)] : List HitP), I64 x.1 ∧ I64 x.2 := fun x hx => by
 simp only [List.mem_cons, List.not_mem_nil, or_false] at hx
 rcases hx with rfl | rfl | rfl | rfl <;> (unfold I64; decide)
theorem he_whole {W V : World} {p : Option Addr} {fold : Bool} {wss : List (List Int)} (h : Mach20 W p fold wss) (hV : Below W.heap.size W V) (nu st wm : Int) (b : Option Addr) (n c : Nat) (bs : List Int) (hD : Bys V b n bs) (hn : n ≤ 900000) {l : List HitP} {m : Nat} (hl : whH fold wss st wm bs = l) (hb : ∀ x ∈ l, I64 x.1 ∧ I64 x.2) (hm : l.length = m) :
  Calls Tryz.prog 37 #[.pointer p, .agg (blV nu st wm b n c)] V fun e w' => ∃ (a1 : Option Addr) (c1 : Nat), e = .returned (.slice a1 m c1) ∧ Hts w' a1 m l ∧ Below V.heap.size V w' := by
 refine (h.whole hV nu st wm b n c bs hD hn).mono ?_
 rintro e w' ⟨v, rfl, ho, hbw⟩
 rw [hl] at ho
 obtain ⟨a1, c1, rfl, _, hts⟩ := OwnH.hts ho hb
 rw [hm] at hts
 exact ⟨a1, c1, by rw [hm], hts, hbw⟩
theorem he_slice {W V : World} {p : Option Addr} {fold : Bool} {wss : List (List Int)} (h : Mach20 W p fold wss) (hV : Below W.heap.size W V) (nu st wm : Int) (b : Option Addr) (n c : Nat) (bs : List Int) (z d k : Int) (hD : Bys V b n bs) (hn : n ≤ 900000) (hk : -9223372036854775808 ≤ k ∧ k ≤ 9223372036854775807) {l : List HitP} {m : Nat} {z1 d1 : Int} {o1 : Bool}
  (hl : slZ fold wss st wm bs z d k = z1 ∧ slD fold wss st wm bs z d k = d1 ∧ slH fold wss st wm bs z d k = l ∧ slO fold wss st wm bs z d k = o1) (hb : ∀ x ∈ l, I64 x.1 ∧ I64 x.2) (hm : l.length = m) :
  Calls Tryz.prog 31 #[.pointer p, .agg (blV nu st wm b n c), prV z d, .int .i64 k] V fun e w' => ∃ (a1 : Option Addr) (c1 : Nat), e = .returned (.tuple #[prV z1 d1, .slice a1 m c1, .bool o1]) ∧ Hts w' a1 m l ∧ Below V.heap.size V w' := by
 obtain ⟨h1, h2, h3, h4⟩ := hl
 have hs := h.slice V hV nu st wm b n c bs z d k hD hn hk
 rw [h1, h2, h3, h4] at hs
 refine hs.mono ?_
 rintro e w' ⟨v, rfl, ho, hbw⟩
 obtain ⟨a1, c1, rfl, _, hts⟩ := OwnH.hts ho hb
 rw [hm] at hts
 exact ⟨a1, c1, by rw [hm], hts, hbw⟩
theorem he_whoever {W V : World} {p : Option Addr} {fold : Bool} {wss : List (List Int)} (h : Mach20 W p fold wss) (hw : wss.length ≤ 1000000) (hV : Below W.heap.size W V) (a : Option Addr) (n c : Nat) (l : List BlkP) (hL : Bls V a n l) (hn : n ≤ 1000) (hsum : ∀ k, (woH fold wss (l.take k)).length ≤ 1000000000) {r : List HitP} {m : Nat} (hl : woH fold wss l = r) (hb : ∀ x ∈ r, I64 x.1 ∧ I64 x.2) (hm : r.length = m) :
  Calls Tryz.prog 38 #[.pointer p, .slice a n c] V fun e w' => ∃ (a1 : Option Addr) (c1 : Nat), e = .returned (.slice a1 m c1) ∧ Hts w' a1 m r ∧ Below V.heap.size V w' := by
 refine (h.whoever hw hV a n c l hL hn hsum).mono ?_
 rintro e w' ⟨v, rfl, ho, hbw⟩
 rw [hl] at ho
 obtain ⟨a1, c1, rfl, _, hts⟩ := OwnH.hts ho hb
 rw [hm] at hts
 exact ⟨a1, c1, by rw [hm], hts, hbw⟩
theorem bls2 {V : World} {x y : BlkP} (hx : Bys V x.ad x.n x.bs ∧ x.n ≤ 900000) (hy : Bys V y.ad y.n y.bs ∧ y.n ≤ 900000) : Bls (V.alloc (.cells (bcells [x, y]).toArray 60)) (some ⟨V.heap.size, 0, none⟩) 2 [x, y] := by
 have hb := below_alloc V (.cells (bcells [x, y]).toArray 60)
 refine ⟨⟨rfl, .inr ⟨V.heap.size, 0, rfl, by simp, fun i u hu => ?_⟩⟩, fun z hz => ?_⟩
 ·
  have := cells_new (w := V) (bcells [x, y]).toArray 60 rfl i u (by simpa using hu)
  rwa [add_plain] at this
 ·
  simp only [List.mem_cons, List.not_mem_nil, or_false] at hz
  rcases hz with rfl | rfl
  · exact ⟨hx.1.below hb, hx.2⟩
  · exact ⟨hy.1.below hb, hy.2⟩

set_option maxRecDepth 100000 in
set_option maxHeartbeats 16000000 in
theorem wakes20 (w : World) : Calls Tryz.prog 29 #[] w fun e w' => e = .returned (.bool true) ∧ Below w.heap.size w w' := by
 have kc := conv_lit
 obtain ⟨W, hW⟩ : ∃ W, W = (((w.alloc (.cells #[.int .u8 104, .int .u8 101] 5 (2, 3))).alloc (.cells #[.int .u8 115, .int .u8 104, .int .u8 101] 5 (3, 4))).alloc (.cells #[.int .u8 104, .int .u8 101, .int .u8 114] 5 (3, 4))).alloc
   (.cells #[.slice (some ⟨w.heap.size, 0, none⟩) 2 2, .slice (some ⟨w.heap.size + 1, 0, none⟩) 3 3, .slice (some ⟨w.heap.size + 1 + 1, 0, none⟩) 3 3] 25) := ⟨_, rfl⟩
 obtain ⟨hA, hB⟩ := he_row w W hW
 have HM := compile13_use false (some ⟨w.heap.size + 1 + 1 + 1, 0, none⟩) 3 3 heW W hA (by decide) he_len he_beg he_right11
 have HB := Lib.hid hB
 rw [hW] at HM
 have HM := Lib.hid HM
 have HWW := Lib.hid hW
 clear hA hB hW
 go_enter Tryz.func29, Tryz.ntmps29
 go_upto_region 2 with (go_at_call 30; refine HM.out.mono ?_; rintro e w1 ⟨B, rfl, hU⟩)
 rw [← HWW.out] at hU
 have hB1 : RowKit.Below w.heap.size w w1 := HB.out.trans (hU.bel.mono HB.out.size)
 have HM20 := Lib.hid (mach20_use hU he_right11)
 have HN20 := Lib.hid (mach20_nil w1 (fold := false) (wss := []) w20_e.2.2)
 clear hU HM HB HWW

 go_upto_region 4 with fail
 obtain ⟨d, hd⟩ : ∃ k, w1.heap.size = k := ⟨_, rfl⟩
 obtain ⟨V0, hV0⟩ : ∃ X, X = ((((w1.alloc (.cells #[.int .u8 120, .int .u8 115, .int .u8 104, .int .u8 101] 5 (4, 5))).alloc (.cells #[.int .i64 1, .int .i64 12, .int .i64 2, .slice (some ⟨d, 0, none⟩) 4 4] 60)).alloc (.cells #[.int .u8 115, .int .u8 104, .int .u8 101] 5 (3, 4))).alloc (.cells #[.int .i64 1, .int .i64 13, .int .i64 2, .slice (some ⟨d + 1 + 1, 0, none⟩) 3 3] 60)) := ⟨_, rfl⟩
 have hO0 : Bx w1.heap.size [.cells #[.int .u8 120, .int .u8 115, .int .u8 104, .int .u8 101] 5 (4, 5), .cells #[.int .i64 1, .int .i64 12, .int .i64 2, .slice (some ⟨d, 0, none⟩) 4 4] 60, .cells #[.int .u8 115, .int .u8 104, .int .u8 101] 5 (3, 4), .cells #[.int .i64 1, .int .i64 13, .int .i64 2, .slice (some ⟨d + 1 + 1, 0, none⟩) 3 3] 60] V0 := by rw [hV0]; exact ((((Bx.nil _ w1).snoc _ rfl).snoc _ (by simp)).snoc _ (by simp)).snoc _ (by simp)
 have hb0 : RowKit.Below w1.heap.size w1 V0 := by rw [hV0]; exact (((below_alloc w1 _).alloc (by simp) _).alloc (by simp; omega) _).alloc (by simp; omega) _
 rw [hd] at hO0 ⊢
 rw [← hV0]
 clear hV0 kc
 have K4 : Hid (∀ V, RowKit.Below V0.heap.size V0 V → RowKit.Below w1.heap.size w1 V ∧ RowKit.Below w.heap.size w V ∧ (V.cell? ⟨d + 1, 0, none⟩ = some (.int .i64 1) ∧ V.cell? ⟨d + 1, 1, none⟩ = some (.int .i64 12) ∧ V.cell? ⟨d + 1, 2, none⟩ = some (.int .i64 2) ∧ V.cell? ⟨d + 1, 3, none⟩ = some (.slice (some ⟨d, 0, none⟩) 4 4)) ∧ (V.cell? ⟨d + 1 + 1 + 1, 0, none⟩ = some (.int .i64 1) ∧ V.cell? ⟨d + 1 + 1 + 1, 1, none⟩ = some (.int .i64 13) ∧ V.cell? ⟨d + 1 + 1 + 1, 2, none⟩ = some (.int .i64 2) ∧ V.cell? ⟨d + 1 + 1 + 1, 3, none⟩ = some (.slice (some ⟨d + 1 + 1, 0, none⟩) 3 3)) ∧ Bys V (some ⟨d, 0, none⟩) 4 [120, 115, 104, 101] ∧ Bys V (some ⟨d + 1 + 1, 0, none⟩) 3 [115, 104, 101]) := fun V hV => by
  have h := hO0.below hV
  have h1 := hb0.trans (hV.mono hb0.size)
  refine ⟨h1, hB1.trans (h1.mono hB1.size), ⟨h.cell (i := 1) rfl rfl, h.cell (i := 1) rfl rfl, h.cell (i := 1) rfl rfl, h.cell (i := 1) rfl rfl⟩, ⟨h.cell (i := 3) rfl rfl, h.cell (i := 3) rfl rfl, h.cell (i := 3) rfl rfl, h.cell (i := 3) rfl rfl⟩, ⟨⟨rfl, .inr ⟨d, 0, rfl, (Array.getElem?_eq_some_iff.1 (h 0 _ rfl)).1, fun i x hx => ?_⟩⟩, by decide⟩, ⟨⟨rfl, .inr ⟨d + 1 + 1, 0, rfl, (Array.getElem?_eq_some_iff.1 (h 2 _ rfl)).1, fun i x hx => ?_⟩⟩, by decide⟩⟩
  ·
   match i, hx with
   | 0, hx => cases hx; exact h.cell (i := 0) rfl rfl
   | 1, hx => cases hx; exact h.cell (i := 0) rfl rfl
   | 2, hx => cases hx; exact h.cell (i := 0) rfl rfl
   | 3, hx => cases hx; exact h.cell (i := 0) rfl rfl
   | n + 4, hx => cases hx
  ·
   match i, hx with
   | 0, hx => cases hx; exact h.cell (i := 2) rfl rfl
   | 1, hx => cases hx; exact h.cell (i := 2) rfl rfl
   | 2, hx => cases hx; exact h.cell (i := 2) rfl rfl
   | n + 3, hx => cases hx
 clear hO0 hb0 hB1 hd
 obtain ⟨f0, f1, f2, f3, f4, f5⟩ := K4.out V0 (Below.refl _ _)
 obtain ⟨p0, p1, p2, p3⟩ := f2
 obtain ⟨r0, r1, r2, r3⟩ := f3
 have HC := Lib.hid (he_whole HM20.out f0 1 12 2 (some ⟨d, 0, none⟩) 4 4 [120, 115, 104, 101] f4 (by decide) w20_a.1 i64_2 rfl)
 go_upto_region 5 with (go_at_call 37; refine HC.out.mono ?_; rintro e u4 ⟨a4, c4, rfl, hs4, hb4⟩)
 clear f0 f1 f4 f5 p0 p1 p2 p3 r0 r1 r2 r3
 clear HC
 have K5 : Hid (∀ V, RowKit.Below u4.heap.size u4 V → RowKit.Below w1.heap.size w1 V ∧ RowKit.Below w.heap.size w V ∧ (V.cell? ⟨d + 1, 0, none⟩ = some (.int .i64 1) ∧ V.cell? ⟨d + 1, 1, none⟩ = some (.int .i64 12) ∧ V.cell? ⟨d + 1, 2, none⟩ = some (.int .i64 2) ∧ V.cell? ⟨d + 1, 3, none⟩ = some (.slice (some ⟨d, 0, none⟩) 4 4)) ∧ (V.cell? ⟨d + 1 + 1 + 1, 0, none⟩ = some (.int .i64 1) ∧ V.cell? ⟨d + 1 + 1 + 1, 1, none⟩ = some (.int .i64 13) ∧ V.cell? ⟨d + 1 + 1 + 1, 2, none⟩ = some (.int .i64 2) ∧ V.cell? ⟨d + 1 + 1 + 1, 3, none⟩ = some (.slice (some ⟨d + 1 + 1, 0, none⟩) 3 3)) ∧ Bys V (some ⟨d, 0, none⟩) 4 [120, 115, 104, 101] ∧ Bys V (some ⟨d + 1 + 1, 0, none⟩) 3 [115, 104, 101] ∧ Hts V a4 2 [(14, 1), (14, 0)]) := fun V hV => by
  obtain ⟨f0, f1, f2, f3, f4, f5⟩ := K4.out V (hb4.trans (hV.mono hb4.size))
  exact ⟨f0, f1, f2, f3, f4, f5, hs4.below hV⟩
 clear hb4 K4
 clear hs4
 obtain ⟨f0, f1, f2, f3, f4, f5, f6⟩ := K5.out u4 (Below.refl _ _)
 obtain ⟨p0, p1, p2, p3⟩ := f2
 obtain ⟨r0, r1, r2, r3⟩ := f3
 have HC := Lib.hid (he_whole HM20.out f0 1 13 2 (some ⟨d + 1 + 1, 0, none⟩) 3 3 [115, 104, 101] f5 (by decide) w20_a.2.1 i64_2 rfl)
 go_upto_region 6 with (go_at_call 37; refine HC.out.mono ?_; rintro e u5 ⟨a5, c5, rfl, hs5, hb5⟩)
 clear f0 f1 f4 f5 f6 p0 p1 p2 p3 r0 r1 r2 r3
 clear HC
 have K6 : Hid (∀ V, RowKit.Below u5.heap.size u5 V → RowKit.Below w1.heap.size w1 V ∧ RowKit.Below w.heap.size w V ∧ (V.cell? ⟨d + 1, 0, none⟩ = some (.int .i64 1) ∧ V.cell? ⟨d + 1, 1, none⟩ = some (.int .i64 12) ∧ V.cell? ⟨d + 1, 2, none⟩ = some (.int .i64 2) ∧ V.cell? ⟨d + 1, 3, none⟩ = some (.slice (some ⟨d, 0, none⟩) 4 4)) ∧ (V.cell? ⟨d + 1 + 1 + 1, 0, none⟩ = some (.int .i64 1) ∧ V.cell? ⟨d + 1 + 1 + 1, 1, none⟩ = some (.int .i64 13) ∧ V.cell? ⟨d + 1 + 1 + 1, 2, none⟩ = some (.int .i64 2) ∧ V.cell? ⟨d + 1 + 1 + 1, 3, none⟩ = some (.slice (some ⟨d + 1 + 1, 0, none⟩) 3 3)) ∧ Bys V (some ⟨d, 0, none⟩) 4 [120, 115, 104, 101] ∧ Bys V (some ⟨d + 1 + 1, 0, none⟩) 3 [115, 104, 101] ∧ Hts V a4 2 [(14, 1), (14, 0)] ∧ Hts V a5 2 [(14, 1), (14, 0)]) := fun V hV => by
  obtain ⟨f0, f1, f2, f3, f4, f5, f6⟩ := K5.out V (hb5.trans (hV.mono hb5.size))
  exact ⟨f0, f1, f2, f3, f4, f5, f6, hs5.below hV⟩
 clear hb5 K5
 clear hs5
 obtain ⟨f0, f1, f2, f3, f4, f5, f6, f7⟩ := K6.out u5 (Below.refl _ _)
 obtain ⟨p0, p1, p2, p3⟩ := f2
 obtain ⟨r0, r1, r2, r3⟩ := f3
 have HC := Lib.hid (he_slice HM20.out f0 1 12 2 (some ⟨d, 0, none⟩) 4 4 [120, 115, 104, 101] 0 0 3 f4 (by decide) (by decide) w20_b i64_0 rfl)
 go_upto_region 7 with (go_at_call 31; refine HC.out.mono ?_; rintro e u6 ⟨a6, c6, rfl, hs6, hb6⟩)
 obtain ⟨V6, hV6⟩ : ∃ X, X = u6.alloc (.cells #[.int .i64 4, .int .i64 3] 62) := ⟨_, rfl⟩
 have hx6 : V6.heap[u6.heap.size]? = some (.cells #[.int .i64 4, .int .i64 3] 62 (0, 0)) := by rw [hV6]; exact World.alloc_heap_new _ _
 have hbx6 : RowKit.Below u6.heap.size u6 V6 := by rw [hV6]; exact below_alloc _ _
 rw [← hV6]
 obtain ⟨y6, hy6⟩ : ∃ b, u6.heap.size = b := ⟨_, rfl⟩
 have hbs6 := hb6.trans (hbx6.mono hb6.size)
 have hss6 := hs6.below hbx6
 rw [hy6] at hx6 ⊢
 clear f0 f1 f4 f5 f6 f7 p0 p1 p2 p3 r0 r1 r2 r3
 clear HC hV6 hbx6 hy6 hb6 hs6
 have K7 : Hid (∀ V, RowKit.Below V6.heap.size V6 V → RowKit.Below w1.heap.size w1 V ∧ RowKit.Below w.heap.size w V ∧ (V.cell? ⟨d + 1, 0, none⟩ = some (.int .i64 1) ∧ V.cell? ⟨d + 1, 1, none⟩ = some (.int .i64 12) ∧ V.cell? ⟨d + 1, 2, none⟩ = some (.int .i64 2) ∧ V.cell? ⟨d + 1, 3, none⟩ = some (.slice (some ⟨d, 0, none⟩) 4 4)) ∧ (V.cell? ⟨d + 1 + 1 + 1, 0, none⟩ = some (.int .i64 1) ∧ V.cell? ⟨d + 1 + 1 + 1, 1, none⟩ = some (.int .i64 13) ∧ V.cell? ⟨d + 1 + 1 + 1, 2, none⟩ = some (.int .i64 2) ∧ V.cell? ⟨d + 1 + 1 + 1, 3, none⟩ = some (.slice (some ⟨d + 1 + 1, 0, none⟩) 3 3)) ∧ Bys V (some ⟨d, 0, none⟩) 4 [120, 115, 104, 101] ∧ Bys V (some ⟨d + 1 + 1, 0, none⟩) 3 [115, 104, 101] ∧ Hts V a4 2 [(14, 1), (14, 0)] ∧ Hts V a5 2 [(14, 1), (14, 0)] ∧ Hts V a6 0 [] ∧ (V.cell? ⟨y6, 0, none⟩ = some (.int .i64 4) ∧ V.cell? ⟨y6, 1, none⟩ = some (.int .i64 3))) := fun V hV => by
  obtain ⟨f0, f1, f2, f3, f4, f5, f6, f7⟩ := K6.out V (hbs6.trans (hV.mono hbs6.size))
  exact ⟨f0, f1, f2, f3, f4, f5, f6, f7, hss6.below hV, (by have h := (hV.block y6 (Array.getElem?_eq_some_iff.1 hx6).1).trans hx6; exact ⟨by simp [World.cell?, h], by simp [World.cell?, h]⟩)⟩
 clear hbs6 K6
 clear hx6 hss6
 obtain ⟨f0, f1, f2, f3, f4, f5, f6, f7, f8, f9⟩ := K7.out V6 (Below.refl _ _)
 obtain ⟨p0, p1, p2, p3⟩ := f2
 obtain ⟨r0, r1, r2, r3⟩ := f3
 obtain ⟨x0, x1⟩ := f9
 have HC := Lib.hid (he_slice HM20.out f0 1 12 2 (some ⟨d, 0, none⟩) 4 4 [120, 115, 104, 101] 4 3 9 f4 (by decide) (by decide) w20_c i64_2 rfl)
 go_upto_region 8 with (go_at_call 31; refine HC.out.mono ?_; rintro e u7 ⟨a7, c7, rfl, hs7, hb7⟩)
 obtain ⟨V7, hV7⟩ : ∃ X, X = u7.alloc (.cells #[.int .i64 6, .int .i64 4] 62) := ⟨_, rfl⟩
 have hx7 : V7.heap[u7.heap.size]? = some (.cells #[.int .i64 6, .int .i64 4] 62 (0, 0)) := by rw [hV7]; exact World.alloc_heap_new _ _
 have hbx7 : RowKit.Below u7.heap.size u7 V7 := by rw [hV7]; exact below_alloc _ _
 rw [← hV7]
 obtain ⟨y7, hy7⟩ : ∃ b, u7.heap.size = b := ⟨_, rfl⟩
 have hbs7 := hb7.trans (hbx7.mono hb7.size)
 have hss7 := hs7.below hbx7
 rw [hy7] at hx7 ⊢
 clear f0 f1 f4 f5 f6 f7 f8 p0 p1 p2 p3 r0 r1 r2 r3 x0 x1
 clear HC hV7 hbx7 hy7 hb7 hs7
 have K8 : Hid (∀ V, RowKit.Below V7.heap.size V7 V → RowKit.Below w1.heap.size w1 V ∧ RowKit.Below w.heap.size w V ∧ (V.cell? ⟨d + 1, 0, none⟩ = some (.int .i64 1) ∧ V.cell? ⟨d + 1, 1, none⟩ = some (.int .i64 12) ∧ V.cell? ⟨d + 1, 2, none⟩ = some (.int .i64 2) ∧ V.cell? ⟨d + 1, 3, none⟩ = some (.slice (some ⟨d, 0, none⟩) 4 4)) ∧ (V.cell? ⟨d + 1 + 1 + 1, 0, none⟩ = some (.int .i64 1) ∧ V.cell? ⟨d + 1 + 1 + 1, 1, none⟩ = some (.int .i64 13) ∧ V.cell? ⟨d + 1 + 1 + 1, 2, none⟩ = some (.int .i64 2) ∧ V.cell? ⟨d + 1 + 1 + 1, 3, none⟩ = some (.slice (some ⟨d + 1 + 1, 0, none⟩) 3 3)) ∧ Bys V (some ⟨d, 0, none⟩) 4 [120, 115, 104, 101] ∧ Bys V (some ⟨d + 1 + 1, 0, none⟩) 3 [115, 104, 101] ∧ Hts V a4 2 [(14, 1), (14, 0)] ∧ Hts V a5 2 [(14, 1), (14, 0)] ∧ Hts V a6 0 [] ∧ (V.cell? ⟨y6, 0, none⟩ = some (.int .i64 4) ∧ V.cell? ⟨y6, 1, none⟩ = some (.int .i64 3)) ∧ Hts V a7 2 [(14, 1), (14, 0)] ∧ (V.cell? ⟨y7, 0, none⟩ = some (.int .i64 6) ∧ V.cell? ⟨y7, 1, none⟩ = some (.int .i64 4))) := fun V hV => by
  obtain ⟨f0, f1, f2, f3, f4, f5, f6, f7, f8, f9⟩ := K7.out V (hbs7.trans (hV.mono hbs7.size))
  exact ⟨f0, f1, f2, f3, f4, f5, f6, f7, f8, f9, hss7.below hV, (by have h := (hV.block y7 (Array.getElem?_eq_some_iff.1 hx7).1).trans hx7; exact ⟨by simp [World.cell?, h], by simp [World.cell?, h]⟩)⟩
 clear hbs7 K7
 clear hx7 hss7
 obtain ⟨f0, f1, f2, f3, f4, f5, f6, f7, f8, f9, f10, f11⟩ := K8.out V7 (Below.refl _ _)
 obtain ⟨p0, p1, p2, p3⟩ := f2
 obtain ⟨r0, r1, r2, r3⟩ := f3
 have HC := Lib.hid (he_slice HN20.out f0 1 12 2 (some ⟨d, 0, none⟩) 4 4 [120, 115, 104, 101] 0 0 1 f4 (by decide) (by decide) w20_d i64_0 rfl)
 go_upto_region 9 with (go_at_call 31; refine HC.out.mono ?_; rintro e u8 ⟨a8, c8, rfl, hs8, hb8⟩)
 obtain ⟨V8, hV8⟩ : ∃ X, X = u8.alloc (.cells #[.int .i64 0, .int .i64 0] 62) := ⟨_, rfl⟩
 have hx8 : V8.heap[u8.heap.size]? = some (.cells #[.int .i64 0, .int .i64 0] 62 (0, 0)) := by rw [hV8]; exact World.alloc_heap_new _ _
 have hbx8 : RowKit.Below u8.heap.size u8 V8 := by rw [hV8]; exact below_alloc _ _
 rw [← hV8]
 obtain ⟨y8, hy8⟩ : ∃ b, u8.heap.size = b := ⟨_, rfl⟩
 have hbs8 := hb8.trans (hbx8.mono hb8.size)
 have hss8 := hs8.below hbx8
 rw [hy8] at hx8 ⊢
 clear f0 f1 f4 f5 f6 f7 f8 f9 f10 f11 p0 p1 p2 p3 r0 r1 r2 r3
 clear HC hV8 hbx8 hy8 hb8 hs8
 have K9 : Hid (∀ V, RowKit.Below V8.heap.size V8 V → RowKit.Below w1.heap.size w1 V ∧ RowKit.Below w.heap.size w V ∧ (V.cell? ⟨d + 1, 0, none⟩ = some (.int .i64 1) ∧ V.cell? ⟨d + 1, 1, none⟩ = some (.int .i64 12) ∧ V.cell? ⟨d + 1, 2, none⟩ = some (.int .i64 2) ∧ V.cell? ⟨d + 1, 3, none⟩ = some (.slice (some ⟨d, 0, none⟩) 4 4)) ∧ (V.cell? ⟨d + 1 + 1 + 1, 0, none⟩ = some (.int .i64 1) ∧ V.cell? ⟨d + 1 + 1 + 1, 1, none⟩ = some (.int .i64 13) ∧ V.cell? ⟨d + 1 + 1 + 1, 2, none⟩ = some (.int .i64 2) ∧ V.cell? ⟨d + 1 + 1 + 1, 3, none⟩ = some (.slice (some ⟨d + 1 + 1, 0, none⟩) 3 3)) ∧ Bys V (some ⟨d, 0, none⟩) 4 [120, 115, 104, 101] ∧ Bys V (some ⟨d + 1 + 1, 0, none⟩) 3 [115, 104, 101] ∧ Hts V a4 2 [(14, 1), (14, 0)] ∧ Hts V a5 2 [(14, 1), (14, 0)] ∧ Hts V a6 0 [] ∧ (V.cell? ⟨y6, 0, none⟩ = some (.int .i64 4) ∧ V.cell? ⟨y6, 1, none⟩ = some (.int .i64 3)) ∧ Hts V a7 2 [(14, 1), (14, 0)] ∧ (V.cell? ⟨y7, 0, none⟩ = some (.int .i64 6) ∧ V.cell? ⟨y7, 1, none⟩ = some (.int .i64 4)) ∧ Hts V a8 0 [] ∧ (V.cell? ⟨y8, 0, none⟩ = some (.int .i64 0) ∧ V.cell? ⟨y8, 1, none⟩ = some (.int .i64 0))) := fun V hV => by
  obtain ⟨f0, f1, f2, f3, f4, f5, f6, f7, f8, f9, f10, f11⟩ := K8.out V (hbs8.trans (hV.mono hbs8.size))
  exact ⟨f0, f1, f2, f3, f4, f5, f6, f7, f8, f9, f10, f11, hss8.below hV, (by have h := (hV.block y8 (Array.getElem?_eq_some_iff.1 hx8).1).trans hx8; exact ⟨by simp [World.cell?, h], by simp [World.cell?, h]⟩)⟩
 clear hbs8 K8
 clear hx8 hss8
 obtain ⟨f0, f1, f2, f3, f4, f5, f6, f7, f8, f9, f10, f11, f12, f13⟩ := K9.out V8 (Below.refl _ _)
 obtain ⟨p0, p1, p2, p3⟩ := f2
 obtain ⟨r0, r1, r2, r3⟩ := f3
 obtain ⟨A, hA⟩ : ∃ X, X = V8.alloc (.cells #[.int .i64 1, .int .i64 12, .int .i64 2, .slice (some ⟨d, 0, none⟩) 4 4, .int .i64 1, .int .i64 13, .int .i64 2, .slice (some ⟨d + 1 + 1, 0, none⟩) 3 3] 60) := ⟨_, rfl⟩
 have hL : Bls A (some ⟨V8.heap.size, 0, none⟩) 2 [⟨1, 12, 2, some ⟨d, 0, none⟩, 4, 4, [120, 115, 104, 101]⟩, ⟨1, 13, 2, some ⟨d + 1 + 1, 0, none⟩, 3, 3, [115, 104, 101]⟩] := by rw [hA]; exact bls2 ⟨f4, by show (4 : Nat) ≤ 900000; decide⟩ ⟨f5, by show (3 : Nat) ≤ 900000; decide⟩
 have hbA : RowKit.Below V8.heap.size V8 A := by rw [hA]; exact below_alloc _ _
 have hwo : woH false heW [⟨1, 12, 2, some ⟨d, 0, none⟩, 4, 4, [120, 115, 104, 101]⟩, ⟨1, 13, 2, some ⟨d + 1 + 1, 0, none⟩, 3, 3, [115, 104, 101]⟩] = [(14, 1), (14, 0), (14, 1), (14, 0)] := by
  show whH false heW 12 2 [120, 115, 104, 101] ++ (whH false heW 13 2 [115, 104, 101] ++ []) = _
  rw [w20_a.1, w20_a.2.1]
  rfl
 have hsum : ∀ k, (woH false heW (([⟨1, 12, 2, some ⟨d, 0, none⟩, 4, 4, [120, 115, 104, 101]⟩, ⟨1, 13, 2, some ⟨d + 1 + 1, 0, none⟩, 3, 3, [115, 104, 101]⟩] : List BlkP).take k)).length ≤ 1000000000 := fun k => by
  match k with
  | 0 => exact Nat.zero_le _
  | 1 =>
   show (whH false heW 12 2 [120, 115, 104, 101] ++ []).length ≤ _
   rw [w20_a.1]
   decide
  | k + 2 =>
   have e : ([⟨1, 12, 2, some ⟨d, 0, none⟩, 4, 4, [120, 115, 104, 101]⟩, ⟨1, 13, 2, some ⟨d + 1 + 1, 0, none⟩, 3, 3, [115, 104, 101]⟩] : List BlkP).take (k + 2) = [⟨1, 12, 2, some ⟨d, 0, none⟩, 4, 4, [120, 115, 104, 101]⟩, ⟨1, 13, 2, some ⟨d + 1 + 1, 0, none⟩, 3, 3, [115, 104, 101]⟩] := by simp
   rw [e, hwo]
   decide
 have HC := he_whoever HM20.out (by decide) (f0.trans (hbA.mono f0.size)) _ 2 2 _ hL (by decide) hsum hwo i64_4 rfl
 rw [hA] at HC
 have HC := Lib.hid HC
 have HA := Lib.hid hA
 clear hL hwo hsum hA
 go_upto_region 10 with (go_at_call 38; refine HC.out.mono ?_; rintro e u9 ⟨a9, c9, rfl, hs9, hb9⟩)
 rw [← HA.out] at hb9
 have hbs9 := hbA.trans (hb9.mono hbA.size)
 clear HC HA hb9 hbA
 clear f0 f1 f4 f5 f6 f7 f8 f9 f10 f11 f12 f13 p0 p1 p2 p3 r0 r1 r2 r3
 have K10 : Hid (∀ V, RowKit.Below u9.heap.size u9 V → RowKit.Below w1.heap.size w1 V ∧ RowKit.Below w.heap.size w V ∧ (V.cell? ⟨d + 1, 0, none⟩ = some (.int .i64 1) ∧ V.cell? ⟨d + 1, 1, none⟩ = some (.int .i64 12) ∧ V.cell? ⟨d + 1, 2, none⟩ = some (.int .i64 2) ∧ V.cell? ⟨d + 1, 3, none⟩ = some (.slice (some ⟨d, 0, none⟩) 4 4)) ∧ (V.cell? ⟨d + 1 + 1 + 1, 0, none⟩ = some (.int .i64 1) ∧ V.cell? ⟨d + 1 + 1 + 1, 1, none⟩ = some (.int .i64 13) ∧ V.cell? ⟨d + 1 + 1 + 1, 2, none⟩ = some (.int .i64 2) ∧ V.cell? ⟨d + 1 + 1 + 1, 3, none⟩ = some (.slice (some ⟨d + 1 + 1, 0, none⟩) 3 3)) ∧ Bys V (some ⟨d, 0, none⟩) 4 [120, 115, 104, 101] ∧ Bys V (some ⟨d + 1 + 1, 0, none⟩) 3 [115, 104, 101] ∧ Hts V a4 2 [(14, 1), (14, 0)] ∧ Hts V a5 2 [(14, 1), (14, 0)] ∧ Hts V a6 0 [] ∧ (V.cell? ⟨y6, 0, none⟩ = some (.int .i64 4) ∧ V.cell? ⟨y6, 1, none⟩ = some (.int .i64 3)) ∧ Hts V a7 2 [(14, 1), (14, 0)] ∧ (V.cell? ⟨y7, 0, none⟩ = some (.int .i64 6) ∧ V.cell? ⟨y7, 1, none⟩ = some (.int .i64 4)) ∧ Hts V a8 0 [] ∧ (V.cell? ⟨y8, 0, none⟩ = some (.int .i64 0) ∧ V.cell? ⟨y8, 1, none⟩ = some (.int .i64 0)) ∧ Hts V a9 4 [(14, 1), (14, 0), (14, 1), (14, 0)]) := fun V hV => by
  obtain ⟨f0, f1, f2, f3, f4, f5, f6, f7, f8, f9, f10, f11, f12, f13⟩ := K9.out V (hbs9.trans (hV.mono hbs9.size))
  exact ⟨f0, f1, f2, f3, f4, f5, f6, f7, f8, f9, f10, f11, f12, f13, hs9.below hV⟩
 clear hbs9 K9
 clear hs9
 obtain ⟨f0, f1, f2, f3, f4, f5, f6, f7, f8, f9, f10, f11, f12, f13, f14⟩ := K10.out u9 (Below.refl _ _)
 obtain ⟨pb, po, rfl, _, hpc⟩ := f6.1.2.resolve_left (by decide)
 have HQ6 := Lib.hid f6
 have HCC : Hid (∀ V, RowKit.Below u9.heap.size u9 V → (V.cell? ⟨pb, po, none⟩ = some (.int .i64 14) ∧ V.cell? ⟨pb, po + 1, none⟩ = some (.int .i64 1) ∧ V.cell? ⟨pb, po + 2, none⟩ = some (.int .i64 14) ∧ V.cell? ⟨pb, po + 2 + 1, none⟩ = some (.int .i64 0)) ∧ pb < V.heap.size) := fun V hV => by
  have f1 := (HQ6.out.below hV).1.2.resolve_left (by decide)
  obtain ⟨_, _, e1, hl, g1⟩ := f1
  cases e1
  exact ⟨⟨g1 0 _ rfl, g1 1 _ rfl, g1 2 _ rfl, g1 3 _ rfl⟩, hl⟩
 have k1 : ∀ W, (binOp .eql 87 (.agg #[.int .i64 14, .int .i64 1]) (.agg #[.int .i64 14, .int .i64 1])).run Tryz.prog W = .ok (.bool true) W := fun W => eql_hit (14, 1) (14, 1) W
 have k2 : ∀ W, (binOp .eql 87 (.agg #[.int .i64 14, .int .i64 0]) (.agg #[.int .i64 14, .int .i64 0])).run Tryz.prog W = .ok (.bool true) W := fun W => eql_hit (14, 0) (14, 0) W
 obtain ⟨⟨e0, e1, e2, e3⟩, e4⟩ := HCC.out u9 (Below.refl _ _)
 have HS1 := Lib.hid (rsame6_any a5 (some ⟨pb, po, none⟩) 2 c5 2 c4 [(14, 1), (14, 0)] [(14, 1), (14, 0)] u9 f7 f6 (by decide))
 clear f0 f1 f2 f3 f4 f5 f6 f7 f8 f9 f10 f11 f12 f13 f14 hpc
 rw [show decide (([(14, 1), (14, 0)] : List HitP) = [(14, 1), (14, 0)]) = true by decide] at HS1
 go_wp2_with fail
 refine HS1.out.mono ?_
 rintro e u10 ⟨rfl, hb10⟩
 clear e0 e1 e2 e3 e4 k1 k2 HS1 HCC
 have K11 : Hid (∀ V, RowKit.Below u10.heap.size u10 V → RowKit.Below w1.heap.size w1 V ∧ RowKit.Below w.heap.size w V ∧ (V.cell? ⟨d + 1, 0, none⟩ = some (.int .i64 1) ∧ V.cell? ⟨d + 1, 1, none⟩ = some (.int .i64 12) ∧ V.cell? ⟨d + 1, 2, none⟩ = some (.int .i64 2) ∧ V.cell? ⟨d + 1, 3, none⟩ = some (.slice (some ⟨d, 0, none⟩) 4 4)) ∧ (V.cell? ⟨d + 1 + 1 + 1, 0, none⟩ = some (.int .i64 1) ∧ V.cell? ⟨d + 1 + 1 + 1, 1, none⟩ = some (.int .i64 13) ∧ V.cell? ⟨d + 1 + 1 + 1, 2, none⟩ = some (.int .i64 2) ∧ V.cell? ⟨d + 1 + 1 + 1, 3, none⟩ = some (.slice (some ⟨d + 1 + 1, 0, none⟩) 3 3)) ∧ Bys V (some ⟨d, 0, none⟩) 4 [120, 115, 104, 101] ∧ Bys V (some ⟨d + 1 + 1, 0, none⟩) 3 [115, 104, 101] ∧ Hts V (some ⟨pb, po, none⟩) 2 [(14, 1), (14, 0)] ∧ Hts V a5 2 [(14, 1), (14, 0)] ∧ Hts V a6 0 [] ∧ (V.cell? ⟨y6, 0, none⟩ = some (.int .i64 4) ∧ V.cell? ⟨y6, 1, none⟩ = some (.int .i64 3)) ∧ Hts V a7 2 [(14, 1), (14, 0)] ∧ (V.cell? ⟨y7, 0, none⟩ = some (.int .i64 6) ∧ V.cell? ⟨y7, 1, none⟩ = some (.int .i64 4)) ∧ Hts V a8 0 [] ∧ (V.cell? ⟨y8, 0, none⟩ = some (.int .i64 0) ∧ V.cell? ⟨y8, 1, none⟩ = some (.int .i64 0)) ∧ Hts V a9 4 [(14, 1), (14, 0), (14, 1), (14, 0)]) := fun V hV => by
  obtain ⟨f0, f1, f2, f3, f4, f5, f6, f7, f8, f9, f10, f11, f12, f13, f14⟩ := K10.out V (hb10.trans (hV.mono hb10.size))
  exact ⟨f0, f1, f2, f3, f4, f5, f6, f7, f8, f9, f10, f11, f12, f13, f14⟩
 clear hb10 K10
 obtain ⟨f0, f1, f2, f3, f4, f5, f6, f7, f8, f9, f10, f11, f12, f13, f14⟩ := K11.out u10 (Below.refl _ _)
 have HS1 := Lib.hid (rsame6_any a7 (some ⟨pb, po, none⟩) 2 c7 2 c4 [(14, 1), (14, 0)] [(14, 1), (14, 0)] u10 f10 f6 (by decide))
 rw [show decide (([(14, 1), (14, 0)] : List HitP) = [(14, 1), (14, 0)]) = true by decide] at HS1
 clear f0 f1 f2 f3 f4 f5 f6 f7 f8 f9 f10 f11 f12 f13 f14
 go_wp2_with fail
 refine HS1.out.mono ?_
 rintro e u11 ⟨rfl, hb11⟩
 clear HS1
 have K12 : Hid (∀ V, RowKit.Below u11.heap.size u11 V → RowKit.Below w1.heap.size w1 V ∧ RowKit.Below w.heap.size w V ∧ (V.cell? ⟨d + 1, 0, none⟩ = some (.int .i64 1) ∧ V.cell? ⟨d + 1, 1, none⟩ = some (.int .i64 12) ∧ V.cell? ⟨d + 1, 2, none⟩ = some (.int .i64 2) ∧ V.cell? ⟨d + 1, 3, none⟩ = some (.slice (some ⟨d, 0, none⟩) 4 4)) ∧ (V.cell? ⟨d + 1 + 1 + 1, 0, none⟩ = some (.int .i64 1) ∧ V.cell? ⟨d + 1 + 1 + 1, 1, none⟩ = some (.int .i64 13) ∧ V.cell? ⟨d + 1 + 1 + 1, 2, none⟩ = some (.int .i64 2) ∧ V.cell? ⟨d + 1 + 1 + 1, 3, none⟩ = some (.slice (some ⟨d + 1 + 1, 0, none⟩) 3 3)) ∧ Bys V (some ⟨d, 0, none⟩) 4 [120, 115, 104, 101] ∧ Bys V (some ⟨d + 1 + 1, 0, none⟩) 3 [115, 104, 101] ∧ Hts V (some ⟨pb, po, none⟩) 2 [(14, 1), (14, 0)] ∧ Hts V a5 2 [(14, 1), (14, 0)] ∧ Hts V a6 0 [] ∧ (V.cell? ⟨y6, 0, none⟩ = some (.int .i64 4) ∧ V.cell? ⟨y6, 1, none⟩ = some (.int .i64 3)) ∧ Hts V a7 2 [(14, 1), (14, 0)] ∧ (V.cell? ⟨y7, 0, none⟩ = some (.int .i64 6) ∧ V.cell? ⟨y7, 1, none⟩ = some (.int .i64 4)) ∧ Hts V a8 0 [] ∧ (V.cell? ⟨y8, 0, none⟩ = some (.int .i64 0) ∧ V.cell? ⟨y8, 1, none⟩ = some (.int .i64 0)) ∧ Hts V a9 4 [(14, 1), (14, 0), (14, 1), (14, 0)]) := fun V hV => by
  obtain ⟨f0, f1, f2, f3, f4, f5, f6, f7, f8, f9, f10, f11, f12, f13, f14⟩ := K11.out V (hb11.trans (hV.mono hb11.size))
  exact ⟨f0, f1, f2, f3, f4, f5, f6, f7, f8, f9, f10, f11, f12, f13, f14⟩
 clear hb11 K11
 obtain ⟨f0, f1, f2, f3, f4, f5, f6, f7, f8, f9, f10, f11, f12, f13, f14⟩ := K12.out u11 (Below.refl _ _)
 obtain ⟨p0, p1, p2, p3⟩ := f2
 obtain ⟨r0, r1, r2, r3⟩ := f3
 obtain ⟨x0, x1⟩ := f9
 obtain ⟨y0, y1⟩ := f11
 have HR := HM20.out.right u11 f0 1 12 2 (some ⟨d, 0, none⟩) 4 4 6 4 (by decide)
 rw [w20_e.1] at HR
 have HR := Lib.hid HR
 clear f0 f1 f4 f5 f6 f7 f8 f10 f12 f13 f14
 go_wp2_with fail
 refine HR.out.mono ?_
 rintro e u12 ⟨rfl, hb12⟩
 clear HR p0 p1 p2 p3 r0 r1 r2 r3 x0 x1 y0 y1
 have K13 : Hid (∀ V, RowKit.Below u12.heap.size u12 V → RowKit.Below w1.heap.size w1 V ∧ RowKit.Below w.heap.size w V ∧ (V.cell? ⟨d + 1, 0, none⟩ = some (.int .i64 1) ∧ V.cell? ⟨d + 1, 1, none⟩ = some (.int .i64 12) ∧ V.cell? ⟨d + 1, 2, none⟩ = some (.int .i64 2) ∧ V.cell? ⟨d + 1, 3, none⟩ = some (.slice (some ⟨d, 0, none⟩) 4 4)) ∧ (V.cell? ⟨d + 1 + 1 + 1, 0, none⟩ = some (.int .i64 1) ∧ V.cell? ⟨d + 1 + 1 + 1, 1, none⟩ = some (.int .i64 13) ∧ V.cell? ⟨d + 1 + 1 + 1, 2, none⟩ = some (.int .i64 2) ∧ V.cell? ⟨d + 1 + 1 + 1, 3, none⟩ = some (.slice (some ⟨d + 1 + 1, 0, none⟩) 3 3)) ∧ Bys V (some ⟨d, 0, none⟩) 4 [120, 115, 104, 101] ∧ Bys V (some ⟨d + 1 + 1, 0, none⟩) 3 [115, 104, 101] ∧ Hts V (some ⟨pb, po, none⟩) 2 [(14, 1), (14, 0)] ∧ Hts V a5 2 [(14, 1), (14, 0)] ∧ Hts V a6 0 [] ∧ (V.cell? ⟨y6, 0, none⟩ = some (.int .i64 4) ∧ V.cell? ⟨y6, 1, none⟩ = some (.int .i64 3)) ∧ Hts V a7 2 [(14, 1), (14, 0)] ∧ (V.cell? ⟨y7, 0, none⟩ = some (.int .i64 6) ∧ V.cell? ⟨y7, 1, none⟩ = some (.int .i64 4)) ∧ Hts V a8 0 [] ∧ (V.cell? ⟨y8, 0, none⟩ = some (.int .i64 0) ∧ V.cell? ⟨y8, 1, none⟩ = some (.int .i64 0)) ∧ Hts V a9 4 [(14, 1), (14, 0), (14, 1), (14, 0)]) := fun V hV => by
  obtain ⟨f0, f1, f2, f3, f4, f5, f6, f7, f8, f9, f10, f11, f12, f13, f14⟩ := K12.out V (hb12.trans (hV.mono hb12.size))
  exact ⟨f0, f1, f2, f3, f4, f5, f6, f7, f8, f9, f10, f11, f12, f13, f14⟩
 clear hb12 K12
 obtain ⟨f0, f1, f2, f3, f4, f5, f6, f7, f8, f9, f10, f11, f12, f13, f14⟩ := K13.out u12 (Below.refl _ _)
 obtain ⟨y0, y1⟩ := f11
 have HR := HM20.out.right u12 f0 0 0 0 none 0 0 6 4 (by decide)
 rw [w20_e.2.1] at HR
 have HR := Lib.hid HR
 clear f0 f1 f2 f3 f4 f5 f6 f7 f8 f9 f10 f12 f13 f14
 go_wp2_with fail
 refine HR.out.mono ?_
 rintro e u13 ⟨rfl, hb13⟩
 clear HR y0 y1
 have K14 : Hid (∀ V, RowKit.Below u13.heap.size u13 V → RowKit.Below w1.heap.size w1 V ∧ RowKit.Below w.heap.size w V ∧ (V.cell? ⟨d + 1, 0, none⟩ = some (.int .i64 1) ∧ V.cell? ⟨d + 1, 1, none⟩ = some (.int .i64 12) ∧ V.cell? ⟨d + 1, 2, none⟩ = some (.int .i64 2) ∧ V.cell? ⟨d + 1, 3, none⟩ = some (.slice (some ⟨d, 0, none⟩) 4 4)) ∧ (V.cell? ⟨d + 1 + 1 + 1, 0, none⟩ = some (.int .i64 1) ∧ V.cell? ⟨d + 1 + 1 + 1, 1, none⟩ = some (.int .i64 13) ∧ V.cell? ⟨d + 1 + 1 + 1, 2, none⟩ = some (.int .i64 2) ∧ V.cell? ⟨d + 1 + 1 + 1, 3, none⟩ = some (.slice (some ⟨d + 1 + 1, 0, none⟩) 3 3)) ∧ Bys V (some ⟨d, 0, none⟩) 4 [120, 115, 104, 101] ∧ Bys V (some ⟨d + 1 + 1, 0, none⟩) 3 [115, 104, 101] ∧ Hts V (some ⟨pb, po, none⟩) 2 [(14, 1), (14, 0)] ∧ Hts V a5 2 [(14, 1), (14, 0)] ∧ Hts V a6 0 [] ∧ (V.cell? ⟨y6, 0, none⟩ = some (.int .i64 4) ∧ V.cell? ⟨y6, 1, none⟩ = some (.int .i64 3)) ∧ Hts V a7 2 [(14, 1), (14, 0)] ∧ (V.cell? ⟨y7, 0, none⟩ = some (.int .i64 6) ∧ V.cell? ⟨y7, 1, none⟩ = some (.int .i64 4)) ∧ Hts V a8 0 [] ∧ (V.cell? ⟨y8, 0, none⟩ = some (.int .i64 0) ∧ V.cell? ⟨y8, 1, none⟩ = some (.int .i64 0)) ∧ Hts V a9 4 [(14, 1), (14, 0), (14, 1), (14, 0)]) := fun V hV => by
  obtain ⟨f0, f1, f2, f3, f4, f5, f6, f7, f8, f9, f10, f11, f12, f13, f14⟩ := K13.out V (hb13.trans (hV.mono hb13.size))
  exact ⟨f0, f1, f2, f3, f4, f5, f6, f7, f8, f9, f10, f11, f12, f13, f14⟩
 clear hb13 K13
 obtain ⟨f0, f1, f2, f3, f4, f5, f6, f7, f8, f9, f10, f11, f12, f13, f14⟩ := K14.out u13 (Below.refl _ _)
 have kc := conv_lit
 obtain ⟨A, hA⟩ : ∃ X, X = u13.alloc (.cells #[.int .u8 117, .int .u8 115, .int .u8 104, .int .u8 101] 5 (4, 5)) := ⟨_, rfl⟩
 have hbA : RowKit.Below u13.heap.size u13 A := by rw [hA]; exact below_alloc _ _
 have hD : Bys A (some ⟨u13.heap.size, 0, none⟩) 4 [117, 115, 104, 101] := by rw [hA]; exact bys_lay [117, 115, 104, 101] (by decide) _ (4, 5) rfl
 have HC := he_whole HM20.out (f0.trans (hbA.mono f0.size)) 0 9 3 (some ⟨u13.heap.size, 0, none⟩) 4 4 [117, 115, 104, 101] hD (by decide) w20_a.2.2 i64_0 rfl
 rw [hA] at HC
 have HC := Lib.hid HC
 have HA := Lib.hid hA
 have hfin := f1.trans (hbA.mono f1.size)
 clear hA hbA hD f0 f1 f2 f3 f4 f5 f6 f7 f8 f9 f10 f11 f12 f13 f14
 go_wp2_with fail
 refine HC.out.mono ?_
 rintro e u14 ⟨a14, c14, rfl, hs14, hb14⟩
 rw [← HA.out] at hb14
 have HF := Lib.hid (hfin.trans (hb14.mono hfin.size))
 clear hs14 hb14 hfin HC kc
 go_wp2
 go_ret
 exact ⟨rfl, HF.out⟩
end Go.Proofs.YtbldfgaogmfoaaaGreat

/- Opening the arguments of laws: integers, configurations, slices of integers. -/

namespace Go.Proofs.YtbldfgaogmfoaaaGreat
open Go.ChangeShapes Go.WideShapes Go.ChangeAt Go.RowKit Go.Joins
open Go.ChangeMaps (open_string shut_string)

theorem own : ownKnob Tryz.prog.godebug = none := by kernel_rfl
theorem laidOut : laidOutB Tryz.prog = true := by kernel_rfl
theorem cells_int : Tryz.prog.cellsOf 3 = 1 := by kernel_rfl

section
variable {H : Type} {enc : TypeId × Value → H} {W : World} {r : Reach} {base : Nat} {d : DataW H} {p : List MemPlace} {v : Value}

set_option maxRecDepth 100000 in
theorem open_i64 (hv : Value.okWide Tryz.prog W r base 3 v) (h : DataW.Trod enc Tryz.prog W 0 (fun _ => true) true 3 v d p) :
  ∃ n : Int, v = .int .i64 n ∧ -9223372036854775808 ≤ n ∧ n ≤ 9223372036854775807 := by
 obtain ⟨n, rfl, _, _, hw⟩ := open_int Tryz.underlying3 hv h
 refine ⟨n, rfl, ?_⟩
 simp [Lit.wf, IntKind.min, IntKind.max, IntKind.signed, IntKind.bits] at hw
 omega

end

end Go.Proofs.YtbldfgaogmfoaaaGreat

/- Opening the arguments of laws: sets, slices of bytes, hits, slices of hits. -/

namespace Go.Proofs.YtbldfgaogmfoaaaGreat
open Go.ChangeShapes Go.WideShapes Go.ChangeAt Go.RowKit Go.Joins Go.Deep
set_option maxRecDepth 100000

theorem cells_Set : Tryz.prog.cellsOf 24 = 2 := by kernel_rfl
theorem cells_bool : Tryz.prog.cellsOf 4 = 1 := by kernel_rfl
theorem cells_u8 : Tryz.prog.cellsOf 5 = 1 := by kernel_rfl
theorem cells_u8s : Tryz.prog.cellsOf 25 = 1 := by kernel_rfl
theorem cells_wds : Tryz.prog.cellsOf 22 = 1 := by kernel_rfl
theorem wf_i64 {n : Int} (h : (Lit.int .i64 n).wf = true) : I64 n := by
 simp [Lit.wf, IntKind.min, IntKind.max, IntKind.signed, IntKind.bits] at h
 exact ⟨by omega, by omega⟩
theorem wf_u8 {n : Int} (h : (Lit.int .u8 n).wf = true) : 0 ≤ n ∧ n ≤ 255 := by
 simp [Lit.wf, IntKind.min, IntKind.max, IntKind.signed, IntKind.bits] at h
 omega

section
variable {H : Type} {enc : TypeId × Value → H} {W : World} {r : Reach} {base : Nat} {d : DataW H} {p : List MemPlace} {v : Value}

/-- The cells of a row of texts, read. -/
theorem wds_cells {fuel : Nat} {v : Value} {x : DataW H × List MemPlace} (h : DataW.trod enc Tryz.prog W 0 (fun _ => true) true fuel 22 [v] = some x) : ∃ (a : Option Addr) (len cap : Nat) (wss : List (List Int)), v = .slice a len cap ∧ Wds W a len wss ∧ len ≤ cap ∧ cap ≤ maxLen := by
 rcases open_int_rows Tryz.underlying22 Tryz.underlying25 Tryz.underlying5 cells_u8s cells_u8 h with ⟨hcs, _⟩ | ⟨x, len, cap, A, L, C, Z, hcs, _, hl, hm, _, hi⟩
 ·
  simp at hcs
  exact ⟨none, 0, 0, [], hcs, ⟨[], ⟨rfl, .inl rfl⟩, rfl, fun i v xs h => by simp at h⟩, Nat.le_refl _, by unfold maxLen; omega⟩
 ·
  simp at hcs
  refine ⟨some x, len, cap, (List.range len).map fun i => (Z i).take (L i), hcs, ⟨(List.range len).map fun i => (A i, L i, C i), ⟨by simp, ?_⟩, by simp, fun i v xs hv hx => ?_⟩, hl, hm⟩
  ·
   by_cases h0 : len = 0
   · exact .inl h0
   ·
    right
    obtain ⟨b, off, spot⟩ := x
    have hc := (hi 0 (by omega)).1
    obtain rfl : spot = none := by simpa [Addr.add] using World.cell?_spot hc
    refine ⟨b, off, rfl, ?_, fun i u hu => ?_⟩
    ·
     have := World.block_lt_of_cell? W _ hc
     rwa [add_plain] at this
    ·
     have hil : i < len := by have := (List.getElem?_eq_some_iff.1 hu).1; simpa using this
     simp [hil] at hu
     have h1 := (hi i (by omega)).1
     rw [add_plain] at h1
     rw [h1, ← hu]
  ·
   have hil : i < len := by have := (List.getElem?_eq_some_iff.1 hv).1; simpa using this
   simp [hil] at hv hx
   subst hv hx
   obtain ⟨_, hLC, hCm, hZ, hwf, hAn, hA⟩ := hi i (by omega)
   refine ⟨⟨⟨by simp; omega, ?_⟩, fun n hn => wf_u8 (hwf n (List.mem_of_mem_take hn))⟩, hLC⟩
   by_cases h0 : L i = 0
   · exact .inl h0
   ·
    right
    cases hAi : A i with
    | none => have := hAn hAi; omega
    | some y =>
     obtain ⟨_, hc⟩ := hA y hAi
     obtain ⟨b, off, spot⟩ := y
     have hc0 := hc 0 (by omega)
     obtain rfl : spot = none := by simpa [Addr.add] using World.cell?_spot hc0
     refine ⟨b, off, rfl, ?_, fun j u hu => ?_⟩
     ·
      have := World.block_lt_of_cell? W _ hc0
      rwa [add_plain] at this
     ·
      have hj : j < L i := by have := (List.getElem?_eq_some_iff.1 hu).1; simp at this; omega
      have h1 := hc j (by omega)
      rw [add_plain] at h1
      rw [h1]
      rw [List.getElem?_take, if_pos hj] at hu
      simp [hu]

theorem open_set (hv : Value.okWide Tryz.prog W r base 24 v) (h : DataW.Trod enc Tryz.prog W 0 (fun _ => true) true 24 v d p) :
  ∃ (fold : Bool) (a : Option Addr) (len cap : Nat) (wss : List (List Int)), v = .agg #[.bool fold, .slice a len cap] ∧ Wds W a len wss ∧ len ≤ cap ∧ cap ≤ maxLen := by
 obtain ⟨cs, rfl, hsz⟩ := okWide_struct Tryz.underlying24 hv
 obtain ⟨l⟩ := cs
 match l, hsz.trans cells_Set with
 | [c0, c1], _ =>
  obtain ⟨fuel, hf⟩ := h
  obtain ⟨xs, n, _, _, _, hlen, hx⟩ := DataW.trod_struct Tryz.underlying24 hf
  have hlen' : xs.length = 2 := hlen
  obtain ⟨y0, hy0⟩ : ∃ y, xs[0]? = some y := ⟨xs[0]'(by omega), by simp⟩
  obtain ⟨y1, hy1⟩ : ∃ y, xs[1]? = some y := ⟨xs[1]'(by omega), by simp⟩
  have h0 := hx 0
  simp only [pD, pE, pF, Option.some.injEq, forall_eq', cells_bool, hy0] at h0
  obtain ⟨b, e0, _⟩ := DataW.trod_bool Tryz.underlying4 h0
  have h1 := hx 1
  simp only [pD, pE, pF, Option.some.injEq, forall_eq', cells_wds, hy1] at h1
  simp [Value.cells] at e0 h1
  obtain ⟨a, len, cap, wss, e1, hw, hc, hm⟩ := wds_cells h1
  exact ⟨b, a, len, cap, wss, by rw [e0, e1], hw, hc, hm⟩
end

end Go.Proofs.YtbldfgaogmfoaaaGreat

/- Opening the arguments of laws: blocks, probes. -/

namespace Go.Proofs.YtbldfgaogmfoaaaGreat
open Go.ChangeShapes Go.WideShapes Go.ChangeAt Go.RowKit Go.Joins Go.Deep
set_option maxRecDepth 100000

theorem cells_Probe : Tryz.prog.cellsOf 62 = 2 := by kernel_rfl
theorem cells_Block : Tryz.prog.cellsOf 60 = 4 := by kernel_rfl

section
variable {H : Type} {enc : TypeId × Value → H} {W : World} {r : Reach} {base : Nat} {d : DataW H} {p : List MemPlace} {v : Value}

theorem probe_cells {fuel : Nat} {cs : List Value} {x : DataW H × List MemPlace} (h : DataW.trod enc Tryz.prog W 0 (fun _ => true) true fuel 62 cs = some x) : ∃ e k : Int, cs = [.int .i64 e, .int .i64 k] ∧ I64 e ∧ I64 k := by
 obtain ⟨xs, n, _, _, hl, hlen, hx⟩ := DataW.trod_struct Tryz.underlying62 h
 rw [cells_Probe] at hl
 match cs, hl with
 | [c0, c1], _ =>
  have hlen' : xs.length = 2 := hlen
  obtain ⟨y0, hy0⟩ : ∃ y, xs[0]? = some y := ⟨xs[0]'(by omega), by simp⟩
  obtain ⟨y1, hy1⟩ : ∃ y, xs[1]? = some y := ⟨xs[1]'(by omega), by simp⟩
  have h0 := hx 0
  simp only [pD, pE, pF, Option.some.injEq, forall_eq', cells_int, hy0] at h0
  obtain ⟨e, e0, _, w0⟩ := DataW.trod_int Tryz.underlying3 h0
  have h1 := hx 1
  simp only [pD, pE, pF, Option.some.injEq, forall_eq', cells_int, hy1] at h1
  obtain ⟨k, e1, _, w1⟩ := DataW.trod_int Tryz.underlying3 h1
  simp at e0 e1
  exact ⟨e, k, by rw [e0, e1], wf_i64 w0, wf_i64 w1⟩

theorem open_probe (hv : Value.okWide Tryz.prog W r base 62 v) (h : DataW.Trod enc Tryz.prog W 0 (fun _ => true) true 62 v d p) :
  ∃ e k : Int, v = .agg #[.int .i64 e, .int .i64 k] ∧ I64 e ∧ I64 k := by
 obtain ⟨cs, rfl, hsz⟩ := okWide_struct Tryz.underlying62 hv
 obtain ⟨fuel, hf⟩ := h
 obtain ⟨e, k, hc, he, hk⟩ := probe_cells hf
 refine ⟨e, k, ?_, he, hk⟩
 obtain ⟨l⟩ := cs
 simp [Value.cells] at hc
 rw [hc]

theorem bys_cells {fuel : Nat} {v : Value} {x : DataW H × List MemPlace} (hf : DataW.trod enc Tryz.prog W 0 (fun _ => true) true fuel 25 [v] = some x) :
  ∃ (a : Option Addr) (len cap : Nat) (zs : List Int), v = .slice a len cap ∧ Bys W a len zs ∧ len ≤ cap ∧ cap ≤ maxLen := by
 rcases open_ints Tryz.underlying25 Tryz.underlying5 (by kernel_rfl) hf with ⟨hcs, _⟩ | ⟨x, l, c, zs, hcs, _, hl, hm, hz, _, hcell, hwz⟩
 ·
  simp at hcs
  exact ⟨none, 0, 0, [], hcs, Bys.nil _ _, Nat.le_refl _, by unfold maxLen; omega⟩
 ·
  simp at hcs
  have hz' : zs.length = c := by simpa using hz
  refine ⟨some x, l, c, zs.take l, hcs, ⟨⟨by simp; omega, ?_⟩, fun n hn => wf_u8 (hwz n (List.mem_of_mem_take hn))⟩, hl, hm⟩
  by_cases h0 : l = 0
  · exact .inl h0
  ·
   right
   obtain ⟨b, off, spot⟩ := x
   have hc := hcell 0 (by omega)
   obtain rfl : spot = none := by simpa [Addr.add] using World.cell?_spot hc
   refine ⟨b, off, rfl, ?_, fun i u hu => ?_⟩
   ·
    have := World.block_lt_of_cell? W _ hc
    rwa [add_plain] at this
   ·
    have hi : i < l := by have := (List.getElem?_eq_some_iff.1 hu).1; simp at this; omega
    have h1 := hcell i (by omega)
    rw [add_plain] at h1
    rw [h1]
    rw [List.getElem?_take, if_pos hi] at hu
    simp [hu]

theorem open_block (hv : Value.okWide Tryz.prog W r base 60 v) (h : DataW.Trod enc Tryz.prog W 0 (fun _ => true) true 60 v d p) :
  ∃ (nu st wm : Int) (a : Option Addr) (len cap : Nat) (zs : List Int), v = .agg #[.int .i64 nu, .int .i64 st, .int .i64 wm, .slice a len cap] ∧ (I64 nu ∧ I64 st ∧ I64 wm) ∧ Bys W a len zs ∧ len ≤ cap ∧ cap ≤ maxLen := by
 obtain ⟨cs, rfl, hsz⟩ := okWide_struct Tryz.underlying60 hv
 obtain ⟨l⟩ := cs
 match l, hsz.trans cells_Block with
 | [c0, c1, c2, c3], _ =>
  obtain ⟨fuel, hf⟩ := h
  obtain ⟨xs, n, _, _, _, hlen, hx⟩ := DataW.trod_struct Tryz.underlying60 hf
  have hlen' : xs.length = 4 := hlen
  obtain ⟨y0, hy0⟩ : ∃ y, xs[0]? = some y := ⟨xs[0]'(by omega), by simp⟩
  obtain ⟨y1, hy1⟩ : ∃ y, xs[1]? = some y := ⟨xs[1]'(by omega), by simp⟩
  obtain ⟨y2, hy2⟩ : ∃ y, xs[2]? = some y := ⟨xs[2]'(by omega), by simp⟩
  obtain ⟨y3, hy3⟩ : ∃ y, xs[3]? = some y := ⟨xs[3]'(by omega), by simp⟩
  have h0 := hx 0
  simp only [pD, pE, pF, Option.some.injEq, forall_eq', cells_int, hy0] at h0
  obtain ⟨nu, e0, _, w0⟩ := DataW.trod_int Tryz.underlying3 h0
  have h1 := hx 1
  simp only [pD, pE, pF, Option.some.injEq, forall_eq', cells_int, hy1] at h1
  obtain ⟨st, e1, _, w1⟩ := DataW.trod_int Tryz.underlying3 h1
  have h2 := hx 2
  simp only [pD, pE, pF, Option.some.injEq, forall_eq', cells_int, hy2] at h2
  obtain ⟨wm, e2, _, w2⟩ := DataW.trod_int Tryz.underlying3 h2
  have h3 := hx 3
  simp only [pD, pE, pF, Option.some.injEq, forall_eq', cells_u8s, hy3] at h3
  simp [Value.cells] at e0 e1 e2 h3
  obtain ⟨a, len, cap, zs, e3, hw, hc, hm⟩ := bys_cells h3
  exact ⟨nu, st, wm, a, len, cap, zs, by rw [e0, e1, e2, e3], ⟨wf_i64 w0, wf_i64 w1, wf_i64 w2⟩, hw, hc, hm⟩
end
end Go.Proofs.YtbldfgaogmfoaaaGreat
