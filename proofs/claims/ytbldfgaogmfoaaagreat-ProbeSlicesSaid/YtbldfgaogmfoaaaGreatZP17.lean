/- Parts of the proof, one behind the other: QB, Q8, QC, QD. No condition but what each theorem states. -/
import Derived.Test.YtbldfgaogmfoaaaGreatZP5
import Derived.Test.YtbldfgaogmfoaaaGreatZP9
import Derived.Test.YtbldfgaogmfoaaaGreatZP10
import Derived.Test.YtbldfgaogmfoaaaGreatZP15
import Derived.Test.YtbldfgaogmfoaaaGreatZP16
set_option linter.unusedVariables false
set_option linter.unusedSimpArgs false

/- Probes (layer 20): Slice where it may be; walked. Printed by exp.py. -/

namespace Go.Proofs.YtbldfgaogmfoaaaGreat
open Go.RowKit Go.Sort
attribute [local go_sem] Oper.semAt_some
attribute [local simp] wide_fn wide_depth
attribute [local go_sem] wide_fn wide_depth

theorem holdsN_owns {α : Type} {B b base : Nat} {Pb : Nat → World → World → Prop} (hB : base ≤ B) (hb : b < B) (hP : ∀ r W W', Pb r W W' → r ≠ b ∧ r < base) (f : α → List HitP) : OwnsX B Pb (fun s W => HoldsH b base (f s) W) := by
 rintro s W W' row ⟨v, hv, ho⟩ hg hr
 have far : ∀ {k : Nat} {cs : Array Value} {t : TypeId}, W.heap[k]? = some (.cells cs t (0, 0)) → k = b ∨ base ≤ k → row ≠ some k := fun {k cs t} hk hkp e => by
  rcases hr k e with ⟨_, o, h1, h2⟩ | h
  · rw [hk] at h1; cases h1; cases h2
  · have := hP k _ _ h; omega
 refine ⟨v, (hg.block b hv.lt (fun e => far hv (.inl rfl) e.symm)).trans hv, ho.kept hg ?_⟩
 rcases ho.2 with ⟨rfl, _⟩ | ⟨g, cap, cur, rfl, hg0, hgb, _⟩
 · exact .inl rfl
 · exact .inr fun e => far hgb (.inr hg0) (by rw [← e]; rfl)
theorem SbX.owns {α : Type} {B g q : Nat} {nu st wm : Int} {b : Option Addr} {n c : Nat} (hgq : g ≠ q) (f : α → Int) : OwnsX B (PbN g q) (fun s W => ∃ d, SbX g nu st wm b n c (f s) d W) := by
 rintro s W W' row ⟨d, hd⟩ hg hr
 by_cases e : row = some g
 ·
  rcases hr g e with ⟨_, o, h1, h2⟩ | h
  ·
   unfold SbX at hd
   rw [hd] at h1; cases h1; cases h2
  ·
   rcases h with h | ⟨_, h⟩
   · exact absurd h hgq
   · exact h nu st wm b n c (f s) d hd
 · exact ⟨d, (hg.block g hd.lt (Ne.symm e)).trans hd⟩
theorem KpN.node {bl g : Nat} (hne : bl ≠ g) (W : World) (y : Int) : KpN bl g W (W.setCell ⟨g, 4, none⟩ (.int .i64 y)) := by
 refine ⟨by simp [World.setCell], fun k cs t f hk _ hkg _ => (Below.heap_setCell W ⟨g, 4, none⟩ _ k hkg).trans hk, .inl ?_, fun nu st wm b n c z d hs => ⟨y, hs.node y⟩⟩
 unfold rowAt
 rw [World.cell?_of_block (a := ⟨bl, 0, none⟩) (Below.heap_setCell W ⟨g, 4, none⟩ _ bl hne)]
theorem kpn_append {V w5 : World} {bl g base n m : Nat} {v v' : Value} {xs ys : List Value} (hv : Boxed V bl 67 v) (hown : V.ownsRow base 87 2 v m ys) (hg : V.grownBy w5 v.ownBlock) (hat : v'.ownBlock = v.ownBlock ∨ v'.ownBlock = some V.heap.size)
  (hown' : w5.ownsRow base 87 2 v' n xs) (hbl : bl < base) (hgb : g < base) (hbg : bl ≠ g) (hbV : base ≤ V.heap.size) :
  KpN bl g V (w5.setCell ⟨bl, 0, none⟩ v') ∧ Boxed w5 bl 67 v ∧ Boxed (w5.setCell ⟨bl, 0, none⟩ v') bl 67 v' ∧ (w5.setCell ⟨bl, 0, none⟩ v').ownsRow base 87 2 v' n xs ∧ KeepsOthers V (w5.setCell ⟨bl, 0, none⟩ v') ∧ (∀ k, k < base → k ≠ bl → (w5.setCell ⟨bl, 0, none⟩ v').heap[k]? = V.heap[k]?) ∧ base ≤ w5.heap.size := by
 have far : ∀ k, k < base → v.ownBlock ≠ some k := fun k hk e => by have := (row_lt hown k e).1; omega
 have hv1 : Boxed w5 bl 67 v := (hg.block bl hv.lt (fun e => far bl hbl e.symm)).trans hv
 have hs : V.heap.size ≤ w5.heap.size := hg.size
 have hs2 : (w5.setCell ⟨bl, 0, none⟩ v').heap.size = w5.heap.size := by simp [World.setCell]
 have e1 : rowAt bl V = v.ownBlock := by unfold rowAt; rw [hv.cell]; rfl
 have e2 : rowAt bl (w5.setCell ⟨bl, 0, none⟩ v') = v'.ownBlock := by unfold rowAt; rw [(hv1.set v').cell]; rfl
 have hlow : ∀ k, k < base → k ≠ bl → (w5.setCell ⟨bl, 0, none⟩ v').heap[k]? = V.heap[k]? := fun k hk hkb => (Below.heap_setCell w5 ⟨bl, 0, none⟩ v' k hkb).trans (hg.block k (by omega) (fun e => far k hk e.symm))
 have hgr := grown_set2 w5 bl 0 v'
 refine ⟨⟨by rw [hs2]; exact hs, fun k cs t f hk hb _ hr => ?_, ?_, fun nu st wm b n c z d hsb => ⟨z, (hlow g hgb (Ne.symm hbg)).trans hsb⟩⟩, hv1, hv1.set v', hown'.kept hgr (.inr fun e => by have := (row_lt hown' bl e).1; omega), ⟨by rw [hs2]; exact hs, fun k o ho hc => ?_⟩, hlow, by omega⟩
 ·
  rw [e1] at hr
  rw [Below.heap_setCell w5 ⟨bl, 0, none⟩ v' k hb, hg.block k (KpL.lt (bl := bl) hk) (fun e => hr e.symm)]
  exact hk
 ·
  rw [e1, e2, hs2]
  rcases hat with h | h
  · exact .inl h
  ·
   refine .inr ⟨_, h, Nat.le_refl _, ?_⟩
   have := (row_lt hown' _ h).2
   exact this
 ·
  have hkb : k ≠ bl := fun e => by rw [e] at ho; unfold Boxed at hv; rw [hv] at ho; cases ho; cases hc
  have hkl := (Array.getElem?_eq_some_iff.1 ho).1
  rw [Below.heap_setCell w5 ⟨bl, 0, none⟩ v' k hkb]
  refine (hg.block k hkl (fun e => ?_)).trans ho
  rcases hown.2 with ⟨h0, _⟩ | ⟨g', cap, cur, h0, _, hgb', _⟩
  · rw [h0] at e; cases e
  ·
   rw [h0] at e
   have e' : k = g' := by simpa [Value.ownBlock] using e
   rw [e', hgb'] at ho
   cases ho
   cases hc

set_option maxRecDepth 100000 in
set_option maxHeartbeats 16000000 in
theorem slice20_yes {W0 : World} {B : Nat} {fold : Bool} {wss : List (List Int)} (nu st wm : Int) (b : Option Addr) (n c z d : Nat) (m : Int) (bs : List Int) (w : World) (h : MUse W0 B fold wss w) (hD : Bys w b n bs) (hn : n ≤ 900000) (hr : rightP fold wss = true) (hm : -9223372036854775808 ≤ m ∧ m ≤ 9223372036854775807) (hyes : prbR (nodesL wss).length (longL wss) st wm n z d = true) :
  Calls Tryz.prog 31 #[.pointer (some ⟨B, 0, none⟩), .agg (blV nu st wm b n c), prV (z : Int) (d : Int), .int .i64 m] w fun e w' => ∃ v, e = .returned (.tuple #[prV (feedZ fold wss z (slcF bs d m) : Nat) (d + (takeN n d m : Nat)), v, .bool (decide ((d : Int) + (takeN n d m : Nat) = (n : Int)))]) ∧ OwnH w' w.heap.size v (slcH fold wss st wm bs z d m) ∧ Below w.heap.size w w' := by
 obtain ⟨i0, hi, hz0, hz1, hz2⟩ := info_parts hit_info
 obtain ⟨W, hW⟩ : ∃ W, W = ((((w.alloc (.cells #[.pointer (some ⟨B, 0, none⟩)] 64)).alloc (.cells (blV nu st wm b n c) 60)).alloc (.cells #[.int .i64 (z : Int), .int .i64 (d : Int)] 62)).alloc (.cells #[.int .i64 0, .int .i64 0] 62)).alloc (.cells #[.slice none 0 0] 67) := ⟨_, rfl⟩
 have hB : Below w.heap.size w W := by rw [hW]; exact (((((Below.refl _ _).alloc (Nat.le_refl _) _).alloc (by simp) _).alloc (by simp; omega) _).alloc (by simp; omega) _).alloc (by simp; omega) _
 have hsW : W.heap.size = w.heap.size + 1 + 1 + 1 + 1 + 1 := by rw [hW]; simp
 have hO : Bx w.heap.size [.cells #[.pointer (some ⟨B, 0, none⟩)] 64, .cells (blV nu st wm b n c) 60, .cells #[.int .i64 (z : Int), .int .i64 (d : Int)] 62, .cells #[.int .i64 0, .int .i64 0] 62, .cells #[.slice none 0 0] 67] W := by rw [hW]; exact (((((Bx.nil _ w).snoc _ rfl).snoc _ (by simp)).snoc _ (by simp)).snoc _ (by simp)).snoc _ (by simp)
 have HC : Hid (∀ V, RowKit.Below W.heap.size W V → V.cell? ⟨w.heap.size, 0, none⟩ = some (.pointer (some ⟨B, 0, none⟩)) ∧ (V.cell? ⟨w.heap.size + 1, 0, none⟩ = some (.int .i64 nu) ∧ V.cell? ⟨w.heap.size + 1, 1, none⟩ = some (.int .i64 st) ∧ V.cell? ⟨w.heap.size + 1, 2, none⟩ = some (.int .i64 wm) ∧ V.cell? ⟨w.heap.size + 1, 3, none⟩ = some (.slice b n c)) ∧ (V.cell? ⟨w.heap.size + 1 + 1, 0, none⟩ = some (.int .i64 (z : Int)) ∧ V.cell? ⟨w.heap.size + 1 + 1, 1, none⟩ = some (.int .i64 (d : Int))) ∧
   V.heap[w.heap.size]? = some (.cells #[.pointer (some ⟨B, 0, none⟩)] 64 (0, 0)) ∧ V.heap[w.heap.size + 1 + 1 + 1]? = some (.cells #[.int .i64 0, .int .i64 0] 62 (0, 0)) ∧ V.heap[w.heap.size + 1 + 1 + 1 + 1]? = some (.cells #[.slice none 0 0] 67 (0, 0)) ∧ RowKit.Below w.heap.size w V) := fun V hV => by
  have h := hO.below hV
  exact ⟨h.cell (i := 0) rfl rfl, ⟨h.cell (i := 1) rfl rfl, h.cell (i := 1) rfl rfl, h.cell (i := 1) rfl rfl, h.cell (i := 1) rfl rfl⟩, ⟨h.cell (i := 2) rfl rfl, h.cell (i := 2) rfl rfl⟩, h 0 _ rfl, h 3 _ rfl, h 4 _ rfl, hB.trans (hV.mono hB.size)⟩
 have HR := Lib.hid (right20_any nu st wm b n c z d W (h.below hB) (by omega))
 rw [hyes] at HR
 unfold prbR at hyes
 rw [Bool.and_eq_true] at hyes
 obtain ⟨hscn, hdd⟩ := hyes
 have hzd := of_decide_eq_true hdd
 have hzl : z < (nodesL wss).length := by omega
 have hdn : d ≤ n := by omega
 obtain ⟨s1, s2, s3, s4, s5, s6, s7⟩ := of_decide_eq_true hscn
 have hL1 := (longL_bd h.len).2
 have hwm6 : wm ≤ 1000000 := by omega
 have hDl : bs.length = n := hD.len
 have hFl : (slcF bs (d : Int) m).length = takeN n d m := by rw [slcF_len bs d m (by omega), hDl]
 have hT := takeN_le (n := n) (d := (d : Int)) (m := m) (by omega) (by omega)
 rw [Int.toNat_natCast] at hT
 have hFb : ∀ x ∈ slcF bs (d : Int) m, 0 ≤ x ∧ x < 256 := fun x hx => by have := hD.2 x (List.mem_of_mem_drop (List.mem_of_mem_take hx)); omega
 obtain ⟨F, hF⟩ : ∃ F, slcF bs (d : Int) m = F := ⟨_, rfl⟩
 obtain ⟨T, hTe⟩ : ∃ T, takeN n (d : Int) m = T := ⟨_, rfl⟩
 rw [hF] at hFl hFb
 rw [hTe] at hFl hT
 rw [hF, hTe]
 have HF := Lib.hid hF
 have HU := Lib.hid h
 have HD := Lib.hid hD
 have HB := Lib.hid hB
 clear hF hTe
 obtain ⟨q1, ⟨q2, q3, q4, q5⟩, ⟨q6, q7⟩, _⟩ := HC.out W (Below.refl _ _)
 clear hO h hD hB hscn hdd hzd s6 s7 hL1 hDl
 refine calls_of_wp_M Tryz.func31 rfl ?_
 simp only [Tryz.ntmps31, List.size_toArray, List.length_cons, List.length_nil, Nat.reduceAdd, Nat.reduceSub, Array.replicate_succ, Array.replicate_zero, List.push_toArray, List.append_toArray, List.nil_append, List.cons_append]
 go_upto_region 1 with fail
 rw [← hW]
 clear hW
 go_upto_region 3 with (go_at_call 34; refine HR.out.mono ?_; rintro e w1 ⟨rfl, hb1⟩)
 clear q1 q2 q3 q4 q5 q6 q7 HR
 obtain ⟨q1, ⟨q2, q3, q4, q5⟩, ⟨q6, q7⟩, q8, q9, q10, q11⟩ := HC.out w1 hb1
 have hm1 := hm.1
 have hm2 := hm.2
 have HQ8 := Lib.hid q8
 have HQ9 := Lib.hid q9
 have HQ10 := Lib.hid q10
 have HQ11 := Lib.hid q11
 clear q8 q9 q10 q11
 go_upto_region 4 with fail
 go_wp2_with (go_at_call 69; refine (next20_any _ _ _).mono ?_; rintro e w' ⟨rfl, rfl⟩)
 obtain ⟨W4, hW4⟩ : ∃ X, X = ((w1.alloc (.cells (sbQ nu st wm b n c z d) 123)).alloc (.cells #[.pointer (some ⟨w1.heap.size, 0, none⟩)] 180)).alloc (.cells #[.int .i64 m] 3) := ⟨_, rfl⟩
 have hO4 : Bx w1.heap.size [.cells (sbQ nu st wm b n c z d) 123, .cells #[.pointer (some ⟨w1.heap.size, 0, none⟩)] 180, .cells #[.int .i64 m] 3] W4 := by rw [hW4]; exact (((Bx.nil _ w1).snoc _ rfl).snoc _ (by simp)).snoc _ (by simp)
 have hb4 : RowKit.Below w1.heap.size w1 W4 := by rw [hW4]; exact ((below_alloc w1 _).alloc (by simp) _).alloc (by simp; omega) _
 have hs4 : W4.heap.size = w1.heap.size + 1 + 1 + 1 := by rw [hW4]; simp
 rw [show ((w1.alloc (.cells #[.int .i64 nu, .int .i64 st, .int .i64 wm, .slice b n c, .int .i64 (z : Int), .int .i64 (d : Int)] 123)).alloc (.cells #[.pointer (some ⟨w1.heap.size, 0, none⟩)] 180)).alloc (.cells #[.int .i64 m] 3) = W4 from hW4.symm]
 clear hW4 q1 q2 q3 q4 q5 q6 q7
 have g4 : SbX w1.heap.size nu st wm b n c z d W4 := hO4 0 _ rfl
 have b2 : Boxed W4 (w1.heap.size + 1) 180 (.pointer (some ⟨w1.heap.size, 0, none⟩)) := hO4 1 _ rfl
 have b3 : Boxed W4 (w1.heap.size + 1 + 1) 3 (.int .i64 m) := hO4 2 _ rfl
 have hsw : w.heap.size + 1 + 1 + 1 + 1 < w1.heap.size := by have := hb1.size; omega
 have hbw4 : RowKit.Below w.heap.size w W4 := HQ11.out.trans (hb4.mono HQ11.out.size)
 have hce : CellsK w W4 := ⟨hbw4.size, fun k cs t f hk => (hbw4.block k (KpL.lt (bl := 0) hk)).trans hk⟩
 have bl4 : Boxed W4 (w.heap.size + 1 + 1 + 1 + 1) 67 (.slice none 0 0) := (hb4.block _ (by omega)).trans HQ10.out
 have bm4 : W4.heap[w.heap.size]? = some (.cells #[.pointer (some ⟨B, 0, none⟩)] 64 (0, 0)) := (hb4.block _ (by omega)).trans HQ8.out
 have bz4 : W4.heap[w.heap.size + 1 + 1 + 1]? = some (.cells #[.int .i64 0, .int .i64 0] 62 (0, 0)) := (hb4.block _ (by omega)).trans HQ9.out
 have hrow : ∀ r, rowAt (w.heap.size + 1 + 1 + 1 + 1) W4 ≠ some r := fun r e => by
  unfold rowAt at e
  rw [bl4.cell] at e
  cases e
 have hps := next20_stops (g := w1.heap.size) (q := w1.heap.size + 1 + 1) (p2 := w1.heap.size + 1) (bl := w.heap.size + 1 + 1 + 1 + 1) nu st wm z b n c d m bs 8 w W4 HD.out hce (by omega) (by omega) (by omega) ⟨⟨by omega, by omega, by omega⟩, by omega, by omega, by omega⟩ bl4.lt b3 b2 g4 hrow hdn (by omega) ⟨s1, s2⟩ ⟨s3, hwm6⟩ hm
 rw [HF.out, hFl] at hps
 have HZF : Hid (ndN fold wss z F (List.range T) = feedZ fold wss z F) := by rw [Hid, ← hFl, ndN_range z F.length (Nat.le_refl _), List.take_length]
 have HHF : Hid (hsN fold wss st (st - wm + d) F z (List.range T) = slcH fold wss st wm bs z d m) := by
  rw [Hid, ← hFl, hsN_range st _ z F.length (Nat.le_refl _), List.take_length]
  unfold slcH
  rw [HF.out, Int.toNat_natCast]
 have HFB := Lib.hid hFb
 have HEN : Hid (∀ j, enN (st - wm + d) F j ≤ 4611686020574871551 + 900000 + 1 ∧ -1000000 < enN (st - wm + d) F j) := fun j => by
  have := enN_bd (F := F) (st - wm + d) j
  rw [hFl] at this
  omega
 have HZL := Lib.hid hzl
 have HNL : Hid ((nodesL wss).length ≤ 1000) := (right_facts hr).1
 have HI6 := Lib.hid (right_facts hr).2
 obtain ⟨p, hp⟩ : ∃ p : Int, st - wm + d = p := ⟨_, rfl⟩
 rw [hp] at hps HHF HEN
 obtain ⟨g, hg⟩ : ∃ g, w1.heap.size = g := ⟨_, rfl⟩
 rw [hg] at hps hs4 g4 hsw ⊢
 obtain ⟨bl, hbl⟩ : ∃ k, w.heap.size + 1 + 1 + 1 + 1 = k := ⟨_, rfl⟩
 rw [hbl] at hps bl4 hsw ⊢
 have hT9 : T ≤ 900000 := by omega
 clear hO4 hb4 b2 b3 hce hrow HQ8 HQ9 HQ10 HQ11 HC hg hp hFb hFl hb1 hsW hm
 have hbl2 : w.heap.size + 1 + 1 + 1 < bl := by omega
 have HBL := Lib.hid hbl
 clear hbl
 apply rangeX rfl (enters_of Tryz.func102 (by kernel_rfl) rfl) hps (PbN.lt (by omega) (by omega)) ?hSk KpN.t (KpN.b (by omega) (by omega)) (fun _ => rfl)
  (fun pre V => HoldsH bl W4.heap.size (hsN fold wss st p F z pre) V ∧ (∃ d', SbX g nu st wm b n c ((ndN fold wss z F pre : Nat) : Int) d' V) ∧ RowKit.Below w.heap.size w V ∧ (W4.heap.size ≤ V.heap.size ∧ V.heap[w.heap.size]? = some (.cells #[.pointer (some ⟨B, 0, none⟩)] 64 (0, 0)) ∧ V.heap[w.heap.size + 1 + 1 + 1]? = some (.cells #[.int .i64 0, .int .i64 0] 62 (0, 0))))
  (fun _ _ _ => False)
 case wA => exact fun _ W => W
 case hwA => exact fun x W => Below.refl _ _
 case hSk =>
  rintro xs V l o o' hl ho hc ⟨e, z', hG⟩
  refine ⟨e, z', ?_⟩
  unfold SbX at hG ⊢
  rw [World.putObj_heap_other (by omega)]
  exact hG
 case hKg => exact fun x W hW => KpN.of_below (Below.refl _ _) (by omega)
 case hI => exact OwnsX.and (holdsN_owns (Nat.le_refl _) (by omega) (fun r W W' hr => by rcases hr with rfl | ⟨rfl, _⟩ <;> omega) (hsN fold wss st p F z)) (OwnsX.and (SbX.owns (by omega) (fun pre => ((ndN fold wss z F pre : Nat) : Int))) (OwnsX.and (OwnsX.below (by omega) (by omega) (fun r W W' hr => by rcases hr with rfl | ⟨rfl, _⟩ <;> omega)) (OwnsX.and (OwnsX.size _ _ _) (OwnsX.and (OwnsX.block _ _ _ _ _ _ (fun W W' hr => by rcases hr with h | ⟨h, _⟩ <;> omega)) (OwnsX.block _ _ _ _ _ _ (fun W W' hr => by rcases hr with h | ⟨h, _⟩ <;> omega))))))
 case hIx => exact fun _ _ _ _ _ hs _ _ => hs
 case h0 => exact ⟨⟨_, bl4, World.ownsRow_nil _ _ _ _⟩, ⟨_, g4⟩, hbw4, Nat.le_refl _, bm4, bz4⟩
 case hassign =>
  intro l x W K hK
  unfold byEnc
  gi_wp2
  exact hK
 case hbody =>
  rintro l pre j Wb V hCE ⟨⟨v, hv, hown⟩, ⟨d', hsb⟩, hBe, hsz, hmb, hrb⟩ hlen
  try dsimp only
  obtain ⟨zc, hzc⟩ : ∃ zc, ndN fold wss z F pre = zc := ⟨_, rfl⟩
  have hzcl : zc < (nodesL wss).length := by rw [← hzc]; exact ndN_lt HZL.out pre
  rw [hzc] at hsb
  obtain ⟨hc0, hc1⟩ := byN_byte HFB.out j
  obtain ⟨cb, hcb⟩ : ∃ cb : Nat, byN F j = (cb : Int) := ⟨(byN F j).toNat, by omega⟩
  have hcb6 : cb < 256 := by omega
  obtain ⟨he1, he2⟩ := HEN.out j
  obtain ⟨E, hE⟩ : ∃ E, enN p F j = E := ⟨_, rfl⟩
  obtain ⟨y, hy⟩ : ∃ y, nextZ fold wss zc (cb : Int) = y := ⟨_, rfl⟩
  have HND : Hid (ndN fold wss z F (pre ++ [j]) = y) := by rw [Hid, ndN_snoc, hzc, hcb, hy]
  have HHS : Hid (hsN fold wss st p F z (pre ++ [j]) = hsN fold wss st p F z pre ++ (if st < E then (words9 wss y).map (fun v => ((E, v) : HitP)) else [])) := by rw [Hid, hsN_snoc, hzc, hcb, hy, hE]
  have hm1 := hsN_len (fold := fold) (ws := wss) (F := F) st p pre z HZL.out
  have hm2 : (nodesL wss).length * pre.length ≤ 1000 * 900000 := Nat.mul_le_mul HNL.out (by omega)
  obtain ⟨Hp, hHp⟩ : ∃ X, hsN fold wss st p F z pre = X := ⟨_, rfl⟩
  rw [hHp] at hown hm1 HHS
  obtain ⟨m0, hm0⟩ : ∃ X, Hp.length = X := ⟨_, rfl⟩
  have hm3 : m0 ≤ 900000000 := by omega
  obtain ⟨x, hx⟩ : ∃ x, (nodesL wss)[zc]? = some x := ⟨_, List.getElem?_eq_getElem hzcl⟩
  have hn1 := (nextZ_at (fold := fold) hx (cb : Int))
  have hyl := (List.getElem?_eq_some_iff.1 hn1.1).1
  rw [hy] at hyl
  have hw13 : words13 wss (y : Int) = words9 wss y := by
   unfold words13
   rw [if_pos ⟨by omega, by omega⟩, Int.toNat_natCast]
  have KS : Hid (∀ X, RowKit.Below w.heap.size w X → Calls Tryz.prog 70 #[.pointer (some ⟨B, 0, none⟩), .int .i64 (zc : Int), .int .u8 (cb : Int)] X fun e w' => e = .returned (.tuple #[.int .i64 (y : Int), .bool true]) ∧ RowKit.Below X.heap.size X w') := fun X hX => by
   have h := (HU.out.below hX).step (zc : Int) cb hcb6
   rw [goD_tab (HU.out.below hX).ok hx hcb6, hn1.2, hy] at h
   exact h
  obtain ⟨nw, hnw⟩ : ∃ X, (words9 wss y).length = X := ⟨_, rfl⟩
  have hnw6 : nw ≤ 1000 := by rw [← hnw]; exact Nat.le_trans (words9_len wss y) (by have := HNL.out; omega)
  obtain ⟨D, hD0⟩ : ∃ X, (words9 wss y).map (fun v => ((E, v) : HitP)) = X := ⟨_, rfl⟩
  rw [hD0] at HHS
  have KH : Hid (∀ X, RowKit.Below w.heap.size w X → Calls Tryz.prog 71 #[.pointer (some ⟨B, 0, none⟩), .int .i64 (y : Int), .int .i64 E] X fun e w' => ∃ (a : Option Addr) (c : Nat), e = .returned (.slice a nw c) ∧ Hts w' a nw D ∧ RowKit.Below X.heap.size X w') := fun X hX => by
   have h := (HU.out.below hX).hits (y : Int) E (by unfold I64; omega) (HI6.out _)
   rw [hw13, hD0, hnw] at h
   exact h.mono fun e w' ⟨a, c, h1, h2, h4, h3⟩ => ⟨a, c, h1, h2, h3⟩
  have HDL : Hid (D.length = nw) := by rw [Hid, ← hD0, List.length_map, hnw]
  have KC : Hid (∀ X, RowKit.Below V.heap.size V X → X.cell? ⟨w.heap.size, 0, none⟩ = some (.pointer (some ⟨B, 0, none⟩))) := fun X hX => by
   have h := (hX.block _ (Array.getElem?_eq_some_iff.1 hmb).1).trans hmb
   simp [World.cell?, h]
  have HM0 := Lib.hid hm0
  have HHP := Lib.hid hHp
  unfold OwnH at hown
  rw [hm0] at hown
  obtain ⟨av, cv, rfl, _, _⟩ := SlK.own hown
  have HV := Lib.hid hv
  have HOW := Lib.hid hown
  have HSB := Lib.hid hsb
  have HBE := Lib.hid hBe
  have HMB := Lib.hid hmb
  have HRB := Lib.hid hrb
  have hblV := hv.lt
  rw [hE, hcb]
  obtain ⟨⟨g0, g1, g2, g3, g4, g5⟩, f4, f5⟩ := hsb.cells
  have c0 := KC.out V (Below.refl _ _)
  clear hzc hzcl hc0 hc1 hE hcb hy hm1 hm2 hHp hm0 hx hn1 hyl hw13 hnw hD0 hv hown hsb hBe hmb hrb
  gi_wp2_with fail
  refine (callsIn_wide.2 (KS.out V HBE.out)).mono ?_
  rintro e w2 ⟨rfl, hb2⟩
  clear g0 g1 g2 g3 g4 g5 f4 f5 c0
  have hsb2 := HSB.out.below hb2
  obtain ⟨⟨g0, g1, g2, g3, g4, g5⟩, f4, f5⟩ := hsb2.cells
  obtain ⟨W5, hW5⟩ : ∃ X, X = w2.setCell ⟨g, 4, none⟩ (.int .i64 (y : Int)) := ⟨_, rfl⟩
  have hgV : g < V.heap.size := HSB.out.lt
  have hgr2 := grown_set2 w2 g 4 (.int .i64 (y : Int))
  rw [← hW5] at hgr2
  have hsb5 : SbX g nu st wm b n c (y : Int) d' W5 := by rw [hW5]; exact hsb2.node _
  have hkp5 : KpN bl g V W5 := by rw [hW5]; exact (KpN.of_below hb2 hblV).t (KpN.node (by omega) w2 _)
  have hv5 : Boxed W5 bl 67 (.slice av m0 cv) := (hgr2.block bl (by have := hb2.size; omega) (fun e => by have := Option.some.inj e; omega)).trans ((hb2.block bl hblV).trans HV.out)
  have hown5 : W5.ownsRow W4.heap.size 87 2 (.slice av m0 cv) m0 (hcells Hp) := (own_below_ HOW.out hb2).kept hgr2 (.inr fun e => by have := (row_lt HOW.out g e).1; omega)
  have hbe5 : RowKit.Below w.heap.size w W5 := by rw [hW5]; exact (HBE.out.trans (hb2.mono HBE.out.size)).setCell (by show w.heap.size ≤ g; omega) _
  have hmb5 : W5.heap[w.heap.size]? = some (.cells #[.pointer (some ⟨B, 0, none⟩)] 64 (0, 0)) := (hgr2.block _ (by have := hb2.size; omega) (fun e => by have := Option.some.inj e; omega)).trans ((hb2.block _ (by omega)).trans HMB.out)
  have hrb5 : W5.heap[w.heap.size + 1 + 1 + 1]? = some (.cells #[.int .i64 0, .int .i64 0] 62 (0, 0)) := (hgr2.block _ (by have := hb2.size; omega) (fun e => by have := Option.some.inj e; omega)).trans ((hb2.block _ (by omega)).trans HRB.out)
  have hsz5 : V.heap.size ≤ W5.heap.size := by rw [hW5]; have := hb2.size; simpa [World.setCell] using this
  have hko5 : KeepsOthers V W5 := ⟨hsz5, fun k o ho hc => by
   have hk := (Array.getElem?_eq_some_iff.1 ho).1
   refine (hgr2.block k (by have := hb2.size; omega) (fun e => ?_)).trans ((hb2.block k hk).trans ho)
   have e' : k = g := Option.some.inj e
   have h := HSB.out
   unfold SbX at h
   rw [e', h] at ho
   cases ho
   cases hc⟩
  have HSB5 := Lib.hid hsb5
  have HKP5 := Lib.hid hkp5
  have HV5 := Lib.hid hv5
  have HOW5 := Lib.hid hown5
  have HBE5 := Lib.hid hbe5
  have HMB5 := Lib.hid hmb5
  have HRB5 := Lib.hid hrb5
  have HKO5 := Lib.hid hko5
  clear hgr2 hsb5 hkp5 hv5 hown5 hbe5 hmb5 hrb5 hko5 HSB HV HOW HBE HMB HRB KC KS hsb2
  by_cases hgt : st < E
  case neg =>
   have d1 : decide (st < E) = false := by simpa using hgt
   rw [if_neg hgt, List.append_nil] at HHS
   gi_wp2
   rw [← hW5]
   refine ⟨HKO5.out.from _, HKP5.out, ⟨_, HV5.out, ?_⟩, ⟨d', by rw [HND.out]; exact HSB5.out⟩, HBE5.out, by omega, HMB5.out, HRB5.out⟩
   rw [HHS.out]
   unfold OwnH
   rw [HM0.out]
   exact HOW5.out
  case pos =>
   have d1 : decide (st < E) = true := by simpa using hgt
   rw [if_pos hgt] at HHS
   gi_wp2
   rw [← hW5]
   clear g0 g1 g2 g3 g4 g5 f4 f5
   -- region 9
   refine regionR_held_drew (S := KeptB W4.heap.size bl W5) mixed (by kernel_rfl) ⟨fun _ _ _ => rfl, (by show W4.heap.size ≤ W5.heap.size; omega)⟩ (fun hS6 => ?_)
   obtain ⟨W6, hW6⟩ : ∃ X, X = W5.drew := ⟨_, rfl⟩
   have hb56 : RowKit.Below W5.heap.size W5 W6 := by rw [hW6]; exact bel_drewN W5 1
   rw [← hW6] at hS6 ⊢
   clear hW6
   have K5C : Hid (∀ X, KeptB W4.heap.size bl W5 X → X.cell? ⟨w.heap.size, 0, none⟩ = some (.pointer (some ⟨B, 0, none⟩)) ∧ X.cell? ⟨g, 4, none⟩ = some (.int .i64 (y : Int))) := fun X hX => by
    have h1 := (hX.1 _ (by omega) (by omega)).trans HMB5.out
    have h2 : SbX g nu st wm b n c (y : Int) d' X := (hX.1 g (by omega) (by omega)).trans HSB5.out
    exact ⟨by simp [World.cell?, h1], h2.cells.1.2.2.2.2.1⟩
   refine tkW 1 (v := ?_) ?_ ?_
   rotate_left
   ·
    intro V hV
    obtain ⟨q0, q1⟩ := K5C.out V hV
    first | (go_simp; done) | (go_simp; with_reducible rfl)
   try simp only [Act.put, pA, pB, pC]
   refine tkW 2 (v := ?_) ?_ ?_
   rotate_left
   ·
    intro V hV
    obtain ⟨q0, q1⟩ := K5C.out V hV
    first | (go_simp; done) | (go_simp; with_reducible rfl)
   try simp only [Act.put, pA, pB, pC]
   refine tkW 3 (v := ?_) ?_ ?_
   rotate_left
   ·
    intro V hV
    obtain ⟨q0, q1⟩ := K5C.out V hV
    first | (go_simp; done) | (go_simp; with_reducible rfl)
   try simp only [Act.put, pA, pB, pC]
   refine tkW 4 (v := ?_) ?_ ?_
   rotate_left
   ·
    intro V hV
    obtain ⟨q0, q1⟩ := K5C.out V hV
    first | (go_simp; done) | (go_simp; with_reducible rfl)
   try simp only [Act.put, pA, pB, pC]
   refine tkW 5 (v := ?_) ?_ ?_
   rotate_left
   ·
    intro V hV
    obtain ⟨q0, q1⟩ := K5C.out V hV
    first | (go_simp; done) | (go_simp; with_reducible rfl)
   try simp only [Act.put, pA, pB, pC]
   refine wpAnyH_ready (rs := [0,6]) (by as_aux_lemma => kernel_rfl) (by simp) ?_
   refine AllReadyH.cons (by simp only [pD, pE, pF]; rfl) (fun K hK => ?_) (AllReadyH.cons (by simp only [pD, pE, pF]; rfl) (fun K hK => ?_) AllReadyH.nil)
   ·
    have q3 : Boxed W6 bl 67 (.slice av m0 cv) := (hb56.block bl HV5.out.lt).trans HV5.out
    have q2 := q3.cell
    clear q3
    go_simp
    refine hK.out _ _ hS6 (fun _ => ?_)
    clear hK K q2
    try simp only [Act.put, pA, pB, pC]
    refine rdy 6 (fun K hK => ?_)
    go_simp
    go_at_call 71; refine (KH.out W6 (HBE5.out.trans (hb56.mono HBE5.out.size))).mono ?_; rintro e w7 ⟨a9, c9, rfl, hts, hb7⟩
    refine hK.out _ _ (⟨fun k h1 _ => (hb56.trans (hb7.mono hb56.size)).block k (by omega), Nat.le_trans (by omega) (hb56.trans (hb7.mono hb56.size)).size⟩) (fun hS7 => ?_)
    clear hK K
    try simp only [Act.put, pA, pB, pC]
    have hb57 := hb56.trans (hb7.mono hb56.size)
    have HT7 := Lib.hid hts
    clear hts hb7 hS7
    have hS7 : KeptB W4.heap.size bl W5 w7 := ⟨fun k h1 _ => hb57.block k (by omega), Nat.le_trans (by omega) hb57.size⟩
    have HV7 : Hid (Boxed w7 bl 67 (.slice av m0 cv)) := (hb57.block bl HV5.out.lt).trans HV5.out
    have HOW7 : Hid (w7.ownsRow W4.heap.size 87 2 (.slice av m0 cv) m0 (hcells Hp)) := own_below_ HOW5.out hb57
    have HBE7 : Hid (RowKit.Below w.heap.size w w7) := HBE5.out.trans (hb57.mono HBE5.out.size)
    have HMB7 : Hid (w7.heap[w.heap.size]? = some (.cells #[.pointer (some ⟨B, 0, none⟩)] 64 (0, 0))) := (hb57.block _ (by omega)).trans HMB5.out
    have HRB7 : Hid (w7.heap[w.heap.size + 1 + 1 + 1]? = some (.cells #[.int .i64 0, .int .i64 0] 62 (0, 0))) := (hb57.block _ (by omega)).trans HRB5.out
    have HSB7 : Hid (SbX g nu st wm b n c (y : Int) d' w7) := HSB5.out.below hb57
    have HKO7 : Hid (KeepsOthers W5 w7) := ⟨hb57.size, fun k o ho hc => (hb57.block k (Array.getElem?_eq_some_iff.1 ho).1).trans ho⟩
    have HKP7 : Hid (KpN bl g V w7) := HKP5.out.t (KpN.of_below hb57 HV5.out.lt)
    clear hb57
    refine rdy 7 (fun K hK => ?_)
    refine wanted_step (by kernel_rfl) ?_
    refine oper_append_slK _ _ _ 67 rfl W4.heap.size 87 i0 (.agg #[.int .i64 0, .int .i64 0]) 2 16 Tryz.underlying67 hi hz0 hz1 hz2 rfl (by decide) _ m0 _ rfl HOW7.out a9 nw c9 (hcells D) rfl HT7.out.1 (hcells_one _) (by unfold maxLen; omega) (by omega) hS7.2 ?_
    intro v' w8 hown' hgrow hat
    obtain ⟨a8, c8, rfl, _, _⟩ := SlK.own hown'
    obtain ⟨k1, k2, k3, k4, k5, k6, k7⟩ := kpn_append (g := g) HV7.out HOW7.out hgrow hat hown' (by omega) (by omega) (by omega) hS7.2
    have hS8 : KeptB W4.heap.size bl W5 w8 := ⟨fun k h1 h2 => (Below.heap_setCell w8 ⟨bl, 0, none⟩ _ k h2).symm.trans ((k6 k h1 h2).trans (hS7.1 k h1 h2)), k7⟩
    have hS9 : KeptB W4.heap.size bl W5 (w8.setCell ⟨bl, 0, none⟩ (.slice a8 (m0 + nw) c8)) := ⟨fun k h1 h2 => (k6 k h1 h2).trans (hS7.1 k h1 h2), by simpa [World.setCell] using k7⟩
    have HB8 : Hid (RowKit.Below w.heap.size w (w8.setCell ⟨bl, 0, none⟩ (.slice a8 (m0 + nw) c8))) := (HBE7.out.grown hgrow HBE7.out.size (fun j hj => by have := (row_lt HOW7.out j hj).1; omega)).setCell (by show w.heap.size ≤ bl; omega) _
    refine hK.out _ _ hS8 (fun hNew => ?_)
    clear hK K hNew hat hgrow
    have d2 := k2.cell
    have d3 := k2.frozen
    have d4 := k2.lt
    have K1 := Lib.hid k1
    have K3 := Lib.hid k3
    have K4 := Lib.hid k4
    have K5 := Lib.hid k5
    have K6 := Lib.hid k6
    clear k1 k2 k3 k4 k5 k6
    try simp only [Act.put, pA, pB, pC]
    refine rdy 8 (fun K hK => ?_)
    go_simp
    refine hK.out _ _ hS9 (fun hNew => ?_)
    clear hK K hNew
    try simp only [Act.put, pA, pB, pC]
    refine wpAnyH_done (by kernel_rfl) ?_ _
    refine OnlyN.normal ?_
    gi_wp2
    refine ⟨((HKO5.out.from _).trans (HKO7.out.from _)).trans (K5.out.from _), HKP7.out.t K1.out, ⟨_, K3.out, ?_⟩, ⟨d', ?_⟩, HB8.out, by simpa [World.setCell] using k7, (K6.out _ (by omega) (by omega)).trans HMB7.out, (K6.out _ (by omega) (by omega)).trans HRB7.out⟩
    ·
     rw [HHS.out]
     unfold OwnH
     rw [List.length_append, HM0.out, HDL.out, hcells_append]
     exact K4.out
    ·
     rw [HND.out]
     exact (K6.out g (by omega) (by omega)).trans HSB7.out
   ·
    go_simp
    go_at_call 71; refine (KH.out W6 (HBE5.out.trans (hb56.mono HBE5.out.size))).mono ?_; rintro e w7 ⟨a9, c9, rfl, hts, hb7⟩
    have hb57 := hb56.trans (hb7.mono hb56.size)
    refine hK.out _ _ ⟨fun k h1 _ => hb57.block k (by omega), Nat.le_trans (by omega) hb57.size⟩ (fun hS7 => ?_)
    clear hK K
    try simp only [Act.put, pA, pB, pC]
    have HT7 := Lib.hid hts
    have q3 : Boxed w7 bl 67 (.slice av m0 cv) := (hb57.block bl HV5.out.lt).trans HV5.out
    have q2 := q3.cell
    clear q3
    refine rdy 0 (fun K hK => ?_)
    go_simp
    refine hK.out _ _ hS7 (fun _ => ?_)
    clear hK K q2 hts hb7 hS7
    try simp only [Act.put, pA, pB, pC]
    have hS7 : KeptB W4.heap.size bl W5 w7 := ⟨fun k h1 _ => hb57.block k (by omega), Nat.le_trans (by omega) hb57.size⟩
    have HV7 : Hid (Boxed w7 bl 67 (.slice av m0 cv)) := (hb57.block bl HV5.out.lt).trans HV5.out
    have HOW7 : Hid (w7.ownsRow W4.heap.size 87 2 (.slice av m0 cv) m0 (hcells Hp)) := own_below_ HOW5.out hb57
    have HBE7 : Hid (RowKit.Below w.heap.size w w7) := HBE5.out.trans (hb57.mono HBE5.out.size)
    have HMB7 : Hid (w7.heap[w.heap.size]? = some (.cells #[.pointer (some ⟨B, 0, none⟩)] 64 (0, 0))) := (hb57.block _ (by omega)).trans HMB5.out
    have HRB7 : Hid (w7.heap[w.heap.size + 1 + 1 + 1]? = some (.cells #[.int .i64 0, .int .i64 0] 62 (0, 0))) := (hb57.block _ (by omega)).trans HRB5.out
    have HSB7 : Hid (SbX g nu st wm b n c (y : Int) d' w7) := HSB5.out.below hb57
    have HKO7 : Hid (KeepsOthers W5 w7) := ⟨hb57.size, fun k o ho hc => (hb57.block k (Array.getElem?_eq_some_iff.1 ho).1).trans ho⟩
    have HKP7 : Hid (KpN bl g V w7) := HKP5.out.t (KpN.of_below hb57 HV5.out.lt)
    clear hb57
    refine rdy 7 (fun K hK => ?_)
    refine wanted_step (by kernel_rfl) ?_
    refine oper_append_slK _ _ _ 67 rfl W4.heap.size 87 i0 (.agg #[.int .i64 0, .int .i64 0]) 2 16 Tryz.underlying67 hi hz0 hz1 hz2 rfl (by decide) _ m0 _ rfl HOW7.out a9 nw c9 (hcells D) rfl HT7.out.1 (hcells_one _) (by unfold maxLen; omega) (by omega) hS7.2 ?_
    intro v' w8 hown' hgrow hat
    obtain ⟨a8, c8, rfl, _, _⟩ := SlK.own hown'
    obtain ⟨k1, k2, k3, k4, k5, k6, k7⟩ := kpn_append (g := g) HV7.out HOW7.out hgrow hat hown' (by omega) (by omega) (by omega) hS7.2
    have hS8 : KeptB W4.heap.size bl W5 w8 := ⟨fun k h1 h2 => (Below.heap_setCell w8 ⟨bl, 0, none⟩ _ k h2).symm.trans ((k6 k h1 h2).trans (hS7.1 k h1 h2)), k7⟩
    have hS9 : KeptB W4.heap.size bl W5 (w8.setCell ⟨bl, 0, none⟩ (.slice a8 (m0 + nw) c8)) := ⟨fun k h1 h2 => (k6 k h1 h2).trans (hS7.1 k h1 h2), by simpa [World.setCell] using k7⟩
    have HB8 : Hid (RowKit.Below w.heap.size w (w8.setCell ⟨bl, 0, none⟩ (.slice a8 (m0 + nw) c8))) := (HBE7.out.grown hgrow HBE7.out.size (fun j hj => by have := (row_lt HOW7.out j hj).1; omega)).setCell (by show w.heap.size ≤ bl; omega) _
    refine hK.out _ _ hS8 (fun hNew => ?_)
    clear hK K hNew hat hgrow
    have d2 := k2.cell
    have d3 := k2.frozen
    have d4 := k2.lt
    have K1 := Lib.hid k1
    have K3 := Lib.hid k3
    have K4 := Lib.hid k4
    have K5 := Lib.hid k5
    have K6 := Lib.hid k6
    clear k1 k2 k3 k4 k5 k6
    try simp only [Act.put, pA, pB, pC]
    refine rdy 8 (fun K hK => ?_)
    go_simp
    refine hK.out _ _ hS9 (fun hNew => ?_)
    clear hK K hNew
    try simp only [Act.put, pA, pB, pC]
    refine wpAnyH_done (by kernel_rfl) ?_ _
    refine OnlyN.normal ?_
    gi_wp2
    refine ⟨((HKO5.out.from _).trans (HKO7.out.from _)).trans (K5.out.from _), HKP7.out.t K1.out, ⟨_, K3.out, ?_⟩, ⟨d', ?_⟩, HB8.out, by simpa [World.setCell] using k7, (K6.out _ (by omega) (by omega)).trans HMB7.out, (K6.out _ (by omega) (by omega)).trans HRB7.out⟩
    ·
     rw [HHS.out]
     unfold OwnH
     rw [List.length_append, HM0.out, HDL.out, hcells_append]
     exact K4.out
    ·
     rw [HND.out]
     exact (K6.out g (by omega) (by omega)).trans HSB7.out
   -- region 9, end
 case hstop => exact fun _ _ _ _ _ _ h _ => h.elim
 case hdone =>
  rintro D zs V hD ⟨rfl, z', hG⟩ ⟨⟨v, hv, hown⟩, ⟨d2, hsb⟩, hBe, hsz, hmb, hrb⟩ hD2
  obtain ⟨-, rfl⟩ := hsb.same hG
  rw [HHF.out] at hown
  rw [HZF.out] at hsb
  obtain ⟨zf, hzf⟩ : ∃ X, feedZ fold wss z F = X := ⟨_, rfl⟩
  rw [hzf] at hsb
  obtain ⟨av, cv, rfl, _, _⟩ := SlK.own hown
  obtain ⟨nl, hnl⟩ : ∃ X, (slcH fold wss st wm bs z d m).length = X := ⟨_, rfl⟩
  rw [hnl] at hv hown
  obtain ⟨dT, hdT⟩ : ∃ X : Int, (d : Int) + (T : Int) = X := ⟨_, rfl⟩
  rw [hdT] at hsb
  have HZF2 := Lib.hid hzf
  have HDT := Lib.hid hdT
  have HNL2 := Lib.hid hnl
  obtain ⟨Dr, hDr⟩ : ∃ k, w.heap.size + 1 + 1 + 1 = k := ⟨_, rfl⟩
  have hbD : bl ≠ Dr := by omega
  have hgD : g ≠ Dr := by omega
  have hDD : D ≠ Dr := by omega
  have hwD : w.heap.size ≤ Dr := by omega
  have hDW : Dr < bl := by omega
  have HDr := Lib.hid hDr
  rw [hDr] at hrb ⊢
  clear hDr
  have KX : Hid (∀ X, ((∀ k, k ≠ Dr → k ≠ bl → X.heap[k]? = V.heap[k]?) ∧ X.cell? ⟨bl, 0, none⟩ = some (.slice av nl cv)) → SbX g nu st wm b n c (zf : Int) dT X) := fun X hX => (hX.1 g hgD (by omega)).trans hsb
  have HV := Lib.hid hv
  have HOW := Lib.hid hown
  have HRB := Lib.hid hrb
  have HBE := Lib.hid hBe
  have HD2 := Lib.hid hD2
  clear hown hsb hG hmb hrb hBe hzf hdT hnl hD2
  go_wp2_with fail
  refine wp_region_noPanic ?_
  refine wp_region_held_drew (S := fun X => ((∀ k, k ≠ Dr → k ≠ bl → X.heap[k]? = V.heap[k]?) ∧ X.cell? ⟨bl, 0, none⟩ = some (.slice av nl cv))) (by kernel_rfl) ⟨fun _ _ _ => rfl, hv.cell⟩ (fun hS => ?_)
  obtain ⟨V1, hV1⟩ : ∃ X, X = V.drew := ⟨_, rfl⟩
  have HV1 : Hid (Boxed V1 bl 67 (.slice av nl cv)) := by rw [hV1]; exact HV.out
  have HOW1 : Hid (OwnH V1 W4.heap.size (.slice av nl cv) (slcH fold wss st wm bs z d m)) := by rw [hV1]; exact HOW.out
  have HRB1 : Hid (V1.heap[Dr]? = some (.cells #[.int .i64 0, .int .i64 0] 62 (0, 0))) := by rw [hV1]; exact HRB.out
  have HBE1 : Hid (RowKit.Below w.heap.size w V1) := by rw [hV1]; exact HBE.out.trans ((bel_drewN V 1).mono HBE.out.size)
  have HD1 : Hid (V1.heap[D]? = some (.deferred (some []))) := by rw [hV1]; exact HD2.out
  rw [← hV1] at hS ⊢
  clear hV1 hv HV HOW HRB HBE HD2
  change wpAnyH _ _ _ _ _ 14 _ _ _
  iterate 11 (refine tkF 13 (v := ?_) ?_ ?_; rotate_left; (· intro V hV; have c2 := hV.2; obtain ⟨⟨g0, g1, g2, g3, g4, g5⟩, f4, f5⟩ := (KX.out V hV).cells; first | (go_simp; done) | (go_simp; with_reducible rfl)); try simp only [Act.put, pA, pB, pC])
  have hrb1 := HRB1.out
  have r0 : V1.cell? ⟨Dr, 0, none⟩ = some (.int .i64 0) := by simp [World.cell?, hrb1]
  have r1 : V1.cell? ⟨Dr, 1, none⟩ = some (.int .i64 0) := by simp [World.cell?, hrb1]
  have r2 : V1.frozen? ⟨Dr, 0, none⟩ = false := by simp [World.frozen?, hrb1]
  have r3 : V1.frozen? ⟨Dr, 1, none⟩ = false := by simp [World.frozen?, hrb1]
  have hs2 := set2 (u0 := .int .i64 (zf : Int)) (u1 := .int .i64 dT) hrb1
  clear hrb1
  refine rdy 11 (fun K hK => ?_)
  go_simp
  obtain ⟨V2, hV2⟩ : ∃ X, X = (V1.setCell ⟨Dr, 0, none⟩ (.int .i64 (zf : Int))).setCell ⟨Dr, 1, none⟩ (.int .i64 dT) := ⟨_, rfl⟩
  rw [← hV2] at hs2 ⊢
  have hsame : ∀ k, k ≠ Dr → V2.heap[k]? = V1.heap[k]? := fun k hk => by rw [hV2]; exact (Below.heap_setCell _ ⟨Dr, 1, none⟩ _ k hk).trans (Below.heap_setCell V1 ⟨Dr, 0, none⟩ _ k hk)
  have hv2 : Boxed V2 bl 67 (.slice av nl cv) := (hsame bl hbD).trans HV1.out
  have HB2 : Hid (RowKit.Below w.heap.size w V2) := by rw [hV2]; exact (HBE1.out.setCell hwD _).setCell hwD _
  have HR2 : Hid (V2.heap[Dr]? = some (.cells #[.int .i64 (zf : Int), .int .i64 dT] 62 (0, 0))) := hs2.1
  have HOW2 : Hid (OwnH V2 W4.heap.size (.slice av nl cv) (slcH fold wss st wm bs z d m)) := by
   have h := HOW1.out
   unfold OwnH at h ⊢
   exact h.kept hs2.2 (.inr (fun e => by have := (row_lt h _ e).1; omega))
  have HD3 : Hid (V2.heap[D]? = some (.deferred (some []))) := (hsame D hDD).trans HD1.out
  refine hK.out _ _ ⟨fun k h1 h2 => (hsame k h1).trans (hS.1 k h1 h2), hv2.cell⟩ (fun hS2 => ?_)
  clear hK K r0 r1 r2 r3 hs2 hsame hV2 HV1 HOW1 HRB1 HBE1 HD1 hS
  try simp only [Act.put, pA, pB, pC]
  have c2 := hv2.cell
  have c3 := hv2.lt
  have c4 := hv2.frozen
  have hv3 := hv2.set (.slice av nl cv)
  have HV3 := Lib.hid hv3
  clear hv3 hv2
  refine rdy 12 (fun K hK => ?_)
  go_simp
  refine hK.out _ _ ⟨fun k h1 h2 => (Below.heap_setCell V2 ⟨bl, 0, none⟩ _ k h2).trans (hS2.1 k h1 h2), HV3.out.cell⟩ (fun hS3 => ?_)
  clear hK K c2 c3 c4
  try simp only [Act.put, pA, pB, pC]
  refine tkW 13 (v := ?_) ?_ ?_
  rotate_left
  ·
   intro V hV
   first | (go_simp; done) | (go_simp; with_reducible rfl)
  try simp only [Act.put, pA, pB, pC]
  refine wpAnyH_done (by kernel_rfl) ?_ _
  refine NoPanic.normal ?_
  obtain ⟨V3, hV3⟩ : ∃ X, X = V2.setCell ⟨bl, 0, none⟩ (.slice av nl cv) := ⟨_, rfl⟩
  have x1 : V3.heap[D]? = some (.deferred (some [])) := by rw [hV3]; exact (Below.heap_setCell V2 ⟨bl, 0, none⟩ _ D (by show D ≠ bl; omega)).trans HD3.out
  have x2 : V3.heap[Dr]? = some (.cells #[.int .i64 (zf : Int), .int .i64 dT] 62 (0, 0)) := by rw [hV3]; exact (Below.heap_setCell V2 ⟨bl, 0, none⟩ _ Dr (Ne.symm hbD)).trans HR2.out
  have x3 : RowKit.Below w.heap.size w V3 := by rw [hV3]; exact HB2.out.setCell (by show w.heap.size ≤ bl; omega) _
  have x4 : OwnH V3 W4.heap.size (.slice av nl cv) (slcH fold wss st wm bs z d m) := by
   rw [hV3]
   have h := HOW2.out
   unfold OwnH at h ⊢
   exact h.kept (grown_set2 V2 bl 0 _) (.inr (fun e => by have := (row_lt h _ e).1; omega))
  have x5 : Boxed V3 bl 67 (.slice av nl cv) := by rw [hV3]; exact HV3.out
  have hDb : D ≠ bl := by omega
  go_wp2
  rw [← hV3]
  refine endM rfl x1 (results_probe4 rfl rfl rfl ((World.putObj_heap_other (Ne.symm hDD)).trans x2) ((World.cell?_of_block (a := ⟨bl, 0, none⟩) (World.putObj_heap_other (Ne.symm hDb))).trans x5.cell)) ⟨.slice av nl cv, ?_, ?_, put_below x3 (by omega) (Nat.le_refl _) _⟩
  ·
   rw [HZF2.out, HDT.out]
   rfl
  ·
   have h := row_lower x4 (show w.heap.size ≤ W4.heap.size by omega)
   unfold OwnH at h ⊢
   refine h.kept (grownBy_putObj' V3 D _) ?_
   rcases x4.2 with ⟨e0, _⟩ | ⟨g', cap, cur, e0, _, hgb, _⟩
   · rw [e0]; exact .inl rfl
   ·
    refine .inr fun e => ?_
    rw [e0] at e
    have e' : g' = D := by simpa [Value.ownBlock] using e
    rw [e', x1] at hgb
    cases hgb
end Go.Proofs.YtbldfgaogmfoaaaGreat

/- Probes (layer 20): Right of no machine; walked. -/

namespace Go.Proofs.YtbldfgaogmfoaaaGreat
open Go.RowKit Go.Sort

set_option maxRecDepth 100000 in
set_option maxHeartbeats 4000000 in
theorem scannable_nil (nu st wm : Int) (a : Option Addr) (n c : Nat) (w : World) :
  Calls Tryz.prog 73 #[.pointer none, .agg (blV nu st wm a n c)] w fun e w' => e = .returned (.bool false) ∧ Below w.heap.size w w' := by
 have hB := Lib.hid (below_alloc w (.cells (blV nu st wm a n c) 60))
 go_enter Tryz.func73, Tryz.ntmps73
 go_wp2
 go_ret
 exact ⟨rfl, hB.out⟩

set_option maxRecDepth 100000 in
set_option maxHeartbeats 4000000 in
theorem right20_nil (nu st wm : Int) (a : Option Addr) (n c : Nat) (z d : Int) (w : World) :
  Calls Tryz.prog 34 #[.pointer none, .agg (blV nu st wm a n c), prV z d] w fun e w' => e = .returned (.bool false) ∧ Below w.heap.size w w' := by
 obtain ⟨W, hW⟩ : ∃ W, W = (w.alloc (.cells (blV nu st wm a n c) 60)).alloc (.cells #[.int .i64 z, .int .i64 d] 62) := ⟨_, rfl⟩
 have hB : Below w.heap.size w W := by rw [hW]; exact ((Below.refl _ _).alloc (Nat.le_refl _) _).alloc (by simp) _
 have hO : Bx w.heap.size [.cells (blV nu st wm a n c) 60, .cells #[.int .i64 z, .int .i64 d] 62] W := by rw [hW]; exact ((Bx.nil _ w).snoc _ rfl).snoc _ (by simp)
 have HC : Hid (∀ V, RowKit.Below W.heap.size W V → V.cell? ⟨w.heap.size, 0, none⟩ = some (.int .i64 nu) ∧ V.cell? ⟨w.heap.size, 1, none⟩ = some (.int .i64 st) ∧ V.cell? ⟨w.heap.size, 2, none⟩ = some (.int .i64 wm) ∧ V.cell? ⟨w.heap.size, 3, none⟩ = some (.slice a n c)) := fun V hV => by
  have h := hO.below hV
  exact ⟨h.cell (i := 0) rfl rfl, h.cell (i := 0) rfl rfl, h.cell (i := 0) rfl rfl, h.cell (i := 0) rfl rfl⟩
 have HB := Lib.hid hB
 clear hO hB
 go_enter Tryz.func34, Tryz.ntmps34
 go_upto_region 1 with fail
 rw [← hW]
 clear hW
 refine wp_region_noPanic ?_
 refine wp_region_held_drew (S := RowKit.Below W.heap.size W) (by kernel_rfl) (bel_drewN W 1) (fun hS => ?_)
 obtain ⟨w1, hw1⟩ : ∃ X, X = W.drew := ⟨_, rfl⟩
 rw [← hw1] at hS ⊢
 clear hw1
 change wpAnyH _ _ _ _ _ 29 _ _ _
 iterate 2 (refine tkF 28 (v := ?_) ?_ ?_; rotate_left; (· intro V hV; obtain ⟨q0, q1, q2, q3⟩ := HC.out V hV; first | (go_simp; done) | (go_simp; with_reducible rfl)); try simp only [Act.put, pA, pB, pC])
 refine rdy 2 (fun K hK => ?_)
 go_simp
 go_at_call 73; refine (scannable_nil nu st wm a n c w1).mono ?_; rintro e w2 ⟨rfl, hb2⟩
 refine hK.out _ _ (hS.trans (hb2.mono hS.size)) (fun hS2 => ?_)
 clear hK K
 try simp only [Act.put, pA, pB, pC]
 refine tkW 3 (v := ?_) ?_ ?_
 rotate_left
 ·
  intro V hV
  first | (go_simp; done) | (go_simp; with_reducible rfl)
 try simp only [Act.put, pA, pB, pC]
 refine tkN 4 ?_
 try simp only [Act.put, pA, pB, pC]
 refine tkN 5 ?_
 try simp only [Act.put, pA, pB, pC]
 refine tkN 6 ?_
 try simp only [Act.put, pA, pB, pC]
 iterate 2 (refine tkF 28 (v := ?_) ?_ ?_; rotate_left; (· intro V hV; first | (go_simp; done) | (go_simp; with_reducible rfl)); try simp only [Act.put, pA, pB, pC])
 refine tkN 9 ?_
 try simp only [Act.put, pA, pB, pC]
 refine tkN 10 ?_
 try simp only [Act.put, pA, pB, pC]
 refine tkN 11 ?_
 try simp only [Act.put, pA, pB, pC]
 refine tkN 12 ?_
 try simp only [Act.put, pA, pB, pC]
 refine tkN 13 ?_
 try simp only [Act.put, pA, pB, pC]
 iterate 2 (refine tkF 28 (v := ?_) ?_ ?_; rotate_left; (· intro V hV; first | (go_simp; done) | (go_simp; with_reducible rfl)); try simp only [Act.put, pA, pB, pC])
 refine tkN 16 ?_
 try simp only [Act.put, pA, pB, pC]
 refine tkN 17 ?_
 try simp only [Act.put, pA, pB, pC]
 refine tkN 18 ?_
 try simp only [Act.put, pA, pB, pC]
 iterate 2 (refine tkF 28 (v := ?_) ?_ ?_; rotate_left; (· intro V hV; first | (go_simp; done) | (go_simp; with_reducible rfl)); try simp only [Act.put, pA, pB, pC])
 refine tkN 21 ?_
 try simp only [Act.put, pA, pB, pC]
 refine tkN 22 ?_
 try simp only [Act.put, pA, pB, pC]
 refine tkN 23 ?_
 try simp only [Act.put, pA, pB, pC]
 refine tkN 24 ?_
 try simp only [Act.put, pA, pB, pC]
 refine tkN 25 ?_
 try simp only [Act.put, pA, pB, pC]
 refine tkN 26 ?_
 try simp only [Act.put, pA, pB, pC]
 iterate 2 (refine tkF 28 (v := ?_) ?_ ?_; rotate_left; (· intro V hV; first | (go_simp; done) | (go_simp; with_reducible rfl)); try simp only [Act.put, pA, pB, pC])
 refine wpAnyH_done (by kernel_rfl) ?_ _
 refine NoPanic.normal ?_
 have HX := Lib.hid hS2
 go_wp2
 go_ret
 exact ⟨rfl, HB.out.trans (HX.out.mono HB.out.size)⟩
end Go.Proofs.YtbldfgaogmfoaaaGreat

/- Probes (layer 20): what a slice tells, both sides under one form; the program's Slice of whatever machine. -/

namespace Go.Proofs.YtbldfgaogmfoaaaGreat
open Go.RowKit Go.Sort

/-- What a slice tells: the node and the bytes done behind it, the hits, whether it is over. -/
def slZ (fold : Bool) (wss : List (List Int)) (st wm : Int) (bs : List Int) (z d m : Int) : Int := if prbD fold wss st wm bs.length z d = true then ((feedZ fold wss z.toNat (slcF bs d m) : Nat) : Int) else z
def slD (fold : Bool) (wss : List (List Int)) (st wm : Int) (bs : List Int) (z d m : Int) : Int := if prbD fold wss st wm bs.length z d = true then d + ((takeN bs.length d m : Nat) : Int) else d
def slH (fold : Bool) (wss : List (List Int)) (st wm : Int) (bs : List Int) (z d m : Int) : List HitP := if prbD fold wss st wm bs.length z d = true then slcH fold wss st wm bs z d m else []
def slO (fold : Bool) (wss : List (List Int)) (st wm : Int) (bs : List Int) (z d m : Int) : Bool := if prbD fold wss st wm bs.length z d = true then decide (d + ((takeN bs.length d m : Nat) : Int) = (bs.length : Int)) else false
section
variable {fold : Bool} {wss : List (List Int)}
theorem prbD_parts {st wm : Int} {n : Nat} {z d : Int} (h : prbD fold wss st wm n z d = true) : rightP fold wss = true ∧ scnP (longL wss) st wm n = true ∧ (0 ≤ z ∧ z < ((nodesL wss).length : Int)) ∧ 0 ≤ d ∧ d ≤ (n : Int) := by
 unfold prbD at h
 rw [Bool.and_eq_true, Bool.and_eq_true, Bool.and_eq_true] at h
 obtain ⟨⟨⟨h1, h2⟩, h3⟩, h4⟩ := h
 unfold scanR at h2
 have h2 := of_decide_eq_true h2
 have h4 := of_decide_eq_true h4
 exact ⟨h1, h3, h2.1, h4⟩
theorem prbD_R (hr : rightP fold wss = true) (st wm : Int) (n : Nat) (z d : Int) : prbR (nodesL wss).length (longL wss) st wm n z d = prbD fold wss st wm n z d := by
 unfold prbD prbR scanR
 rw [hr, Bool.true_and, Bool.eq_iff_iff]
 simp only [Bool.and_eq_true, decide_eq_true_eq]
 constructor
 ·
  rintro ⟨h1, h2⟩
  exact ⟨⟨⟨h2.1, by omega⟩, h1⟩, h2.2⟩
 ·
  rintro ⟨⟨h1, h2⟩, h3⟩
  exact ⟨h2, h1.1, h3⟩
theorem prbD_no (hr : rightP fold wss = false) (st wm : Int) (n : Nat) (z d : Int) : prbD fold wss st wm n z d = false := by
 unfold prbD
 rw [hr]
 rfl
theorem slH_len {st wm : Int} {bs : List Int} {z d m : Int} : (slH fold wss st wm bs z d m).length ≤ (nodesL wss).length * bs.length := by
 unfold slH
 split
 ·
  rename_i h
  obtain ⟨_, _, ⟨h1, h2⟩, h3, h4⟩ := prbD_parts h
  unfold slcH ownB20
  refine Nat.le_trans (List.length_filter_le _ _) (Nat.le_trans (scanH_len _ _ _ (by omega)) (Nat.mul_le_mul_left _ ?_))
  unfold slcF
  rw [List.length_take, List.length_drop]
  omega
 · simp
end
/-- The document's Slice. -/
theorem rslice20_u (fold : Bool) (a : Option Addr) (la ca : Nat) (nu st wm : Int) (b : Option Addr) (n c : Nat) (z d m : Int) (wss : List (List Int)) (bs : List Int) (w : World) (hA : Wds w a la wss) (hD : Bys w b n bs) (hnc : n ≤ c) (hla : la ≤ 1000) (hM : ∀ x ∈ wss, x.length ≤ 1000000) (hn : n ≤ 900000) :
  Calls Tryz.prog 32 #[.agg (setV fold a la ca), .agg (blV nu st wm b n c), prV z d, .int .i64 m] w fun e w' => ∃ v, e = .returned (.tuple #[prV (slZ fold wss st wm bs z d m) (slD fold wss st wm bs z d m), v, .bool (slO fold wss st wm bs z d m)]) ∧ OwnH w' w.heap.size v (slH fold wss st wm bs z d m) ∧ Below w.heap.size w w' := by
 have hDl : bs.length = n := hD.len
 unfold slZ slD slH slO
 rw [hDl]
 cases hp : prbD fold wss st wm n z d with
 | false =>
  refine (rslice20_no fold a la ca nu st wm b n c z d m wss w hA (by omega) hM (by omega) hp).mono ?_
  rintro e w' ⟨rfl, hb⟩
  simp only [Bool.false_eq_true, if_false]
  exact ⟨_, rfl, World.ownsRow_nil _ _ _ _, hb⟩
 | true =>
  obtain ⟨h1, h2, ⟨h3, h4⟩, h5, h6⟩ := prbD_parts hp
  obtain ⟨z, rfl⟩ : ∃ k : Nat, z = (k : Int) := ⟨z.toNat, by omega⟩
  obtain ⟨d, rfl⟩ : ∃ k : Nat, d = (k : Int) := ⟨d.toNat, by omega⟩
  simp only [if_true, Int.toNat_natCast]
  exact rslice20_yes fold a la ca nu st wm b n c z d m wss bs w hA hD hnc hla hM hn hp
/-- What a machine's slices answer, where the pointer may be nil. -/
structure Mach20 (W : World) (p : Option Addr) (fold : Bool) (wss : List (List Int)) : Prop where
 right : ∀ V, Below W.heap.size W V → ∀ (nu st wm : Int) (b : Option Addr) (n c : Nat) (z d : Int), n ≤ 900000 → Calls Tryz.prog 34 #[.pointer p, .agg (blV nu st wm b n c), prV z d] V fun e w' => e = .returned (.bool (prbD fold wss st wm n z d)) ∧ Below V.heap.size V w'
 slice : ∀ V, Below W.heap.size W V → ∀ (nu st wm : Int) (b : Option Addr) (n c : Nat) (bs : List Int) (z d m : Int), Bys V b n bs → n ≤ 900000 → (-9223372036854775808 ≤ m ∧ m ≤ 9223372036854775807) →
  Calls Tryz.prog 31 #[.pointer p, .agg (blV nu st wm b n c), prV z d, .int .i64 m] V fun e w' => ∃ v, e = .returned (.tuple #[prV (slZ fold wss st wm bs z d m) (slD fold wss st wm bs z d m), v, .bool (slO fold wss st wm bs z d m)]) ∧ OwnH w' V.heap.size v (slH fold wss st wm bs z d m) ∧ Below V.heap.size V w'
theorem slice20_non {p : Option Addr} {fold : Bool} {wss : List (List Int)} (nu st wm : Int) (b : Option Addr) (n c : Nat) (bs : List Int) (z d m : Int) (V : World) (hD : Bys V b n bs) (hp : prbD fold wss st wm n z d = false)
  (hR : ∀ W, Below V.heap.size V W → Calls Tryz.prog 34 #[.pointer p, .agg (blV nu st wm b n c), prV z d] W fun e w' => e = .returned (.bool false) ∧ Below W.heap.size W w') :
  Calls Tryz.prog 31 #[.pointer p, .agg (blV nu st wm b n c), prV z d, .int .i64 m] V fun e w' => ∃ v, e = .returned (.tuple #[prV (slZ fold wss st wm bs z d m) (slD fold wss st wm bs z d m), v, .bool (slO fold wss st wm bs z d m)]) ∧ OwnH w' V.heap.size v (slH fold wss st wm bs z d m) ∧ Below V.heap.size V w' := by
 have hDl : bs.length = n := hD.len
 unfold slZ slD slH slO
 rw [hDl, hp]
 refine (slice20_no p nu st wm b n c z d m V hR).mono ?_
 rintro e w' ⟨rfl, hb⟩
 simp only [Bool.false_eq_true, if_false]
 exact ⟨_, rfl, World.ownsRow_nil _ _ _ _, hb⟩
theorem mach20_use {W0 W : World} {B : Nat} {fold : Bool} {wss : List (List Int)} (hU : MUse W0 B fold wss W) (hr : rightP fold wss = true) : Mach20 W (some ⟨B, 0, none⟩) fold wss := by
 refine ⟨fun V hV nu st wm b n c z d hn => ?_, fun V hV nu st wm b n c bs z d m hD hn hm => ?_⟩
 ·
  rw [← prbD_R hr]
  exact right20_any nu st wm b n c z d V (hU.below hV) (by omega)
 ·
  cases hp : prbD fold wss st wm n z d with
  | false =>
   refine slice20_non nu st wm b n c bs z d m V hD hp (fun W2 hW2 => ?_)
   have h := right20_any nu st wm b n c z d W2 ((hU.below hV).below hW2) (by omega)
   rwa [prbD_R hr, hp] at h
  | true =>
   have hDl : bs.length = n := hD.len
   unfold slZ slD slH slO
   rw [hDl, hp]
   obtain ⟨h1, h2, ⟨h3, h4⟩, h5, h6⟩ := prbD_parts hp
   obtain ⟨z, rfl⟩ : ∃ k : Nat, z = (k : Int) := ⟨z.toNat, by omega⟩
   obtain ⟨d, rfl⟩ : ∃ k : Nat, d = (k : Int) := ⟨d.toNat, by omega⟩
   simp only [if_true, Int.toNat_natCast]
   exact slice20_yes nu st wm b n c z d m bs V (hU.below hV) hD hn hr hm (by rw [prbD_R hr, hp])
theorem mach20_nil (W : World) {fold : Bool} {wss : List (List Int)} (hr : rightP fold wss = false) : Mach20 W none fold wss := by
 refine ⟨fun V hV nu st wm b n c z d hn => ?_, fun V hV nu st wm b n c bs z d m hD hn hm => ?_⟩
 ·
  rw [prbD_no hr]
  exact right20_nil nu st wm b n c z d V
 · exact slice20_non nu st wm b n c bs z d m V hD (prbD_no hr _ _ _ _ _) (fun W2 _ => right20_nil nu st wm b n c z d W2)
theorem mach20 (fold : Bool) (a : Option Addr) (la ca : Nat) (wss : List (List Int)) (w : World) (hA : Wds w a la wss) (hla : la ≤ 1000000) (hM : ∀ x ∈ wss, x.length ≤ 1000000) (hT : (begL fold wss).length ≤ 1000000) :
  Calls Tryz.prog 30 #[.agg (setV fold a la ca)] w fun e w' => ∃ (p : Option Addr) (er : Int), e = .returned (.tuple #[.pointer p, .int .i64 er]) ∧ Mach20 w' p fold wss ∧ (rightP fold wss = true → er = 0) ∧ Below w.heap.size w w' := by
 cases hr : rightP fold wss with
 | false =>
  refine (compile13_no fold a la ca wss w hA hla hM hT hr).mono ?_
  rintro e w' ⟨rfl, hb⟩
  exact ⟨_, _, rfl, mach20_nil _ hr, fun h => absurd h (by simp), hb⟩
 | true =>
  refine (compile13_use fold a la ca wss w hA hla hM hT hr).mono ?_
  rintro e w' ⟨B, rfl, hU⟩
  exact ⟨_, _, rfl, mach20_use hU hr, fun _ => rfl, hU.bel⟩
end Go.Proofs.YtbldfgaogmfoaaaGreat

/- Probes (layer 20): blocks as a whole; rows of blocks; walked. Printed by exp.py. -/

namespace Go.Proofs.YtbldfgaogmfoaaaGreat
open Go.RowKit Go.Sort

/-- What a block tells as a whole. -/
def whH (fold : Bool) (wss : List (List Int)) (st wm : Int) (bs : List Int) : List HitP := slH fold wss st wm bs 0 0 (bs.length : Int)

set_option maxRecDepth 100000 in
set_option maxHeartbeats 8000000 in
theorem rwhole20_any (fold : Bool) (a : Option Addr) (la ca : Nat) (nu st wm : Int) (b : Option Addr) (n c : Nat) (wss : List (List Int)) (bs : List Int) (w : World) (hA : Wds w a la wss) (hD : Bys w b n bs) (hnc : n ≤ c) (hla : la ≤ 1000) (hM : ∀ x ∈ wss, x.length ≤ 1000000) (hn : n ≤ 900000) :
  Calls Tryz.prog 36 #[.agg (setV fold a la ca), .agg (blV nu st wm b n c)] w fun e w' => ∃ v, e = .returned v ∧ OwnH w' w.heap.size v (whH fold wss st wm bs) ∧ Below w.heap.size w w' := by
 obtain ⟨W, hW⟩ : ∃ W, W = (w.alloc (.cells (setV fold a la ca) 24)).alloc (.cells (blV nu st wm b n c) 60) := ⟨_, rfl⟩
 have hB : Below w.heap.size w W := by rw [hW]; exact ((Below.refl _ _).alloc (Nat.le_refl _) _).alloc (by simp) _
 have hO : Bx w.heap.size [.cells (setV fold a la ca) 24, .cells (blV nu st wm b n c) 60] W := by rw [hW]; exact ((Bx.nil _ w).snoc _ rfl).snoc _ (by simp)
 have q0 : W.cell? ⟨w.heap.size, 0, none⟩ = some (.bool fold) := hO.cell (i := 0) rfl rfl
 have q1 : W.cell? ⟨w.heap.size, 1, none⟩ = some (.slice a la ca) := hO.cell (i := 0) rfl rfl
 have q2 : W.cell? ⟨w.heap.size + 1, 0, none⟩ = some (.int .i64 nu) := hO.cell (i := 1) rfl rfl
 have q3 : W.cell? ⟨w.heap.size + 1, 1, none⟩ = some (.int .i64 st) := hO.cell (i := 1) rfl rfl
 have q4 : W.cell? ⟨w.heap.size + 1, 2, none⟩ = some (.int .i64 wm) := hO.cell (i := 1) rfl rfl
 have q5 : W.cell? ⟨w.heap.size + 1, 3, none⟩ = some (.slice b n c) := hO.cell (i := 1) rfl rfl
 have hS := rslice20_u fold a la ca nu st wm b n c 0 0 (n : Int) wss bs W (hA.below hB) (hD.below hB) hnc hla hM hn
 have hDl : bs.length = n := hD.len
 have HH : Hid (slH fold wss st wm bs 0 0 (n : Int) = whH fold wss st wm bs) := by rw [Hid, ← hDl]; rfl
 rw [HH.out] at hS
 obtain ⟨z1, hz1⟩ : ∃ x, slZ fold wss st wm bs 0 0 (n : Int) = x := ⟨_, rfl⟩
 obtain ⟨z2, hz2⟩ : ∃ x, slD fold wss st wm bs 0 0 (n : Int) = x := ⟨_, rfl⟩
 obtain ⟨z3, hz3⟩ : ∃ x, slO fold wss st wm bs 0 0 (n : Int) = x := ⟨_, rfl⟩
 rw [hz1, hz2, hz3] at hS
 have HS := Lib.hid hS
 have HB := Lib.hid hB
 clear hS hO hA hD hM hz1 hz2 hz3 hB
 go_enter Tryz.func36, Tryz.ntmps36
 go_upto_region 1 with fail
 rw [← hW]
 clear hW
 go_wp2_with fail
 refine HS.out.mono ?_
 rintro e w2 ⟨v, rfl, ho, hb⟩
 have HO := Lib.hid ho
 have HB2 := Lib.hid hb
 clear q0 q1 q2 q3 q4 q5 ho hb HS
 go_wp2
 go_ret
 have hbw := HB.out.trans (HB2.out.mono HB.out.size)
 have hb3 := below_alloc w2 (.cells #[.int .i64 z1, .int .i64 z2] 62)
 exact ⟨v, rfl, row_lower (own_below_ HO.out hb3) HB.out.size, hbw.trans (hb3.mono hbw.size)⟩

set_option maxRecDepth 100000 in
set_option maxHeartbeats 8000000 in
theorem Mach20.whole {W : World} {p : Option Addr} {fold : Bool} {wss : List (List Int)} (h : Mach20 W p fold wss) {V : World} (hV : Below W.heap.size W V) (nu st wm : Int) (b : Option Addr) (n c : Nat) (bs : List Int) (hD : Bys V b n bs) (hn : n ≤ 900000) :
  Calls Tryz.prog 37 #[.pointer p, .agg (blV nu st wm b n c)] V fun e w' => ∃ v, e = .returned v ∧ OwnH w' V.heap.size v (whH fold wss st wm bs) ∧ Below V.heap.size V w' := by
 obtain ⟨U, hU⟩ : ∃ U, U = V.alloc (.cells (blV nu st wm b n c) 60) := ⟨_, rfl⟩
 have hB : Below V.heap.size V U := by rw [hU]; exact below_alloc _ _
 have hO : Bx V.heap.size [.cells (blV nu st wm b n c) 60] U := by rw [hU]; exact (Bx.nil _ V).snoc _ rfl
 have q2 : U.cell? ⟨V.heap.size, 0, none⟩ = some (.int .i64 nu) := hO.cell (i := 0) rfl rfl
 have q3 : U.cell? ⟨V.heap.size, 1, none⟩ = some (.int .i64 st) := hO.cell (i := 0) rfl rfl
 have q4 : U.cell? ⟨V.heap.size, 2, none⟩ = some (.int .i64 wm) := hO.cell (i := 0) rfl rfl
 have q5 : U.cell? ⟨V.heap.size, 3, none⟩ = some (.slice b n c) := hO.cell (i := 0) rfl rfl
 have hS := h.slice U (hV.trans (hB.mono hV.size)) nu st wm b n c bs 0 0 (n : Int) (hD.below hB) hn (by omega)
 have hDl : bs.length = n := hD.len
 have HH : Hid (slH fold wss st wm bs 0 0 (n : Int) = whH fold wss st wm bs) := by rw [Hid, ← hDl]; rfl
 rw [HH.out] at hS
 obtain ⟨z1, hz1⟩ : ∃ x, slZ fold wss st wm bs 0 0 (n : Int) = x := ⟨_, rfl⟩
 obtain ⟨z2, hz2⟩ : ∃ x, slD fold wss st wm bs 0 0 (n : Int) = x := ⟨_, rfl⟩
 obtain ⟨z3, hz3⟩ : ∃ x, slO fold wss st wm bs 0 0 (n : Int) = x := ⟨_, rfl⟩
 rw [hz1, hz2, hz3] at hS
 have HS := Lib.hid hS
 have HB := Lib.hid hB
 clear hS hO hD h hz1 hz2 hz3 hB
 go_enter Tryz.func37, Tryz.ntmps37
 go_upto_region 1 with fail
 rw [← hU]
 clear hU
 go_wp2_with fail
 refine HS.out.mono ?_
 rintro e w2 ⟨v, rfl, ho, hb⟩
 have HO := Lib.hid ho
 have HB2 := Lib.hid hb
 clear q2 q3 q4 q5 ho hb HS
 go_wp2
 go_ret
 have hbw := HB.out.trans (HB2.out.mono HB.out.size)
 have hb3 := below_alloc w2 (.cells #[.int .i64 z1, .int .i64 z2] 62)
 exact ⟨v, rfl, row_lower (own_below_ HO.out hb3) HB.out.size, hbw.trans (hb3.mono hbw.size)⟩

/-- A block: its number, start, warm-up; where its data lie; its data. -/
structure BlkP where
 nu : Int
 st : Int
 wm : Int
 ad : Option Addr
 n : Nat
 c : Nat
 bs : List Int
def blE (x : BlkP) : List Value := [.int .i64 x.nu, .int .i64 x.st, .int .i64 x.wm, .slice x.ad x.n x.c]
def bcells (l : List BlkP) : List Value := l.flatMap blE
theorem bcells_length : ∀ (l : List BlkP), (bcells l).length = l.length * 4
 | [] => rfl
 | x :: l => by
  have h := bcells_length l
  have e : bcells (x :: l) = blE x ++ bcells l := rfl
  rw [e, List.length_append, h, List.length_cons]
  show 4 + _ = _
  omega
theorem bcells_at : ∀ {l : List BlkP} {k : Nat} {x : BlkP}, l[k]? = some x → (bcells l)[k * 4]? = some (.int .i64 x.nu) ∧ (bcells l)[k * 4 + 1]? = some (.int .i64 x.st) ∧ (bcells l)[k * 4 + 2]? = some (.int .i64 x.wm) ∧ (bcells l)[k * 4 + 3]? = some (.slice x.ad x.n x.c)
 | [], k, x, h => by simp at h
 | y :: l, 0, x, h => by simp at h; subst h; exact ⟨rfl, rfl, rfl, rfl⟩
 | y :: l, k + 1, x, h => by
  have h' : l[k]? = some x := by simpa using h
  have e : bcells (y :: l) = blE y ++ bcells l := rfl
  obtain ⟨a, b, c, d⟩ := bcells_at h'
  have sh : ∀ j, (bcells (y :: l))[(k + 1) * 4 + j]? = (bcells l)[k * 4 + j]? := fun j => by
   rw [e, show (k + 1) * 4 + j = (blE y).length + (k * 4 + j) by show _ = 4 + _; omega, List.getElem?_append_right (by omega)]
   congr 1
   omega
  exact ⟨(sh 0).trans a, (sh 1).trans b, (sh 2).trans c, (sh 3).trans d⟩
/-- A row of blocks. -/
def Bls (w : World) (a : Option Addr) (n : Nat) (l : List BlkP) : Prop := SlK 4 w a n (bcells l) ∧ ∀ x ∈ l, Bys w x.ad x.n x.bs ∧ x.n ≤ 900000
theorem Bls.below {w w' : World} {a : Option Addr} {n : Nat} {l : List BlkP} (h : Bls w a n l) (hb : Below w.heap.size w w') : Bls w' a n l := ⟨h.1.below hb, fun x hx => ⟨(h.2 x hx).1.below hb, (h.2 x hx).2⟩⟩
theorem Bls.len {w : World} {a : Option Addr} {n : Nat} {l : List BlkP} (h : Bls w a n l) : l.length = n := by
 have := h.1.1
 rw [bcells_length] at this
 omega
theorem Bls.at_ {w : World} {a : Option Addr} {len : Nat} {l : List BlkP} (h : Bls w a len l) {k : Nat} (hk : k < len) :
  ∃ b off x, a = some ⟨b, off, none⟩ ∧ b < w.heap.size ∧ (w.cell? ⟨b, off + k * 4, none⟩ = some (.int .i64 x.nu) ∧ w.cell? ⟨b, off + k * 4 + 1, none⟩ = some (.int .i64 x.st) ∧ w.cell? ⟨b, off + k * 4 + 2, none⟩ = some (.int .i64 x.wm) ∧ w.cell? ⟨b, off + k * 4 + 3, none⟩ = some (.slice x.ad x.n x.c)) ∧ l[k]? = some x ∧ Bys w x.ad x.n x.bs ∧ x.n ≤ 900000 := by
 have hl := h.len
 obtain ⟨b, off, e, hlt, hc⟩ := h.1.2.resolve_left (by omega)
 obtain ⟨x, hx⟩ : ∃ x, l[k]? = some x := ⟨l[k]'(by omega), by simp⟩
 obtain ⟨c0, c1, c2, c3⟩ := bcells_at hx
 exact ⟨b, off, x, e, hlt, ⟨hc _ _ c0, by rw [Nat.add_assoc]; exact hc _ _ c1, by rw [Nat.add_assoc]; exact hc _ _ c2, by rw [Nat.add_assoc]; exact hc _ _ c3⟩, hx, h.2 x (List.mem_of_getElem? hx)⟩
/-- What blocks tell, each by itself. -/
def woH (fold : Bool) (wss : List (List Int)) (l : List BlkP) : List HitP := l.flatMap fun x => whH fold wss x.st x.wm x.bs
theorem woH_step {fold : Bool} {wss : List (List Int)} {l : List BlkP} {k : Nat} {x : BlkP} (h : l[k]? = some x) : woH fold wss (l.take (k + 1)) = woH fold wss (l.take k) ++ whH fold wss x.st x.wm x.bs := by
 rw [take_step h]
 simp [woH]
theorem slH_bd {fold : Bool} {wss : List (List Int)} {st wm : Int} {bs : List Int} {z d m : Int} (hw : wss.length ≤ 1000000) (hb : bs.length ≤ 900000) : ∀ h ∈ slH fold wss st wm bs z d m, I64 h.1 ∧ I64 h.2 := by
 intro h hh
 unfold slH at hh
 split at hh
 ·
  rename_i hp
  obtain ⟨hr, hs, ⟨h1, h2⟩, h3, h4⟩ := prbD_parts hp
  unfold slcH ownB20 at hh
  have hm := (List.mem_filter.1 hh).1
  obtain ⟨⟨e1, e2⟩, e3, e4⟩ := scanH_bd (right_nodup hr).1 (fun x hx => ((right_spec hr).2.2.1 x hx).1) (slcF bs d m) z.toNat (st - wm + d) (by omega) h hm
  obtain ⟨s1, s2, s3, s4, s5, s6, s7⟩ := of_decide_eq_true hs
  have hl : (slcF bs d m).length ≤ bs.length := by
   unfold slcF
   rw [List.length_take, List.length_drop]
   omega
  unfold I64
  omega
 · cases hh

set_option maxRecDepth 100000 in
set_option maxHeartbeats 8000000 in
theorem Mach20.whoever {W : World} {p : Option Addr} {fold : Bool} {wss : List (List Int)} (h : Mach20 W p fold wss) (hw : wss.length ≤ 1000000) {V : World} (hV : Below W.heap.size W V) (a : Option Addr) (n c : Nat) (l : List BlkP) (hL : Bls V a n l) (hn : n ≤ 1000) (hsum : ∀ k, (woH fold wss (l.take k)).length ≤ 1000000000) :
  Calls Tryz.prog 38 #[.pointer p, .slice a n c] V fun e w' => ∃ v, e = .returned v ∧ OwnH w' V.heap.size v (woH fold wss l) ∧ Below V.heap.size V w' := by
 obtain ⟨i0, hi, hz0, hz1, hz2⟩ := info_parts hit_info
 have HLL := Lib.hid hL.len
 have HL := Lib.hid hL
 have HM := Lib.hid h
 have HSUM := Lib.hid hsum
 clear h hL hsum
 go_enter Tryz.func38, Tryz.ntmps38
 go_wp2_with fail
 go_loopw [5, 10] (fun s5 s10 wr => ∃ i : Nat, i ≤ n ∧ s10 = .int .i64 (i : Int) ∧ Hid (OwnH wr V.heap.size s5 (woH fold wss (l.take i))) ∧ Hid (RowKit.Below V.heap.size V wr)) (fun _ s _ => n - (intOf s).toNat)
 case atStart => exact ⟨0, Nat.zero_le _, rfl, World.ownsRow_nil _ _ _ _, Below.refl _ _⟩
 case round =>
  obtain ⟨i, hi', rfl, HO, HBr⟩ := hrel
  by_cases hin : i < n
  ·
   have hd : decide ((i : Int) < (n : Int)) = true := by simp; omega
   obtain ⟨bb, off, ⟨nu, st, wm, ad, nb, cb, bs⟩, rfl, hbb, ⟨k0, k1, k2, k3⟩, hx, hB, hnb⟩ := (HL.out.below HBr.out).at_ hin
   dsimp only at k0 k1 k2 k3 hB hnb
   have i1 : (0 : Int) ≤ (i : Int) := by omega
   have i2 : (i : Int) < (n : Int) := by omega
   have HS := Lib.hid (woH_step (fold := fold) (wss := wss) hx)
   have hs1 := HSUM.out (i + 1)
   rw [HS.out, List.length_append] at hs1
   dsimp only at HS hs1
   have hb0 := below_alloc wr (.cells (blV nu st wm ad nb cb) 60)
   obtain ⟨W1, hW1⟩ : ∃ X, X = wr.alloc (.cells (blV nu st wm ad nb cb) 60) := ⟨_, rfl⟩
   rw [← hW1] at hb0
   have hb1 : RowKit.Below V.heap.size V W1 := HBr.out.trans (hb0.mono HBr.out.size)
   have hz : W1.heap[wr.heap.size]? = some (.cells (blV nu st wm ad nb cb) 60 (0, 0)) := by rw [hW1]; exact World.alloc_heap_new _ _
   have g0 : W1.cell? ⟨wr.heap.size, 0, none⟩ = some (.int .i64 nu) := by simp [World.cell?, hz]
   have g1 : W1.cell? ⟨wr.heap.size, 1, none⟩ = some (.int .i64 st) := by simp [World.cell?, hz]
   have g2 : W1.cell? ⟨wr.heap.size, 2, none⟩ = some (.int .i64 wm) := by simp [World.cell?, hz]
   have g3 : W1.cell? ⟨wr.heap.size, 3, none⟩ = some (.slice ad nb cb) := by simp [World.cell?, hz]
   have HC := Lib.hid (HM.out.whole (hV.trans (hb1.mono hV.size)) nu st wm ad nb cb bs (hB.below hb0) hnb)
   have hbd := slH_bd (fold := fold) (wss := wss) (st := st) (wm := wm) (bs := bs) (z := 0) (d := 0) (m := (bs.length : Int)) hw (by rw [hB.len]; exact hnb)
   obtain ⟨D, hD⟩ : ∃ D, whH fold wss st wm bs = D := ⟨_, rfl⟩
   rw [hD] at HC HS hs1
   rw [show slH fold wss st wm bs 0 0 (bs.length : Int) = D from hD] at hbd
   have HBD := Lib.hid hbd
   have HO1 : Hid (OwnH W1 V.heap.size u5 (woH fold wss (l.take i))) := own_below_ HO.out hb0
   have HB1 := Lib.hid hb1
   clear hx hB hz hb0 HO hD hbd
   go_upto_region 5 with fail
   rw [← hW1]
   clear hW1 k0 k1 k2 k3
   go_wp2_with fail
   refine HC.out.mono ?_
   rintro e w2 ⟨v2, rfl, ho2, hb2⟩
   obtain ⟨a2, c2, rfl, _, hts2⟩ := OwnH.hts ho2 HBD.out
   have hown := own_below_ HO1.out hb2
   obtain ⟨P, hP⟩ : ∃ P, woH fold wss (l.take i) = P := ⟨_, rfl⟩
   rw [hP] at hown HS hs1
   obtain ⟨m0, hm0⟩ : ∃ m, P.length = m := ⟨_, rfl⟩
   obtain ⟨nd, hnd⟩ : ∃ m, D.length = m := ⟨_, rfl⟩
   rw [hm0] at hown
   rw [hnd] at hts2
   rw [hm0, hnd] at hs1
   rw [hnd]
   obtain ⟨a5, c5, rfl, _, _⟩ := SlK.own hown
   have HM0 := Lib.hid hm0
   have HND := Lib.hid hnd
   have HB2 : Hid (RowKit.Below V.heap.size V w2) := HB1.out.trans (hb2.mono HB1.out.size)
   have HOW := Lib.hid hown
   have HTS := Lib.hid hts2
   clear g0 g1 g2 g3 ho2 hb1 hb2 hm0 hnd hP hts2 hown HO1
   have hB2 := HB2.out.size
   go_wp2_with (at_builtin; refine wpList_append_slK rfl _ _ 67 rfl V.heap.size 87 i0 (.agg #[.int .i64 0, .int .i64 0]) 2 16 Tryz.underlying67 hi hz0 hz1 hz2 rfl (by decide) _ _ _ rfl HOW.out a2 nd c2 (hcells D) rfl HTS.out.1 (hcells_one _) (by unfold maxLen; omega) (by omega) hB2 ?_; intro v' w5 hown' hgrow hat)
   have hB5 : RowKit.Below V.heap.size V w5 := HB2.out.grown hgrow hB2 (fun j hj => (row_lt HOW.out j hj).1)
   go_roundw
   case rel =>
    refine ⟨i + 1, by omega, by go_num, ?_, hB5⟩
    rw [Hid, HS.out]
    unfold OwnH
    rw [List.length_append, HM0.out, HND.out, hcells_append]
    exact hown'
   case measure => simp [intOf]; omega
  ·
   obtain rfl : n = i := by omega
   have hd : decide ((n : Int) < (n : Int)) = false := by simp
   have HT : Hid (l.take n = l) := by rw [Hid, List.take_of_length_le (by rw [HLL.out]; exact Nat.le_refl _)]
   rw [HT.out] at HO
   go_wp2
   go_ret
   exact ⟨_, rfl, HO.out, HBr.out⟩
end Go.Proofs.YtbldfgaogmfoaaaGreat
