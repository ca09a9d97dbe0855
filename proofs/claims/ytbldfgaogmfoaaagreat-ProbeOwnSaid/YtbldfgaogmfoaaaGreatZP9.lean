/- Parts of the proof, one behind the other: Y4, Yp, Yq, Y5, Y6, YA, O2, O3, Pr, Y7, Y8, YC. No condition but what each theorem states. -/
import Derived.Maps.AppendAt
import Derived.Deep.RegionHeld3
import Derived.ChangeKeysEq
import Derived.Laws.StructEq
import Derived.Test.YtbldfgaogmfoaaaGreatZP1
import Derived.Test.YtbldfgaogmfoaaaGreatZP2
import Derived.Test.YtbldfgaogmfoaaaGreatZP3
import Derived.Test.YtbldfgaogmfoaaaGreatZP4
import Derived.Test.YtbldfgaogmfoaaaGreatZP5
import Derived.Test.YtbldfgaogmfoaaaGreatZP8
set_option linter.unusedVariables false
set_option linter.unusedSimpArgs false

/- Tables (layer 11): a node's row is filled; walked. Printed by exp.py. -/

namespace Go.Proofs.YtbldfgaogmfoaaaGreat
open Go.RowKit Go.Sort
attribute [local go_sem] Oper.semAt_some
attribute [local simp] wide_fn wide_depth
attribute [local go_sem] wide_fn wide_depth

/-- What a node's row is laid on: its link's row, or what lies there. -/
def baseR (F : List Int) (many node : Nat) (lk : List Int) : List Int := if node = 0 then (F.drop (node * many)).take many else (F.drop (((lk[node]?).getD 0).toNat * many)).take many
/-- A table's rows with one of them filled. -/
def fillF (L : List Int) (T : TrieT) (lk : List Int) (F : List Int) (many node : Nat) : List Int := spl F (node * many) (kidsOn (baseR F many node lk) (kidsQ L T (node : Int) T.up.length))

theorem mul_fit {many n k : Nat} (h : k < n) : k * many + many ≤ many * n := by
 have h1 : (k + 1) * many ≤ n * many := Nat.mul_le_mul_right _ h
 rw [Nat.succ_mul, Nat.mul_comm n many] at h1
 exact h1
theorem baseR_len {F lk : List Int} {many n node : Nat} (hF : F.length = many * n) (hn : node < n) (hl : node ≠ 0 → ∃ k : Nat, lk[node]? = some (k : Int) ∧ k < n) : (baseR F many node lk).length = many := by
 unfold baseR
 split
 ·
  have := mul_fit (many := many) hn
  simp; omega
 ·
  rename_i h
  obtain ⟨k, hk, hkn⟩ := hl h
  have := mul_fit (many := many) hkn
  rw [hk]
  simp; omega

/-- A trie's rows lie below a block. -/
def lowT (t : TV) (R : Nat) : Prop := ∀ a, (t.ua = some a ∨ t.da = some a ∨ t.xa = some a ∨ t.ba = some a) → a.block < R
theorem Sl1.keep {α : Type} {enc : α → Value} {R : Nat} {W V : World} {a : Option Addr} {n : Nat} {xs : List α} (h : Sl1 enc W a n xs) (hb : Below R W V) (hR : R ≤ W.heap.size) (hl : ∀ x, a = some x → x.block < R) : Sl1 enc V a n xs := by
 refine ⟨h.1, ?_⟩
 rcases h.2 with h0 | ⟨b, off, e, hlt, hc⟩
 · exact .inl h0
 · exact .inr ⟨b, off, e, Nat.lt_of_lt_of_le hlt hb.size, fun i x hx => (World.cell?_of_block (hb.block b (hl _ e))).trans (hc i x hx)⟩
theorem Tri.keep {R : Nat} {W V : World} {t : TV} {T : TrieT} (h : Tri W t T) (hb : Below R W V) (hR : R ≤ W.heap.size) (hl : lowT t R) : Tri V t T :=
 ⟨h.up.keep hb hR (fun a e => hl a (.inl e)), h.dep.keep hb hR (fun a e => hl a (.inr (.inl e))), h.wrd.keep hb hR (fun a e => hl a (.inr (.inr (.inl e)))), ⟨h.byt.1.keep hb hR (fun a e => hl a (.inr (.inr (.inr e)))), h.byt.2⟩, h.cap⟩
theorem Mk.keep {R : Nat} {W V : World} {M : Nat} {L : List Int} {m : Int} {row lk : Value} {t : TV} (h : Mk W M L m row t lk) (hb : Below R W V) (hM : M < R) : Mk V M L m row t lk := ⟨(hb.block M hM).trans h.box, h.len⟩

set_option maxRecDepth 100000 in
set_option maxHeartbeats 8000000 in
theorem fill11_any (t : TV) (T : TrieT) (M R q n many node : Nat) (L F lk : List Int) (w : World) (hT : Tri w t T) (hb : T.byt.length = T.up.length) (hn4 : T.up.length ≤ 400)
  (hM : Mk w M L (many : Int) (.slice (some ⟨R, 0, none⟩) (many * n) (many * n)) t (.slice (some ⟨q, 0, none⟩) n n)) (hL : ∀ (c : Nat) (v : Int), L[c]? = some v → 0 ≤ v ∧ v < (many : Int))
  (hlt : M < R ∧ q < R) (hlo : lowT t R) (hq : IntRow q lk w) (hlk : lk.length = n) (hR : IntRow R F w) (hF : F.length = many * n)
  (hn : node < n) (hm : many ≤ 1000) (hm1 : 1 ≤ many) (hn2 : n ≤ 1000000) (hl : node ≠ 0 → ∃ k : Nat, lk[node]? = some (k : Int) ∧ k < n) :
  Calls Tryz.prog 96 #[.pointer (some ⟨M, 0, none⟩), .int .i64 (node : Int)] w fun e w' => e = .returned (.tuple #[]) ∧ IntRow R (fillF L T lk F many node) w' ∧ Below R w w' := by
 obtain ⟨r0, r1⟩ := hlt
 have r2 : ∀ a, t.ua = some a → a.block < R := fun a h => hlo a (.inl h)
 have r3 : ∀ a, t.ba = some a → a.block < R := fun a h => hlo a (.inr (.inr (.inr h)))
 have hlr := hR.lt
 have hbl := baseR_len (lk := lk) hF hn hl
 have hP := mul_fit (many := many) hn
 have hsame := spl_same (F := F) (P := node * many) (m := many) (by rw [hF]; exact hP)
 refine calls_of_wp_M Tryz.func96 rfl ?_
 simp only [Tryz.ntmps96, List.size_toArray, List.length_cons, List.length_nil, Nat.reduceAdd, Nat.reduceSub, Array.replicate_succ, Array.replicate_zero, List.push_toArray, List.append_toArray, List.nil_append, List.cons_append]
 have KR := Lib.hid (row11_any M R n many node L t _ w hM hn hm hm1 hn2)
 obtain ⟨P, hPe⟩ : ∃ P, node * many = P := ⟨_, rfl⟩
 obtain ⟨B0, hB0⟩ : ∃ B0, baseR F many node lk = B0 := ⟨_, rfl⟩
 have hB0' := hB0
 rw [hB0] at hbl
 unfold baseR at hB0'
 rw [hPe] at KR hP hsame hB0'
 have HPe := Lib.hid hPe
 have HB0 := Lib.hid hB0
 have HBL := Lib.hid hbl
 have HF := Lib.hid hF
 by_cases h0 : node = 0
 ·
  have hd : ((node : Int) != 0) = false := by simp [h0]
  rw [if_pos h0] at hB0'
  rw [hB0'] at hsame
  have HSM := Lib.hid hsame
  clear hB0 hPe hB0' hF hbl hl hsame h0
  go_upto_region 3 with (go_at_call 131; refine KR.out.mono ?_; rintro e w1 ⟨rfl, hb1⟩)
  obtain ⟨W3, hW3⟩ : ∃ W, W = w1.alloc (.cells #[.slice (some ⟨R, P, none⟩) many (many * n - P)] 32) := ⟨_, rfl⟩
  have hbx : Boxed W3 w1.heap.size 32 (.slice (some ⟨R, P, none⟩) many (many * n - P)) := by rw [hW3]; exact Boxed.new w1 32 _
  have hB3' : Below w.heap.size w W3 := by rw [hW3]; exact hb1.alloc hb1.size _
  rw [← hW3]
  clear hW3
  have hT3 := hT.below hB3'
  have hM3 := hM.below hB3'
  have hR3 : IntRow R (spl F P B0) W3 := by rw [HSM.out]; exact (hB3'.block R hlr).trans hR
  have hB3 : Below R w W3 := hB3'.mono (Nat.le_of_lt hlr)
  have hBXR : R < w1.heap.size := Nat.lt_of_lt_of_le hlr hb1.size
  obtain ⟨BX, hBX⟩ : ∃ BX, w1.heap.size = BX := ⟨_, rfl⟩
  rw [hBX] at hbx hBXR ⊢
  clear hT hM hq hR hb1 hBX hB3'
  go_wp2_with (go_at_call 132; refine (kids11_any M (node : Int) W3).mono ?_; rintro e w' ⟨rfl, rfl⟩)
  obtain ⟨W5, hW5⟩ : ∃ W, W = (W3.alloc (.cells #[.pointer (some ⟨M, 0, none⟩)] 204)).alloc (.cells #[.int .i64 (node : Int)] 3) := ⟨_, rfl⟩
  have hB5 : Below W3.heap.size W3 W5 := by rw [hW5]; exact (below_alloc _ _).alloc (by simp) _
  have h1' : Boxed W5 W3.heap.size 204 (.pointer (some ⟨M, 0, none⟩)) := by rw [hW5]; exact (Boxed.new W3 204 _).alloc _
  have h2' : Boxed W5 (W3.heap.size + 1) 3 (.int .i64 (node : Int)) := by
   rw [hW5]
   have := Boxed.new (W3.alloc (.cells #[.pointer (some ⟨M, 0, none⟩)] 204)) 3 (.int .i64 (node : Int))
   rwa [World.size_alloc] at this
  rw [← hW5]
  clear hW5
  have hsz5 := h2'.lt
  have hbx5 : Boxed W5 BX 32 (.slice (some ⟨R, P, none⟩) many (many * n - P)) := (hB5.block _ hbx.lt).trans hbx
  have hR5 : IntRow R (spl F P B0) W5 := (hB5.block _ hR3.lt).trans hR3
  have hBw5 : Below R w W5 := hB3.trans (hB5.mono (Nat.le_of_lt hR3.lt))
  have hlr3 := hR3.lt
  have hbxl := hbx.lt
  have hps := kids11_stops t T M R W3.heap.size (W3.heap.size + 1) many (node : Int) _ _ _ L 8 W5 (hT3.below hB5) hb hn4 (hM3.below hB5) hL h1' h2' ⟨by omega, by omega, by omega, fun a h => Nat.ne_of_lt (r2 a h), fun a h => Nat.ne_of_lt (r3 a h)⟩
  clear hT3 hM3 h1' h2' hR3 hbx hB5 hB3
  apply rangeF rfl (enters_of Tryz.func147 (by kernel_rfl) rfl) hps keepOn_t (keepOn_b fun k hk => hk.1) (fun _ => rfl)
   (fun pre W => Boxed W BX 32 (.slice (some ⟨R, P, none⟩) many (many * n - P)) ∧ IntRow R (spl F P (kidsOn B0 (pre.map Subtype.val))) W ∧ Below R w W ∧ W5.heap.size ≤ W.heap.size)
   (fun _ _ _ => False)
  case hI => exact OwnFrom.and (Own.from (boxed_own _ _ _) _) (OwnFrom.and (Own.from (introw_own _ _) _) (OwnFrom.and (ownFrom_below (Nat.le_of_lt hlr) (by omega)) (own_size _ _)))
  case hIx => exact fun _ _ _ _ _ hs _ _ => hs
  case h0 => exact ⟨hbx5, hR5, hBw5, Nat.le_refl _⟩
  case hassign =>
   intro l x W K hK
   unfold kqEnc
   gi_wp2
   exact hK
  case hbody =>
   rintro l' pre ⟨⟨c, k⟩, hc⟩ W ⟨hx, hr, hBe, hs⟩ hlen
   dsimp only at hc ⊢
   obtain ⟨Z, hZ⟩ : ∃ Z, kidsOn B0 (pre.map Subtype.val) = Z := ⟨_, rfl⟩
   have hZl : Z.length = many := by rw [← hZ, kidsOn_len, HBL.out]
   have HZN : Hid (kidsOn B0 ((pre ++ [(⟨(c, k), hc⟩ : KdQ many)]).map Subtype.val) = Z.set c (k : Int)) := by
    rw [Hid, List.map_append]
    show kidsOn B0 (pre.map Subtype.val ++ [(c, k)]) = _
    rw [kidsOn_snoc, hZ]
   rw [hZ] at hr
   have HZ := Lib.hid hZ
   clear hZ
   have c1 := hx.cell
   have hcl : c < Z.length := by rw [hZl]; exact hc
   have c2 := hr.cell ((spl_at (by rw [hZl, HF.out]; exact hP) hcl).trans (List.getElem?_eq_getElem hcl))
   have c3 := hr.frozen (P + c)
   have i1 : (0 : Int) ≤ (c : Int) := by omega
   have i2 : (c : Int) < (many : Int) := by omega
   have hset := hr.set (j := P + c) (k : Int)
   rw [spl_set (by rw [hZl, HF.out]; exact hP) hcl, ← HZN.out] at hset
   have HSET := Lib.hid hset
   clear hset
   gi_wp2
   refine ⟨(KeepsOthers.setCell W ⟨R, P + c, none⟩ (.int .i64 (k : Int))).from W5.heap.size, fun b hb => Below.heap_setCell _ _ _ _ (fun e => hb.2 (by simpa using e)), (Below.heap_setCell _ _ _ _ (by simp; omega)).trans hx, HSET.out, hBe.setCell (by simp) _, by simpa using hs⟩
  case hdone =>
   rintro D zs W hD hS ⟨hx, hr, hBe, hs⟩ hD2
   rw [hS] at hr
   go_wp2
   refine endM' rfl hD2 (results_none rfl _ _ _) ⟨rfl, ?_, put_below hBe (by omega) (by omega) _⟩
   unfold fillF
   rw [HPe.out, HB0.out]
   exact (World.putObj_heap_other (by omega)).trans hr
  case hstop => exact fun _ _ _ _ _ _ h _ => h.elim
 ·
  have hd : ((node : Int) != 0) = true := by simp [h0]
  rw [if_neg h0] at hB0'
  obtain ⟨k, hk, hkn⟩ := hl h0
  rw [hk] at hB0'
  have hB0' : (F.drop (k * many)).take many = B0 := hB0'
  have hPK := mul_fit (many := many) hkn
  obtain ⟨KP, hKP⟩ : ∃ KP, k * many = KP := ⟨_, rfl⟩
  rw [hKP] at hPK hB0'
  have HKP := Lib.hid hKP
  have HB1 := Lib.hid hB0'
  clear hB0 hPe hB0' hbl hl hsame h0 hKP
  go_upto_region 2 with (go_at_call 131; refine KR.out.mono ?_; rintro e w1 ⟨rfl, hb1⟩)
  obtain ⟨W2, hW2⟩ : ∃ W, W = w1.alloc (.cells #[.slice (some ⟨R, P, none⟩) many (many * n - P)] 32) := ⟨_, rfl⟩
  have hbx2 : Boxed W2 w1.heap.size 32 (.slice (some ⟨R, P, none⟩) many (many * n - P)) := by rw [hW2]; exact Boxed.new w1 32 _
  have hB2 : Below w.heap.size w W2 := by rw [hW2]; exact hb1.alloc hb1.size _
  rw [← hW2]
  clear hW2
  have hBXR : R < w1.heap.size := Nat.lt_of_lt_of_le hlr hb1.size
  obtain ⟨BX, hBX⟩ : ∃ BX, w1.heap.size = BX := ⟨_, rfl⟩
  rw [hBX] at hbx2 hBXR ⊢
  have hM2 := hM.below hB2
  have hT2 := hT.below hB2
  have hq2 : IntRow q lk W2 := (hB2.block q (by have := hq.lt; omega)).trans hq
  have hR2 : IntRow R F W2 := (hB2.block R hlr).trans hR
  have hlr2 := hR2.lt
  have hBR2 : Below R w W2 := hB2.mono (Nat.le_of_lt hlr)
  have KR2 := Lib.hid (fun V (hV : RowKit.Below W2.heap.size W2 V) => row11_any M R n many k L t _ V (hM2.below hV) hkn hm hm1 hn2)
  have HM2 := Lib.hid hM2
  have HT2 := Lib.hid hT2
  have HQ2 := Lib.hid hq2
  have HR2 := Lib.hid hR2
  have HBX := Lib.hid hbx2
  have HK := Lib.hid hk
  have j1 : (0 : Int) ≤ (node : Int) := by omega
  have j2 : (node : Int) < (n : Int) := by omega
  clear hT hM hq hR hb1 hB2 hbx2 hM2 hT2 hq2 hR2 hBX hk
  refine wp_region_noPanic ?_
  refine wp_region_held_drew (S := fun V => RowKit.Below R W2 V ∧ Boxed V BX 32 (.slice (some ⟨R, P, none⟩) many (many * n - P))) (by kernel_rfl) ⟨(bel_drewN W2 1).mono (Nat.le_of_lt hlr2), ((bel_drewN W2 1).block _ HBX.out.lt).trans HBX.out⟩ (fun hHeld => ?_)
  change wpAnyH _ _ _ _ _ 11 _ _ _
  refine tkW 0 (v := ?_) ?_ ?_
  rotate_left
  ·
   intro V hV
   have r0 := hV.2.cell
   first | (go_simp; done) | (go_simp; with_reducible rfl)
  try simp only [Act.put, pA, pB, pC]
  iterate 4 (refine tkF 10 (v := ?_) ?_ ?_; rotate_left; (· intro V hV; first | (go_simp; done) | (go_simp; with_reducible rfl)); try simp only [Act.put, pA, pB, pC])
  refine tkW 5 (v := ?_) ?_ ?_
  rotate_left
  ·
   intro V hV
   have r0 := (HM2.out.keep hV.1 (by assumption)).cells.2.2.2.2.2.2
   first | (go_simp; done) | (go_simp; with_reducible rfl)
  try simp only [Act.put, pA, pB, pC]
  iterate 2 (refine tkF 10 (v := ?_) ?_ ?_; rotate_left; (· intro V hV; first | (go_simp; done) | (go_simp; with_reducible rfl)); try simp only [Act.put, pA, pB, pC])
  refine tkW 8 (v := ?_) ?_ ?_
  rotate_left
  ·
   intro V hV
   have r0 := IntRow.cell (show IntRow q lk V from (hV.1.block q (by assumption)).trans HQ2.out) HK.out
   first | (go_simp; done) | (go_simp; with_reducible rfl)
  try simp only [Act.put, pA, pB, pC]
  refine rdy 9 (fun K hK => ?_)
  go_simp
  have hkr := KR2.out W2.drew (bel_drewN W2 1)
  rw [HKP.out] at hkr
  go_at_call 131; refine hkr.mono ?_; rintro e w4 ⟨rfl, hb4⟩
  have hB4 : RowKit.Below W2.heap.size W2 w4 := (bel_drewN W2 1).trans hb4
  refine hK.out _ _ ⟨hB4.mono (Nat.le_of_lt hlr2), (hB4.block _ HBX.out.lt).trans HBX.out⟩ (fun hNew => ?_)
  clear hK K hHeld
  have hHeld := hNew
  clear hNew
  try simp only [Act.put, pA, pB, pC]
  refine rdy 10 (fun K hK => ?_)
  have hB4b : Boxed w4 BX 32 (.slice (some ⟨R, P, none⟩) many (many * n - P)) := (hB4.block _ HBX.out.lt).trans HBX.out
  have hR4 : IntRow R F w4 := (hB4.block R hlr2).trans HR2.out
  have hPF : P + many ≤ F.length := by rw [HF.out]; exact hP
  have hKF : KP + many ≤ F.length := by rw [HF.out]; exact hPK
  refine wanted_one (by kernel_rfl) ?_
  refine wp_copy11 w4 _ _ _ _ rfl _ _ rfl rfl (copy11 w4 R P KP many _ _ F _ hR4 hPF hKF) ?_
  rw [HB1.out]
  have hR5a := setRow_heap w4 R _ (((spl F P B0).map (Value.int .i64)).toArray) _ _ hR4
  have hS5 : RowKit.Below R W2 (w4.setRow R (((spl F P B0).map (Value.int .i64)).toArray)) := below_setRow (hB4.mono (Nat.le_of_lt hlr2)) (Nat.le_refl R) _
  have hbx : Boxed (w4.setRow R (((spl F P B0).map (Value.int .i64)).toArray)) BX 32 (.slice (some ⟨R, P, none⟩) many (many * n - P)) := (setRow_other _ _ _ _ (by omega)).trans hB4b
  obtain ⟨W3, hW3⟩ : ∃ W, W = w4.setRow R (((spl F P B0).map (Value.int .i64)).toArray) := ⟨_, rfl⟩
  rw [← hW3] at hR5a hS5 hbx ⊢
  have hR3 : IntRow R (spl F P B0) W3 := hR5a
  have hB3 : Below R w W3 := hBR2.trans hS5
  have hT3 : Tri W3 t T := HT2.out.keep hS5 (Nat.le_of_lt hlr2) hlo
  have hM3 := HM2.out.keep hS5 (by assumption)
  clear hW3 hR5a hR4 hB4b hPF hKF hkr hb4 hB4
  refine hK.out _ _ ⟨hS5, hbx⟩ (fun hNew => ?_)
  clear hK K hHeld hNew hS5
  try simp only [Act.put, pA, pB, pC]
  refine wpAnyH_done (by kernel_rfl) ?_ _
  refine NoPanic.normal ?_
  go_wp2_with (go_at_call 132; refine (kids11_any M (node : Int) W3).mono ?_; rintro e w' ⟨rfl, rfl⟩)
  obtain ⟨W5, hW5⟩ : ∃ W, W = (W3.alloc (.cells #[.pointer (some ⟨M, 0, none⟩)] 204)).alloc (.cells #[.int .i64 (node : Int)] 3) := ⟨_, rfl⟩
  have hB5 : Below W3.heap.size W3 W5 := by rw [hW5]; exact (below_alloc _ _).alloc (by simp) _
  have h1' : Boxed W5 W3.heap.size 204 (.pointer (some ⟨M, 0, none⟩)) := by rw [hW5]; exact (Boxed.new W3 204 _).alloc _
  have h2' : Boxed W5 (W3.heap.size + 1) 3 (.int .i64 (node : Int)) := by
   rw [hW5]
   have := Boxed.new (W3.alloc (.cells #[.pointer (some ⟨M, 0, none⟩)] 204)) 3 (.int .i64 (node : Int))
   rwa [World.size_alloc] at this
  rw [← hW5]
  clear hW5
  have hsz5 := h2'.lt
  have hbx5 : Boxed W5 BX 32 (.slice (some ⟨R, P, none⟩) many (many * n - P)) := (hB5.block _ hbx.lt).trans hbx
  have hR5 : IntRow R (spl F P B0) W5 := (hB5.block _ hR3.lt).trans hR3
  have hBw5 : Below R w W5 := hB3.trans (hB5.mono (Nat.le_of_lt hR3.lt))
  have hlr3 := hR3.lt
  have hbxl := hbx.lt
  have hps := kids11_stops t T M R W3.heap.size (W3.heap.size + 1) many (node : Int) _ _ _ L 8 W5 (hT3.below hB5) hb hn4 (hM3.below hB5) hL h1' h2' ⟨by omega, by omega, by omega, fun a h => Nat.ne_of_lt (r2 a h), fun a h => Nat.ne_of_lt (r3 a h)⟩
  clear hT3 hM3 h1' h2' hR3 hbx hB5 hB3
  apply rangeF rfl (enters_of Tryz.func147 (by kernel_rfl) rfl) hps keepOn_t (keepOn_b fun k hk => hk.1) (fun _ => rfl)
   (fun pre W => Boxed W BX 32 (.slice (some ⟨R, P, none⟩) many (many * n - P)) ∧ IntRow R (spl F P (kidsOn B0 (pre.map Subtype.val))) W ∧ Below R w W ∧ W5.heap.size ≤ W.heap.size)
   (fun _ _ _ => False)
  case hI => exact OwnFrom.and (Own.from (boxed_own _ _ _) _) (OwnFrom.and (Own.from (introw_own _ _) _) (OwnFrom.and (ownFrom_below (Nat.le_of_lt hlr) (by omega)) (own_size _ _)))
  case hIx => exact fun _ _ _ _ _ hs _ _ => hs
  case h0 => exact ⟨hbx5, hR5, hBw5, Nat.le_refl _⟩
  case hassign =>
   intro l x W K hK
   unfold kqEnc
   gi_wp2
   exact hK
  case hbody =>
   rintro l' pre ⟨⟨c, k⟩, hc⟩ W ⟨hx, hr, hBe, hs⟩ hlen
   dsimp only at hc ⊢
   obtain ⟨Z, hZ⟩ : ∃ Z, kidsOn B0 (pre.map Subtype.val) = Z := ⟨_, rfl⟩
   have hZl : Z.length = many := by rw [← hZ, kidsOn_len, HBL.out]
   have HZN : Hid (kidsOn B0 ((pre ++ [(⟨(c, k), hc⟩ : KdQ many)]).map Subtype.val) = Z.set c (k : Int)) := by
    rw [Hid, List.map_append]
    show kidsOn B0 (pre.map Subtype.val ++ [(c, k)]) = _
    rw [kidsOn_snoc, hZ]
   rw [hZ] at hr
   have HZ := Lib.hid hZ
   clear hZ
   have c1 := hx.cell
   have hcl : c < Z.length := by rw [hZl]; exact hc
   have c2 := hr.cell ((spl_at (by rw [hZl, HF.out]; exact hP) hcl).trans (List.getElem?_eq_getElem hcl))
   have c3 := hr.frozen (P + c)
   have i1 : (0 : Int) ≤ (c : Int) := by omega
   have i2 : (c : Int) < (many : Int) := by omega
   have hset := hr.set (j := P + c) (k : Int)
   rw [spl_set (by rw [hZl, HF.out]; exact hP) hcl, ← HZN.out] at hset
   have HSET := Lib.hid hset
   clear hset
   gi_wp2
   refine ⟨(KeepsOthers.setCell W ⟨R, P + c, none⟩ (.int .i64 (k : Int))).from W5.heap.size, fun b hb => Below.heap_setCell _ _ _ _ (fun e => hb.2 (by simpa using e)), (Below.heap_setCell _ _ _ _ (by simp; omega)).trans hx, HSET.out, hBe.setCell (by simp) _, by simpa using hs⟩
  case hdone =>
   rintro D zs W hD hS ⟨hx, hr, hBe, hs⟩ hD2
   rw [hS] at hr
   go_wp2
   refine endM' rfl hD2 (results_none rfl _ _ _) ⟨rfl, ?_, put_below hBe (by omega) (by omega) _⟩
   unfold fillF
   rw [HPe.out, HB0.out]
   exact (World.putObj_heap_other (by omega)).trans hr
  case hstop => exact fun _ _ _ _ _ _ h _ => h.elim

end Go.Proofs.YtbldfgaogmfoaaaGreat

/- Tables (layer 11): plain: the classes of words' bytes. -/

namespace Go.Proofs.YtbldfgaogmfoaaaGreat

/-- A byte has a class of its own. -/
def ownB (p : Int → Bool) (fold : Bool) (j : Nat) : Prop := p j = true ∧ (fold && smallI j) = false
theorem many_mono (p : Int → Bool) (fold : Bool) {j : Nat} : ∀ {i : Nat}, j ≤ i → (clsN p fold j).2 ≤ (clsN p fold i).2
 | 0, h => by rw [Nat.le_zero.1 h]; exact Nat.le_refl _
 | i + 1, h => by
  by_cases e : j = i + 1
  · rw [e]; exact Nat.le_refl _
  ·
   have ih := many_mono p fold (j := j) (i := i) (by omega)
   rw [clsN_succ]
   split
   · exact ih
   ·
    split
    · exact ih
    · exact Nat.le_succ_of_le ih
theorem many_own {p : Int → Bool} {fold : Bool} {j : Nat} (h : ownB p fold j) : (clsN p fold (j + 1)).2 = (clsN p fold j).2 + 1 := by
 rw [clsN_succ, if_neg (by rw [h.1]; decide), if_neg (by rw [h.2]; decide)]
theorem many_lt {p : Int → Bool} {fold : Bool} {j i : Nat} (h : ownB p fold j) (hj : j < i) : (clsN p fold j).2 < (clsN p fold i).2 := by
 have h1 := many_own h
 have h2 := many_mono p fold (j := j + 1) (i := i) hj
 omega
theorem cls_own {p : Int → Bool} {fold : Bool} {j i : Nat} (h : ownB p fold j) (hj : j < i) : (clsN p fold i).1[j]? = some ((clsN p fold j).2 : Int) := by
 rw [cls_at p fold hj, if_neg (by rw [h.1]; decide), if_neg (by rw [h.2]; decide)]
theorem cls_no {p : Int → Bool} {fold : Bool} {j i : Nat} (h : p j = false) (hj : j < i) : (clsN p fold i).1[j]? = some 0 := by
 rw [cls_at p fold hj, if_pos h]
/-- The byte of whose class a byte is. -/
def repB (fold : Bool) (c : Nat) : Nat := if (fold && smallI c) = true then c - 32 else c
/-- A great letter's small one is of its class. -/
def Shut (p : Int → Bool) (fold : Bool) : Prop := ∀ j : Nat, (fold && smallI j) = true → p j = p ((j - 32 : Nat) : Int)
theorem rep_own {p : Int → Bool} {fold : Bool} (hp : Shut p fold) {c : Nat} (h : p c = true) : ownB p fold (repB fold c) := by
 unfold repB
 split
 ·
  rename_i hs
  refine ⟨by rw [← hp c hs]; exact h, ?_⟩
  have h2 : smallI c = true := by rw [Bool.and_eq_true] at hs; exact hs.2
  unfold smallI at h2 ⊢
  rw [decide_eq_true_iff] at h2
  have : ¬ (97 ≤ ((c - 32 : Nat) : Int) ∧ ((c - 32 : Nat) : Int) ≤ 122) := by omega
  rw [decide_eq_false this, Bool.and_false]
 ·
  rename_i hs
  exact ⟨h, by simpa using hs⟩
theorem rep_le (fold : Bool) (c : Nat) : repB fold c ≤ c := by unfold repB; split <;> omega
/-- The class of a byte that is one of a set's. -/
def clsO (p : Int → Bool) (fold : Bool) (c : Nat) : Nat := (clsN p fold (repB fold c)).2
theorem cls_rep {p : Int → Bool} {fold : Bool} (hp : Shut p fold) {c i : Nat} (h : p c = true) (hc : c < i) : (clsN p fold i).1[c]? = some (clsO p fold c : Int) := by
 have ho := rep_own hp h
 unfold clsO
 by_cases hs : (fold && smallI c) = true
 ·
  rw [cls_at p fold hc, if_neg (by rw [h]; decide), if_pos hs]
  have e : repB fold c = c - 32 := by unfold repB; rw [if_pos hs]
  rw [e] at ho ⊢
  have h2 : smallI c = true := by rw [Bool.and_eq_true] at hs; exact hs.2
  unfold smallI at h2
  rw [decide_eq_true_iff] at h2
  rw [cls_own ho (by omega)]
  rfl
 ·
  have e : repB fold c = c := by unfold repB; rw [if_neg hs]
  rw [e] at ho ⊢
  exact cls_own ho hc
theorem clsO_pos (p : Int → Bool) (fold : Bool) (c : Nat) : 1 ≤ clsO p fold c := (clsN_many p fold _).1
theorem clsO_lt {p : Int → Bool} {fold : Bool} (hp : Shut p fold) {c i : Nat} (h : p c = true) (hc : c < i) : clsO p fold c < (clsN p fold i).2 := many_lt (rep_own hp h) (Nat.lt_of_le_of_lt (rep_le fold c) hc)
theorem clsO_inj {p : Int → Bool} {fold : Bool} (hp : Shut p fold) {c d : Nat} (hc : p c = true) (hd : p d = true) (h : clsO p fold c = clsO p fold d) : repB fold c = repB fold d := by
 have h1 := rep_own hp hc
 have h2 := rep_own hp hd
 unfold clsO at h
 rcases Nat.lt_trichotomy (repB fold c) (repB fold d) with h3 | h3 | h3
 · have := many_lt h1 h3; omega
 · exact h3
 · have := many_lt h2 h3; omega

/-- A byte stands in a word. -/
def wordB (ws : List (List Int)) (c : Int) : Prop := ∃ w ∈ ws, c ∈ w
theorem inB_word {fold : Bool} {ws : List (List Int)} {c : Int} (h : wordB ws c) : inB fold ws c = true := by
 obtain ⟨w, h1, h2⟩ := h
 unfold inB
 rw [List.any_eq_true]
 exact ⟨w, h1, by rw [List.any_eq_true]; exact ⟨c, h2, by simp⟩⟩
theorem inB_iff {fold : Bool} {ws : List (List Int)} {c : Int} : inB fold ws c = true ↔ ∃ x, wordB ws x ∧ (x = c ∨ fold = true ∧ smallI x = true ∧ x - 32 = c) := by
 unfold inB
 rw [List.any_eq_true]
 constructor
 ·
  rintro ⟨w, h1, h2⟩
  rw [List.any_eq_true] at h2
  obtain ⟨x, h3, h4⟩ := h2
  refine ⟨x, ⟨w, h1, h3⟩, ?_⟩
  rw [Bool.or_eq_true, Bool.and_eq_true, Bool.and_eq_true, decide_eq_true_iff, decide_eq_true_iff] at h4
  rcases h4 with h4 | ⟨⟨h4, h5⟩, h6⟩
  · exact .inl h4
  · exact .inr ⟨h4, h5, h6⟩
 ·
  rintro ⟨x, ⟨w, h1, h2⟩, h3⟩
  refine ⟨w, h1, ?_⟩
  rw [List.any_eq_true]
  refine ⟨x, h2, ?_⟩
  rw [Bool.or_eq_true, Bool.and_eq_true, Bool.and_eq_true, decide_eq_true_iff, decide_eq_true_iff]
  rcases h3 with h3 | ⟨h3, h4, h5⟩
  · exact .inl h3
  · exact .inr ⟨⟨h3, h4⟩, h5⟩
/-- Words that are folded have no great letters. -/
def noGreat (fold : Bool) (ws : List (List Int)) : Prop := fold = true → ∀ x, wordB ws x → ¬ (65 ≤ x ∧ x ≤ 90)
theorem noGreat_of {fold : Bool} {ws : List (List Int)} (hw : ∀ w ∈ ws, foldL fold w = w) : noGreat fold ws := by
 rintro rfl x ⟨w, h1, h2⟩ hx
 have h := hw w h1
 unfold foldL at h
 rw [if_pos rfl] at h
 obtain ⟨i, hi⟩ := List.getElem?_of_mem h2
 have h3 := congrArg (fun l => l[i]?) h
 simp only [List.getElem?_map, hi, Option.map_some] at h3
 have h4 : foldI x = x := Option.some.inj h3
 unfold foldI at h4
 rw [if_pos hx] at h4
 omega
theorem inB_shut {fold : Bool} {ws : List (List Int)} (hg : noGreat fold ws) : Shut (inB fold ws) fold := by
 intro j hj
 rw [Bool.and_eq_true] at hj
 obtain ⟨rfl, hs⟩ := hj
 have hs2 := hs
 unfold smallI at hs2
 rw [decide_eq_true_iff] at hs2
 rw [Bool.eq_iff_iff, inB_iff, inB_iff]
 constructor
 ·
  rintro ⟨x, h1, h2⟩
  refine ⟨j, ?_, .inr ⟨rfl, hs, by omega⟩⟩
  rcases h2 with rfl | ⟨_, h3, h4⟩
  · exact h1
  ·
   unfold smallI at h3
   rw [decide_eq_true_iff] at h3
   omega
 ·
  rintro ⟨x, h1, h2⟩
  have hx := hg rfl x h1
  rcases h2 with h2 | ⟨_, h3, h4⟩
  · omega
  ·
   obtain rfl : x = j := by omega
   exact ⟨_, h1, .inl rfl⟩
/-- Two bytes of words that are of one class are one. -/
theorem word_inj {fold : Bool} {ws : List (List Int)} (hg : noGreat fold ws) {c d : Nat} (hc : wordB ws c) (hd : wordB ws d) (h : clsO (inB fold ws) fold c = clsO (inB fold ws) fold d) : c = d := by
 have h1 := clsO_inj (inB_shut hg) (inB_word hc) (inB_word hd) h
 unfold repB at h1
 cases fold with
 | false => simpa using h1
 | true =>
  have g1 := hg rfl c hc
  have g2 := hg rfl d hd
  unfold smallI at h1
  simp only [Bool.true_and, decide_eq_true_iff] at h1
  split at h1 <;> split at h1 <;> omega
end Go.Proofs.YtbldfgaogmfoaaaGreat

/- Tables (layer 11): plain: what a row holds that is filled. -/

namespace Go.Proofs.YtbldfgaogmfoaaaGreat
open Go Go.RowKit Go.Sort

theorem kidsOn_no {p : Nat} : ∀ (ks : List (Nat × Nat)) (r : List Int), (∀ q ∈ ks, q.1 ≠ p) → (kidsOn r ks)[p]? = r[p]?
 | [], r, _ => rfl
 | k :: ks, r, h => by
  show (kidsOn (r.set k.1 _) ks)[p]? = _
  rw [kidsOn_no ks _ (fun q hq => h q (by simp [hq])), List.getElem?_set_ne (h k (by simp))]
theorem kidsOn_yes {p k : Nat} : ∀ (ks : List (Nat × Nat)) (r : List Int), (∀ q ∈ ks, q.1 = p → q.2 = k) → p < r.length → ((∃ q ∈ ks, q.1 = p) ∨ r[p]? = some (k : Int)) → (kidsOn r ks)[p]? = some (k : Int)
 | [], r, _, _, h => by
  rcases h with ⟨q, hq, _⟩ | h
  · cases hq
  · exact h
 | a :: ks, r, h, hp, h2 => by
  show (kidsOn (r.set a.1 (a.2 : Int)) ks)[p]? = _
  refine kidsOn_yes ks _ (fun q hq => h q (by simp [hq])) (by simpa using hp) ?_
  by_cases e : a.1 = p
  ·
   right
   rw [e, List.getElem?_set_self hp, h a (by simp) e]
  ·
   rcases h2 with ⟨q, hq, he⟩ | h2
   ·
    rcases List.mem_cons.1 hq with rfl | hq
    · exact absurd he e
    · exact .inl ⟨q, hq, he⟩
   ·
    right
    rw [List.getElem?_set_ne e]
    exact h2

/-- A row of a table's rows. -/
def rowOf (F : List Int) (many j : Nat) : List Int := (F.drop (j * many)).take many
theorem rowOf_at {F : List Int} {many j p : Nat} (hp : p < many) : (rowOf F many j)[p]? = F[j * many + p]? := by
 unfold rowOf
 rw [List.getElem?_take_of_lt hp, List.getElem?_drop]
theorem rowOf_len {F : List Int} {many n j : Nat} (hF : F.length = many * n) (hj : j < n) : (rowOf F many j).length = many := by
 have := mul_fit (many := many) hj
 unfold rowOf
 simp; omega
theorem spl_out {F r : List Int} {P q : Nat} (h : P + r.length ≤ F.length) (hq : q < P ∨ P + r.length ≤ q) : (spl F P r)[q]? = F[q]? := by
 have e1 : (F.take P).length = P := by simp; omega
 unfold spl
 rcases hq with hq | hq
 · rw [List.append_assoc, List.getElem?_append_left (by omega), List.getElem?_take_of_lt hq]
 ·
  rw [List.getElem?_append_right (by rw [List.length_append, e1]; exact hq), List.length_append, e1, List.getElem?_drop]
  congr 1
  omega
theorem rowOf_same {F r : List Int} {many n i : Nat} (hF : F.length = many * n) (hi : i < n) (hr : r.length = many) : rowOf (spl F (i * many) r) many i = r := by
 have hfit := mul_fit (many := many) hi
 apply List.ext_getElem?
 intro p
 by_cases hp : p < many
 · rw [rowOf_at hp, spl_at (by omega) (by omega)]
 ·
  have h1 := rowOf_len (F := spl F (i * many) r) (many := many) (n := n) (by rw [spl_len (by omega)]; exact hF) hi
  rw [List.getElem?_eq_none (by omega), List.getElem?_eq_none (by omega)]
theorem rowOf_other {F r : List Int} {many n i j : Nat} (hF : F.length = many * n) (hi : i < n) (hj : j < n) (hr : r.length = many) (hij : j ≠ i) : rowOf (spl F (i * many) r) many j = rowOf F many j := by
 have hfit := mul_fit (many := many) hi
 apply List.ext_getElem?
 intro p
 by_cases hp : p < many
 ·
  rw [rowOf_at hp, rowOf_at hp]
  refine spl_out (by omega) ?_
  rcases Nat.lt_or_gt_of_ne hij with h | h
  ·
   left
   have := Nat.mul_le_mul_right many (show j + 1 ≤ i from h)
   rw [Nat.succ_mul] at this
   omega
  ·
   right
   have := Nat.mul_le_mul_right many (show i + 1 ≤ j from h)
   rw [Nat.succ_mul] at this
   omega
 ·
  have h1 := rowOf_len (F := spl F (i * many) r) (many := many) (n := n) (by rw [spl_len (by omega)]; exact hF) hj
  have h2 := rowOf_len (F := F) (many := many) hF hj
  rw [List.getElem?_eq_none (by omega), List.getElem?_eq_none (by omega)]

/-- Where one goes on. -/
def goesV (ws : List (List Int)) (x : List Int) (c : Int) : Int := placeS (nodesL ws) (lsf (nodesL ws) (x ++ [c]))
theorem node_word {ws : List (List Int)} {x : List Int} {c : Int} (h : x ++ [c] ∈ nodesL ws) : wordB ws c := by
 rcases (mem_nodesL ws).1 h with h | ⟨w, hw, k, _, _, he⟩
 · simp at h
 · exact ⟨w, hw, List.mem_of_mem_take (i := k) (by rw [← he]; simp)⟩
/-- A node's kids, each with the class of its byte. -/
theorem mem_kidsQ {fold : Bool} {ws : List (List Int)} (hg : noGreat fold ws) (hb : ∀ x, wordB ws x → 0 ≤ x ∧ x ≤ 255) {i : Nat} {x : List Int} (hx : (nodesL ws)[i]? = some x) {q : Nat × Nat} :
  q ∈ kidsQ (clsP fold ws) (trieP ws) (i : Int) (nodesL ws).length ↔ ∃ (c j : Nat), (nodesL ws)[j]? = some (x ++ [(c : Int)]) ∧ q = (clsO (inB fold ws) fold c, j) := by
 have hnd := (nodesL_srt ws).nodup
 have hcl : ∀ c : Nat, wordB ws (c : Int) → (clsP fold ws)[c]? = some (clsO (inB fold ws) fold c : Int) := fun c hc => cls_rep (inB_shut hg) (inB_word hc) (by have := hb _ hc; omega)
 unfold kidsQ
 rw [List.mem_map]
 constructor
 ·
  rintro ⟨⟨b, j⟩, hp, rfl⟩
  obtain ⟨h1, h2, h3, h4⟩ := mem_kidsA.1 hp
  dsimp only at h1 h2 h3 h4
  obtain ⟨y, hy⟩ : ∃ y, (nodesL ws)[j]? = some y := ⟨(nodesL ws)[j]'h2, by simp⟩
  obtain ⟨u1, u2, _⟩ := trie_row hy
  rw [u1] at h3
  rw [u2, Option.getD_some] at h4
  have hy0 : y ≠ [] := fun e2 => by have := (node_zero hy).2 e2; omega
  obtain ⟨k, hk⟩ := List.getElem?_of_mem (up_mem (List.mem_of_getElem? hy))
  have hp2 := placeS_at hnd hk
  have hki : k = i := by have := Option.some.inj h3; omega
  subst hki
  rw [hx] at hk
  have hxy : y = x ++ [b] := by rw [Option.some.inj hk, h4]; exact snoc_last hy0
  subst hxy
  have hw := node_word (List.mem_of_getElem? hy)
  have hbb := hb _ hw
  obtain ⟨c, rfl⟩ : ∃ c : Nat, b = (c : Int) := ⟨b.toNat, by omega⟩
  refine ⟨c, j, hy, ?_⟩
  rw [Int.toNat_natCast, hcl c hw, Option.getD_some, Int.toNat_natCast]
 ·
  rintro ⟨c, j, hj, rfl⟩
  have hw := node_word (List.mem_of_getElem? hj)
  refine ⟨((c : Int), j), mem_kidsA.2 ?_, ?_⟩
  ·
   obtain ⟨u1, u2, _⟩ := trie_row hj
   rw [u1, u2, List.dropLast_concat]
   have hl := (List.getElem?_eq_some_iff.1 hj).1
   refine ⟨?_, hl, ?_, ?_⟩
   ·
    have h0 : j ≠ 0 := fun e => by have := (node_zero hj).1 e; simp at this
    show 1 ≤ j
    omega
   · rw [placeS_at hnd hx]
   ·
    show (c : Int) = _
    simp [lastB]
  ·
   dsimp only
   rw [Int.toNat_natCast, hcl c hw, Option.getD_some, Int.toNat_natCast]
/-- What a node's row holds. -/
def RowOK (fold : Bool) (ws : List (List Int)) (r : List Int) (x : List Int) : Prop :=
 r.length = manyP fold ws ∧ r[0]? = some 0 ∧ ∀ c : Nat, wordB ws (c : Int) → r[clsO (inB fold ws) fold c]? = some (goesV ws x (c : Int))
theorem row_kids {fold : Bool} {ws : List (List Int)} (hg : noGreat fold ws) (hb : ∀ x, wordB ws x → 0 ≤ x ∧ x ≤ 255) {i : Nat} {x : List Int} (hx : (nodesL ws)[i]? = some x) {r : List Int} (hr : r.length = manyP fold ws) (h0 : r[0]? = some 0)
  (hbase : ∀ c : Nat, wordB ws (c : Int) → x ++ [(c : Int)] ∉ nodesL ws → r[clsO (inB fold ws) fold c]? = some (goesV ws x (c : Int))) :
  RowOK fold ws (kidsOn r (kidsQ (clsP fold ws) (trieP ws) (i : Int) (nodesL ws).length)) x := by
 have hm := @mem_kidsQ fold ws hg hb i x hx
 refine ⟨by rw [kidsOn_len]; exact hr, ?_, fun c hc => ?_⟩
 ·
  rw [kidsOn_no]
  · exact h0
  ·
   intro q hq e
   obtain ⟨d, j, _, rfl⟩ := hm.1 hq
   have := clsO_pos (inB fold ws) fold d
   dsimp only at e
   omega
 ·
  have hlt : clsO (inB fold ws) fold c < manyP fold ws := clsO_lt (inB_shut hg) (inB_word hc) (by have := hb _ hc; omega)
  by_cases hn : x ++ [(c : Int)] ∈ nodesL ws
  ·
   obtain ⟨j, hj⟩ := List.getElem?_of_mem hn
   have hgo : goesV ws x (c : Int) = (j : Int) := by
    unfold goesV
    rw [lsf_of_mem hn, placeS_at (nodesL_srt ws).nodup hj]
   rw [hgo]
   refine kidsOn_yes _ _ (fun q hq e => ?_) (by omega) (.inl ⟨_, hm.2 ⟨c, j, hj, rfl⟩, rfl⟩)
   obtain ⟨d, k, hk, rfl⟩ := hm.1 hq
   have hd := node_word (List.mem_of_getElem? hk)
   have hdc := word_inj hg hd hc e
   subst hdc
   exact node_inj hk hj
  ·
   rw [kidsOn_no]
   · exact hbase c hc hn
   ·
    intro q hq e
    obtain ⟨d, k, hk, rfl⟩ := hm.1 hq
    have hd := node_word (List.mem_of_getElem? hk)
    have hdc := word_inj hg hd hc e
    subst hdc
    exact hn (List.mem_of_getElem? hk)

/-- A table of which the first rows are filled. -/
def TabOK (fold : Bool) (ws : List (List Int)) (F : List Int) (i : Nat) : Prop :=
 F.length = manyP fold ws * (nodesL ws).length ∧ (∀ j : Nat, j < i → ∀ x, (nodesL ws)[j]? = some x → RowOK fold ws (rowOf F (manyP fold ws) j) x) ∧ ∀ j : Nat, i ≤ j → j < (nodesL ws).length → rowOf F (manyP fold ws) j = List.replicate (manyP fold ws) 0
theorem up_len (ws : List (List Int)) : (trieP ws).up.length = (nodesL ws).length := by simp [trieP]
theorem link_low {ws : List (List Int)} {i : Nat} {x : List Int} (hx : (nodesL ws)[i]? = some x) (h0 : i ≠ 0) : ∃ k : Nat, (linksP ws)[i]? = some (k : Int) ∧ k < i ∧ (nodesL ws)[k]? = some (linkL (nodesL ws) x) := by
 obtain ⟨k, h1, h2⟩ := linkI_at (ws := ws) x
 refine ⟨k, by rw [linksP_at hx, h1], ?_, h2⟩
 exact idx_len hx h2 (linkL_len (fun e => h0 ((node_zero hx).2 e)))
theorem tab_step {fold : Bool} {ws : List (List Int)} (hg : noGreat fold ws) (hb : ∀ x, wordB ws x → 0 ≤ x ∧ x ≤ 255) {F : List Int} {i : Nat} (hi : i < (nodesL ws).length) (h : TabOK fold ws F i) :
  TabOK fold ws (fillF (clsP fold ws) (trieP ws) (linksP ws) F (manyP fold ws) i) (i + 1) := by
 obtain ⟨hF, hrow, hzero⟩ := h
 obtain ⟨x, hx⟩ : ∃ x, (nodesL ws)[i]? = some x := ⟨(nodesL ws)[i], by simp⟩
 have hm1 : 1 ≤ manyP fold ws := (clsN_many _ _ _).1
 have hl : i ≠ 0 → ∃ k : Nat, (linksP ws)[i]? = some (k : Int) ∧ k < (nodesL ws).length := fun h0 => by
  obtain ⟨k, h1, h2, _⟩ := link_low hx h0
  exact ⟨k, h1, by omega⟩
 have hbl := baseR_len (lk := linksP ws) hF hi hl
 have hOK : RowOK fold ws (kidsOn (baseR F (manyP fold ws) i (linksP ws)) (kidsQ (clsP fold ws) (trieP ws) (i : Int) (nodesL ws).length)) x := by
  by_cases h0 : i = 0
  ·
   subst h0
   have hx0 := (node_zero hx).1 rfl
   subst hx0
   have hbz : baseR F (manyP fold ws) 0 (linksP ws) = List.replicate (manyP fold ws) 0 := by
    rw [← hzero 0 (Nat.le_refl _) hi]
    unfold baseR rowOf
    rw [if_pos rfl]
   rw [hbz] at hbl ⊢
   refine row_kids hg hb hx hbl (by rw [List.getElem?_replicate, if_pos (by omega)]) (fun c hc hn => ?_)
   have hlt : clsO (inB fold ws) fold c < manyP fold ws := clsO_lt (inB_shut hg) (inB_word hc) (by have := hb _ hc; omega)
   rw [List.getElem?_replicate, if_pos hlt]
   unfold goesV
   rw [List.nil_append] at hn ⊢
   rw [lsf_none hn, placeS_at (nodesL_srt ws).nodup hx]
   rfl
  ·
   obtain ⟨k, h1, h2, h3⟩ := link_low hx h0
   have hbz : baseR F (manyP fold ws) i (linksP ws) = rowOf F (manyP fold ws) k := by
    unfold baseR rowOf
    rw [if_neg h0, h1]
    rfl
   rw [hbz] at hbl ⊢
   obtain ⟨g1, g2, g3⟩ := hrow k h2 _ h3
   refine row_kids hg hb hx hbl g2 (fun c hc hn => ?_)
   rw [g3 c hc]
   unfold goesV linkL
   rw [← lsf_step (nodes_pre ws)]
   cases x with
   | nil => exact absurd ((node_zero hx).2 rfl) h0
   | cons a t =>
    conv => rhs; rw [List.cons_append]; unfold lsf
    rw [List.cons_append] at hn
    rw [if_neg hn]
    rfl
 unfold fillF
 rw [up_len]
 have hKl := hOK.1
 have hfit := mul_fit (many := manyP fold ws) hi
 refine ⟨by rw [spl_len (by omega)]; exact hF, fun j hj y hy => ?_, fun j hj hjn => ?_⟩
 ·
  by_cases e : j = i
  ·
   subst e
   rw [rowOf_same hF hi hKl]
   rw [hx] at hy
   rw [← Option.some.inj hy]
   exact hOK
  ·
   rw [rowOf_other hF hi (by omega) hKl e]
   exact hrow j (by omega) y hy
 ·
  rw [rowOf_other hF hi hjn hKl (by omega)]
  exact hzero j (by omega) hjn
theorem tab_zero (fold : Bool) (ws : List (List Int)) : TabOK fold ws (List.replicate (manyP fold ws * (nodesL ws).length) 0) 0 := by
 refine ⟨by simp, fun j hj => absurd hj (Nat.not_lt_zero _), fun j _ hj => ?_⟩
 have hfit := mul_fit (many := manyP fold ws) hj
 unfold rowOf
 rw [List.drop_replicate, List.take_replicate]
 congr 1
 omega
/-- The table's rows, of which the first are filled. -/
def tabF (fold : Bool) (ws : List (List Int)) : Nat → List Int
 | 0 => List.replicate (manyP fold ws * (nodesL ws).length) 0
 | i + 1 => fillF (clsP fold ws) (trieP ws) (linksP ws) (tabF fold ws i) (manyP fold ws) i
theorem tab_ok {fold : Bool} {ws : List (List Int)} (hg : noGreat fold ws) (hb : ∀ x, wordB ws x → 0 ≤ x ∧ x ≤ 255) : ∀ {i : Nat}, i ≤ (nodesL ws).length → TabOK fold ws (tabF fold ws i) i
 | 0, _ => tab_zero fold ws
 | i + 1, h => tab_step hg hb h (tab_ok hg hb (by omega))
/-- The table's rows. -/
def tabP (fold : Bool) (ws : List (List Int)) : List Int := tabF fold ws (nodesL ws).length
/-- Where a table leads. -/
theorem tab_at {fold : Bool} {ws : List (List Int)} (hg : noGreat fold ws) (hb : ∀ x, wordB ws x → 0 ≤ x ∧ x ≤ 255) {j : Nat} {x : List Int} (hx : (nodesL ws)[j]? = some x) :
  (tabP fold ws)[j * manyP fold ws]? = some 0 ∧ ∀ c : Nat, wordB ws (c : Int) → (tabP fold ws)[j * manyP fold ws + clsO (inB fold ws) fold c]? = some (goesV ws x (c : Int)) := by
 have hj := (List.getElem?_eq_some_iff.1 hx).1
 obtain ⟨_, h1, _⟩ := tab_ok hg hb (Nat.le_refl (nodesL ws).length)
 obtain ⟨h2, h3, h4⟩ := h1 j hj x hx
 have hm1 : 1 ≤ manyP fold ws := (clsN_many _ _ _).1
 refine ⟨?_, fun c hc => ?_⟩
 ·
  rw [rowOf_at (by omega)] at h3
  exact h3
 ·
  have h5 := h4 c hc
  have hlt : clsO (inB fold ws) fold c < manyP fold ws := clsO_lt (inB_shut hg) (inB_word hc) (by have := hb _ hc; omega)
  rw [rowOf_at hlt] at h5
  exact h5
end Go.Proofs.YtbldfgaogmfoaaaGreat

/- Tables (layer 11): how many rows there are, where one goes on; walked. -/

namespace Go.Proofs.YtbldfgaogmfoaaaGreat
open Go.RowKit Go.Sort

/-- A table's cells: its classes, how many, its rows. -/
def dvC (L : List Int) (m : Int) (row : Value) : List Value := (L.map (Value.int .i64) ++ [.int .i64 m]) ++ [row]
/-- A table in a box. -/
structure Dv (W : World) (B : Nat) (L : List Int) (m : Int) (row : Value) : Prop where
 box : W.heap[B]? = some (.cells (dvC L m row).toArray 109 (0, 0))
 len : L.length = 256
theorem Dv.lt {W : World} {B : Nat} {L : List Int} {m : Int} {row : Value} (h : Dv W B L m row) : B < W.heap.size := (Array.getElem?_eq_some_iff.1 h.box).1
theorem Dv.below {W V : World} {B : Nat} {L : List Int} {m : Int} {row : Value} (h : Dv W B L m row) (hb : Below W.heap.size W V) : Dv V B L m row := ⟨(hb.block B h.lt).trans h.box, h.len⟩
theorem Dv.cls {W : World} {B : Nat} {L : List Int} {m : Int} {row : Value} (h : Dv W B L m row) {c : Nat} {v : Int} (hv : L[c]? = some v) : W.cell? ⟨B, c, none⟩ = some (.int .i64 v) := by
 have hc : c < 256 := by have := (List.getElem?_eq_some_iff.1 hv).1; have := h.len; omega
 have e : (dvC L m row)[c]? = some (.int .i64 v) := by
  unfold dvC
  rw [List.getElem?_append_left (by simp [h.len]; omega), List.getElem?_append_left (by simp [h.len]; omega), List.getElem?_map, hv]
  rfl
 simp only [World.cell?, h.box]
 simp [e]
theorem Dv.cells {W : World} {B : Nat} {L : List Int} {m : Int} {row : Value} (h : Dv W B L m row) : W.cell? ⟨B, 256, none⟩ = some (.int .i64 m) ∧ W.cell? ⟨B, 257, none⟩ = some row := by
 have hl := h.len
 have e1 : (dvC L m row)[256]? = some (.int .i64 m) := by
  unfold dvC
  rw [List.append_assoc, List.getElem?_append_right (by simp [hl])]
  simp [hl]
 have e2 : (dvC L m row)[257]? = some row := by
  unfold dvC
  rw [List.getElem?_append_right (by simp [hl])]
  simp [hl]
 simp only [World.cell?, h.box]
 simp [e1, e2]
theorem Dv.new (w : World) (L : List Int) (m : Int) (row : Value) (hL : L.length = 256) : Dv (w.alloc (.cells (dvC L m row).toArray 109)) w.heap.size L m row := ⟨((Bx.nil _ w).snoc (.cells (dvC L m row).toArray 109) rfl) 0 _ rfl, hL⟩

/-- How many rows a table has. -/
def statesZ (m : Int) (n : Nat) : Int := if m < 1 then 0 else (n : Int) / m
set_option maxRecDepth 100000 in
set_option maxHeartbeats 4000000 in
theorem states11_any (L : List Int) (m : Int) (a : Option Addr) (n c : Nat) (w : World) (hL : L.length = 256) (hn : n ≤ 1000000000000) :
  Calls Tryz.prog 64 #[.agg (dvC L m (.slice a n c)).toArray] w fun e w' => e = .returned (.int .i64 (statesZ m n)) ∧ Below w.heap.size w w' := by
 have hD := Dv.new w L m (.slice a n c) hL
 have hB : Below w.heap.size w (w.alloc (.cells (dvC L m (.slice a n c)).toArray 109)) := below_alloc _ _
 obtain ⟨W, hW⟩ : ∃ W, W = w.alloc (.cells (dvC L m (.slice a n c)).toArray 109) := ⟨_, rfl⟩
 rw [← hW] at hD hB
 obtain ⟨s1, s2⟩ := hD.cells
 obtain ⟨A, hA⟩ : ∃ A, (dvC L m (.slice a n c)).toArray = A := ⟨_, rfl⟩
 rw [hA] at hW ⊢
 clear hA hD
 by_cases hm : m < 1
 ·
  have dm : decide (m < 1) = true := by simpa using hm
  have hz : statesZ m n = 0 := by unfold statesZ; rw [if_pos hm]
  rw [hz]
  clear hz hm
  go_enter Tryz.func64, Tryz.ntmps64
  go_upto_region 1 with fail
  rw [← hW]
  clear hW
  go_wp2_with fail
  go_ret
  exact ⟨rfl, hB⟩
 ·
  have dm : decide (m < 1) = false := by simpa using hm
  obtain ⟨k, rfl⟩ : ∃ k : Nat, m = (k : Int) := ⟨m.toNat, by omega⟩
  have hz : statesZ k n = ((n / k : Nat) : Int) := by unfold statesZ; rw [if_neg hm]; exact (Int.natCast_ediv n k).symm
  rw [hz]
  have hk0 : ¬ ((k : Int) = 0) := by omega
  have hk1 : ((k : Int) == 0) = false := by simp; omega
  have hq : (n : Int).tdiv (k : Int) = ((n / k : Nat) : Int) := (Int.ofNat_tdiv n k).symm
  have hle : n / k ≤ n := Nat.div_le_self _ _
  have hwr : wrap64 ((n : Int) / (k : Int)) = ((n / k : Nat) : Int) := by
   have h2 : n / k ≤ 1000000000000 := Nat.le_trans hle hn
   rw [← Int.natCast_ediv]
   clear hq hk0 hk1 hle
   generalize n / k = d at h2 ⊢
   unfold wrap64
   omega
  have HWR := Lib.hid hwr
  clear hwr hq
  clear hz hm
  go_enter Tryz.func64, Tryz.ntmps64
  go_upto_region 1 with fail
  rw [← hW]
  clear hW
  go_wp2_with fail
  rw [HWR.out]
  go_ret
  exact ⟨rfl, hB⟩
end Go.Proofs.YtbldfgaogmfoaaaGreat

/- Tables (layer 11): where one goes on; walked. -/

namespace Go.Proofs.YtbldfgaogmfoaaaGreat
open Go.RowKit Go.Sort

theorem info28 : (Tryz.prog.info? 109).map (·.size) = some 258 := by kernel_rfl
theorem dvC_size {L : List Int} (hL : L.length = 256) (m : Int) (row : Value) : (dvC L m row).toArray.size = 258 := by simp [dvC, hL]

end Go.Proofs.YtbldfgaogmfoaaaGreat

/- Tables (layer 11): where any table leads by a byte; walked. -/

namespace Go.Proofs.YtbldfgaogmfoaaaGreat
open Go.RowKit Go.Sort

/-- Where a table leads from a node by a byte. -/
def goD (L : List Int) (m : Int) (F : List Int) (node : Int) (c : Nat) : Option Int :=
 if ((L[c]?).getD 0 < 0 ∨ m ≤ (L[c]?).getD 0) ∨ (node < 0 ∨ statesZ m F.length ≤ node) then none else F[(node * m + (L[c]?).getD 0).toNat]?
def goDV : Option Int → Value
 | some x => .tuple #[.int .i64 x, .bool true]
 | none => .tuple #[.int .i64 0, .bool false]

end Go.Proofs.YtbldfgaogmfoaaaGreat

/- Where words stand in a text (layer 6): the test and the iterator, walked. -/

namespace Go.Proofs.YtbldfgaogmfoaaaGreat
open Go.RowKit Go.Sort
attribute [local go_sem] Oper.semAt_some
attribute [local simp] wide_fn wide_depth
attribute [local go_sem] wide_fn wide_depth

theorem stands_is {fold : Bool} {wss : List (List Int)} {text : List Int} {p k : Nat} {x : List Int} (hx : wss[k]? = some x) : stands fold wss text p k = atL fold text (p : Int) x := by
 unfold stands
 rw [hx, Option.getD_some]

end Go.Proofs.YtbldfgaogmfoaaaGreat

/- Slices of cells, slices of hits; append of them (layer 6). -/

namespace Go.Proofs.YtbldfgaogmfoaaaGreat
open Go.RowKit Go.Sort

/-- A slice whose elements have some cells each: what they hold. -/
def SlK (size : Nat) (w : World) (a : Option Addr) (len : Nat) (cs : List Value) : Prop :=
 cs.length = len * size ∧ (len = 0 ∨ ∃ b off, a = some ⟨b, off, none⟩ ∧ b < w.heap.size ∧ ∀ (i : Nat) (u : Value), cs[i]? = some u → w.cell? ⟨b, off + i, none⟩ = some u)
theorem SlK.below {size : Nat} {w w' : World} {a : Option Addr} {len : Nat} {cs : List Value} (h : SlK size w a len cs) (hb : Below w.heap.size w w') : SlK size w' a len cs := by
 obtain ⟨h1, h2 | ⟨b, off, e, hlt, hc⟩⟩ := h
 · exact ⟨h1, .inl h2⟩
 · exact ⟨h1, .inr ⟨b, off, e, Nat.lt_of_lt_of_le hlt hb.size, fun i u hu => (hb.cell (p := ⟨b, off + i, none⟩) hlt).trans (hc i u hu)⟩⟩
theorem SlK.kept {size : Nat} {w w' : World} {a : Option Addr} {len : Nat} {cs : List Value} (h : SlK size w a len cs) (hk : kept w w') (hs : w.heap.size ≤ w'.heap.size) : SlK size w' a len cs := by
 obtain ⟨h1, h2 | ⟨b, off, e, hlt, hc⟩⟩ := h
 · exact ⟨h1, .inl h2⟩
 · exact ⟨h1, .inr ⟨b, off, e, Nat.lt_of_lt_of_le hlt hs, fun i u hu => (kept_cell hk (p := ⟨b, off + i, none⟩) hlt).trans (hc i u hu)⟩⟩
theorem SlK.news {size : Nat} {w : World} {ad : Addr} {m : Nat} {cs : List Value} (h : SlK size w (some ad) m cs) : ∀ j u, cs[j]? = some u → w.cell? (ad.add j) = some u := by
 intro j u hu
 obtain ⟨h1, h2⟩ := h
 have hj := (List.getElem?_eq_some_iff.1 hu).1
 have h0 : m ≠ 0 := by
  intro e
  subst e
  rw [h1, Nat.zero_mul] at hj
  omega
 obtain ⟨b, off, e, hlt, hc⟩ := h2.resolve_left h0
 obtain rfl := Option.some.inj e
 rw [add_plain]
 exact hc j u hu
theorem SlK.own {size base n : Nat} {w : World} {e : TypeId} {v : Value} {cs : List Value} (h : w.ownsRow base e size v n cs) : ∃ a c, v = .slice a n c ∧ n ≤ c ∧ SlK size w a n cs := by
 have hl := h.1
 rcases h.2 with ⟨rfl, rfl⟩ | ⟨g, cap, cur, rfl, hg, hh, hn, _, _, hc⟩
 · exact ⟨none, 0, rfl, Nat.le_refl _, hl, .inl rfl⟩
 ·
  refine ⟨_, cap, rfl, hn, hl, .inr ⟨g, 0, rfl, (Array.getElem?_eq_some_iff.1 hh).1, fun i x hx => ?_⟩⟩
  have := h.cells (g := g) rfl i x hx
  rwa [add_plain] at this

theorem run_append_slK {P : Program} (w : World) (base : Nat) (t ty e : TypeId) (i : TypeInfo) (z : Value) (size bytes : Nat) (ht : P.underlying t = some (.slice e)) (hi : P.info? e = some i) (hz : i.zero = some z)
  (hsize : i.size = size) (hby : i.bytes = bytes) (hzs : z.cells.size = size) (hsz : 0 < size) (v : Value) (n : Nat) (xs : List Value) (hown : w.ownsRow base e size v n xs)
  (A : Option Addr) (m c : Nat) (cs : List Value) (hs : SlK size w A m cs) (hone : ∀ u ∈ cs, u.oneCell' = true) (h63 : n + m ≤ maxLen) (hbytes : (n + m) * bytes ≤ 140737488355328) (hbase : base ≤ w.heap.size) :
  ∃ v' w', (Builtin.append_ #[t, t] ty #[v, .slice A m c]).run P w = .ok v' w' ∧ w'.ownsRow base e size v' (n + m) (xs ++ cs) ∧ w.grownBy w' v.ownBlock ∧
   (v'.ownBlock = v.ownBlock ∨ v'.ownBlock = some w.heap.size) := by
 cases A with
 | some ad =>
  obtain ⟨v', w', hr, h2, h3, _, h5⟩ := run_append_own_at (P := P) w base t ty e i z size bytes ht hi hz hsize hby hzs hsz v n xs hown ad m c cs hs.1 hs.news hone h63 hbytes hbase
  exact ⟨v', w', hr, h2, h3, h5⟩
 | none =>
  have hm : m = 0 := hs.2.elim id fun ⟨b, off, e, _⟩ => by cases e
  subst hm
  have hy : cs = [] := List.eq_nil_of_length_eq_zero (by rw [hs.1, Nat.zero_mul])
  subst hy
  refine ⟨v, w, ?_, by simpa using hown, World.grownBy.refl w _, .inl rfl⟩
  rcases hown.2 with ⟨rfl, rfl⟩ | ⟨g, cap, cur, rfl, _, _, hnc, _⟩
  · simp [Builtin.append_, run_underlying ht, sizeOf, typeInfo, hi, Builtin.lenOf, Builtin.firstCells]
  · simp [Builtin.append_, run_underlying ht, sizeOf, typeInfo, hi, Builtin.lenOf, Builtin.firstCells, hnc, storeCells]

theorem wpList_append_slK {P : Program} {w : World} {ops : Array Oper} {rest : List Oper} {o : Oper} {a : Act} {Q : Exit → Act → World → Prop} (hgd : o.guard = none) (s x : Operand) (t : TypeId)
  (ho : o.op = .call { callee := .builtin .append, args := #[s, x], argTypes := #[t, t] })
  (base : Nat) (e : TypeId) (i : TypeInfo) (z : Value) (size bytes : Nat) (ht : P.underlying t = some (.slice e)) (hi : P.info? e = some i) (hz : i.zero = some z) (hsize : i.size = size) (hby : i.bytes = bytes) (hzs : z.cells.size = size) (hsz : 0 < size)
  (v : Value) (n : Nat) (xs : List Value) (hs : a.eval s = v) (hown : w.ownsRow base e size v n xs) (A : Option Addr) (m c : Nat) (cs : List Value) (hx : a.eval x = .slice A m c) (hsl : SlK size w A m cs) (hone : ∀ u ∈ cs, u.oneCell' = true)
  (h63 : n + m ≤ maxLen) (hbytes : (n + m) * bytes ≤ 140737488355328) (hbase : base ≤ w.heap.size)
  (h : ∀ v' w', w'.ownsRow base e size v' (n + m) (xs ++ cs) → w.grownBy w' v.ownBlock → (v'.ownBlock = v.ownBlock ∨ v'.ownBlock = some w.heap.size) → wpList P ops Q rest (a.put o.dst v') w') : wpList P ops Q (o :: rest) a w := by
 refine wpList_plain hgd fun K hK => ?_
 obtain ⟨v', w', hr, h2, h3, h4⟩ := run_append_slK (P := P) w base t o.type e i z size bytes ht hi hz hsize hby hzs hsz v n xs hown A m c cs hsl hone h63 hbytes hbase
 unfold Oper.wp execOp
 simp only [ho, resolve, invoke, builtin, Sem.run_bind, Sem.run_pure, Result.andThen_ok, List.map_toArray, List.map_cons, List.map_nil, hs, hx, hr]
 exact hK _ _ (h v' w' h2 h3 h4)

/-! ### hits -/
def I64 (n : Int) : Prop := -9223372036854775808 ≤ n ∧ n ≤ 9223372036854775807
def hitE (h : HitP) : List Value := [.int .i64 h.1, .int .i64 h.2]
def hcells (l : List HitP) : List Value := l.flatMap hitE
theorem hcells_snoc (l : List HitP) (h : HitP) : hcells (l ++ [h]) = hcells l ++ [.int .i64 h.1, .int .i64 h.2] := by simp [hcells, hitE]
theorem hcells_append (l m : List HitP) : hcells (l ++ m) = hcells l ++ hcells m := by simp [hcells]
theorem hcells_length : ∀ (l : List HitP), (hcells l).length = l.length * 2
 | [] => rfl
 | h :: l => by
  have := hcells_length l
  simp only [hcells, hitE, List.flatMap_cons, List.length_append, List.length_cons, List.length_nil] at this ⊢
  omega
theorem hcells_at : ∀ {l : List HitP} {i : Nat} {h : HitP}, l[i]? = some h → (hcells l)[i * 2]? = some (.int .i64 h.1) ∧ (hcells l)[i * 2 + 1]? = some (.int .i64 h.2)
 | [], i, h, e => by simp at e
 | x :: l, 0, h, e => by
  simp at e
  subst e
  exact ⟨rfl, rfl⟩
 | x :: l, i + 1, h, e => by
  have ih := hcells_at (l := l) (i := i) (h := h) (by simpa using e)
  have hc : hcells (x :: l) = .int .i64 x.1 :: .int .i64 x.2 :: hcells l := rfl
  rw [hc, show (i + 1) * 2 = i * 2 + 1 + 1 by omega, show i * 2 + 1 + 1 + 1 = (i * 2 + 1) + 1 + 1 by omega]
  simpa using ih
theorem hcells_one (l : List HitP) : ∀ u ∈ hcells l, u.oneCell' = true := by
 intro u hu
 simp only [hcells, List.mem_flatMap, hitE] at hu
 obtain ⟨h, _, hu⟩ := hu
 simp at hu
 rcases hu with rfl | rfl <;> rfl

def Hts (w : World) (a : Option Addr) (len : Nat) (l : List HitP) : Prop := SlK 2 w a len (hcells l) ∧ ∀ h ∈ l, I64 h.1 ∧ I64 h.2
theorem Hts.below {w w' : World} {a : Option Addr} {len : Nat} {l : List HitP} (h : Hts w a len l) (hb : Below w.heap.size w w') : Hts w' a len l := ⟨h.1.below hb, h.2⟩
theorem Hts.len {w : World} {a : Option Addr} {len : Nat} {l : List HitP} (h : Hts w a len l) : l.length = len := by
 have := h.1.1
 rw [hcells_length] at this
 omega
theorem Hts.at_ {w : World} {a : Option Addr} {len : Nat} {l : List HitP} (h : Hts w a len l) {k : Nat} (hk : k < len) :
  ∃ b off x, a = some ⟨b, off, none⟩ ∧ b < w.heap.size ∧ w.cell? ⟨b, off + k * 2, none⟩ = some (.int .i64 x.1) ∧ w.cell? ⟨b, off + k * 2 + 1, none⟩ = some (.int .i64 x.2) ∧ l[k]? = some x ∧ I64 x.1 ∧ I64 x.2 := by
 have hl := h.len
 obtain ⟨b, off, e, hlt, hc⟩ := h.1.2.resolve_left (by omega)
 obtain ⟨x, hx⟩ : ∃ x, l[k]? = some x := ⟨l[k]'(by omega), by simp⟩
 obtain ⟨c0, c1⟩ := hcells_at hx
 exact ⟨b, off, x, e, hlt, hc _ _ c0, by rw [Nat.add_assoc]; exact hc _ _ c1, hx, (h.2 x (List.mem_of_getElem? hx)).1, (h.2 x (List.mem_of_getElem? hx)).2⟩
theorem Hts.cut {w : World} {a : Option Addr} {n : Nat} {l : List HitP} (h : Hts w a n l) {lo m : Nat} (hm : lo + m ≤ n) : Hts w (a.map (·.add (lo * 2))) m ((l.drop lo).take m) := by
 have hl := h.len
 refine ⟨⟨by rw [hcells_length]; simp; omega, ?_⟩, fun x hx => h.2 x (List.mem_of_mem_drop (List.mem_of_mem_take hx))⟩
 by_cases h0 : m = 0
 · exact .inl h0
 ·
  right
  obtain ⟨b, off, rfl, hlt, hcell⟩ := h.1.2.resolve_left (by omega)
  refine ⟨b, off + lo * 2, by simp [add_plain], hlt, fun i u hu => ?_⟩
  have hi := (List.getElem?_eq_some_iff.1 hu).1
  rw [hcells_length] at hi
  simp at hi
  rw [Nat.add_assoc]
  refine hcell _ u ?_
  have e1 : hcells l = hcells (l.take lo) ++ (hcells ((l.drop lo).take m) ++ hcells ((l.drop lo).drop m)) := by
   rw [← hcells_append, ← hcells_append, List.take_append_drop, List.take_append_drop]
  rw [e1, List.getElem?_append_right (by rw [hcells_length]; simp; omega), hcells_length, List.length_take, Nat.min_eq_left (by omega), Nat.add_sub_cancel_left, List.getElem?_append_left (by rw [hcells_length]; simp; omega)]
  exact hu
theorem Hts.cut0 {w : World} {a : Option Addr} {l : List HitP} {lo m : Nat} (hm : m = 0) (hb : ∀ h ∈ l, I64 h.1 ∧ I64 h.2) : Hts w a m ((l.drop lo).take m) := by
 subst hm
 exact ⟨⟨rfl, .inl rfl⟩, fun x hx => by simp at hx⟩

abbrev OwnH (w : World) (base : Nat) (v : Value) (l : List HitP) : Prop := w.ownsRow base 87 2 v l.length (hcells l)
theorem OwnH.hts {w : World} {base : Nat} {v : Value} {l : List HitP} (h : OwnH w base v l) (hb : ∀ x ∈ l, I64 x.1 ∧ I64 x.2) : ∃ a c, v = .slice a l.length c ∧ l.length ≤ c ∧ Hts w a l.length l := by
 obtain ⟨a, c, e, hc, h1⟩ := SlK.own h
 exact ⟨a, c, e, hc, h1, hb⟩
theorem hit_info : (Tryz.prog.info? 87).map (fun i => (i.zero, i.size, i.bytes)) = some (some (.agg #[.int .i64 0, .int .i64 0]), 2, 16) := by kernel_rfl

end Go.Proofs.YtbldfgaogmfoaaaGreat

/- A drawn region in a round of the wide fence, walked with held cells. -/

namespace Go.Proofs.YtbldfgaogmfoaaaGreat
open Go.RowKit Go.Sort

section inround
variable {P : Program} {ops : Array Oper} {Q Q' : Exit → Act → World → Prop} {md : Region.Mode} {n l : Nat}

theorem rowsR_of_rows {row : String} {args : Array Value} {w : World} {R : Value → World → Prop} (h : Rows P row args w R) : RowsIn (Fence.wide.inRound l) n P row args w R :=
 fun c cs _ => let ⟨v, w', r, s⟩ := h c cs; ⟨v, w', r, stepsIn_wide.2 s⟩

theorem operR_of_oper {o : Oper} {a : Act} {w : World} {K : Act → World → Prop} (hnd : ∀ c, o.op ≠ .defer c) (hq : ∀ e a w, Q e a w → Q' e a w) (hl : ¬ LetsOut Q)
  (h : o.wp P a w K Q) : o.wpIn (Fence.wide.inRound l) n P a w K Q' := by
 unfold Oper.wp at h
 unfold Oper.wpIn
 refine ⟨fun f _ => trivial, ?_⟩
 rw [Oper.semAt_eq _ _ _ hnd]
 generalize (execOp a.eval o).run P w = r at *
 cases r with
 | ok x w' =>
  cases x <;> simp only [Oper.upon] at h <;> simp only [Oper.uponIn]
  case value u => exact h
  case skip => exact h
  case defer d => exact h
  case enter f args =>
   refine ⟨(fun hd => by cases hd), (callsIn_wide (n := n - 1)).2 (h.mono fun e w'' he => ?_)⟩
   cases e with
   | returned u => exact he
   | panicked c => exact hq _ _ _ he
   | outgrown => exact absurd he hl
  case row row args => exact ⟨(fun hd => by cases hd), rowsR_of_rows h⟩
 | halt x w' =>
  cases x <;> simp only [Oper.upon] at h <;> simp only [Oper.uponIn]
  case panic u => exact hq _ _ _ h

theorem anyR_of_any (hnd : noDefer ops = true) (hq : ∀ e a w, Q e a w → Q' e a w) (hl : ¬ LetsOut Q) : ∀ (fuel : Nat) (listed : Array Bool) (a : Act) (w : World),
  wpAny P md ops Q fuel listed a w → wpAnyIn (Fence.wide.inRound l) n P md ops Q' fuel listed a w
 | 0, _, _, _, h => ⟨h.1, hq _ _ _ h.2⟩
 | fuel + 1, listed, a, w, h => by
  refine ⟨fun h0 => hq _ _ _ (h.1 h0), fun i hi => ?_⟩
  have h1 := wpOp_mono (fun a' w' h' => anyR_of_any hnd hq hl fuel _ a' w' h') (h.2 i hi)
  unfold wpOp at h1
  unfold wpOpIn
  split
  · rename_i ho; simp only [ho] at h1; exact h1
  ·
   rename_i o ho
   simp only [ho] at h1
   split
   ·
    rename_i hw
    simp only [hw, if_true] at h1
    rcases h1 with h1 | ⟨_, h1⟩
    · exact operR_of_oper (noDefer_spec hnd ho) hq hl h1
    · exact absurd h1 hl
   ·
    rename_i hw
    simp only [hw] at h1
    exact ⟨fun f _ => trivial, h1⟩

/-- A region that is shown to come to its end: nothing else is let out. -/
def OnlyN (Q : Exit → Act → World → Prop) : Exit → Act → World → Prop
 | .normal, a, w => Q .normal a w
 | _, _, _ => False
theorem OnlyN.normal {a : Act} {w : World} (h : Q .normal a w) : OnlyN Q .normal a w := h
theorem OnlyN.imp : ∀ (e : Exit) (a : Act) (w : World), OnlyN Q e a w → Q e a w := fun e a w h => by
 cases e <;> first | exact h | exact absurd h id
theorem onlyN_holds : ¬ LetsOut (OnlyN Q) := fun ⟨_, _, h⟩ => h

theorem regionR_held_drew {S : World → Prop} {id : Nat} {a : Act} {w : World} (hm : P.follows .mixedOrders = true) (hnd : noDefer ops = true) (hS : S w.drew)
  (h : S w.drew → wpAnyH P .any ops (OnlyN Q) S ops.size (Array.replicate ops.size false) a w.drew) : (Code.region id ops true).wpIn (Fence.wide.inRound l) n P Q a w :=
 wpIn_region_any hm (anyR_of_any hnd OnlyN.imp onlyN_holds _ _ _ _ (wpAny_of_held _ _ _ _ (h hS)))

theorem oper_append_slK (w : World) {o : Oper} {a : Act} {K : Act → World → Prop} (s x : Operand) (t : TypeId)
  (hop : o.op = .call { callee := .builtin .append, args := #[s, x], argTypes := #[t, t] })
  (base : Nat) (e : TypeId) (i : TypeInfo) (z : Value) (size bytes : Nat) (ht : P.underlying t = some (.slice e)) (hi : P.info? e = some i) (hz : i.zero = some z) (hsize : i.size = size) (hby : i.bytes = bytes) (hzs : z.cells.size = size) (hsz : 0 < size)
  (v : Value) (n : Nat) (xs : List Value) (hs : a.eval s = v) (hown : w.ownsRow base e size v n xs) (A : Option Addr) (m c : Nat) (cs : List Value) (hx : a.eval x = .slice A m c) (hsl : SlK size w A m cs) (hone : ∀ u ∈ cs, u.oneCell' = true)
  (h63 : n + m ≤ maxLen) (hbytes : (n + m) * bytes ≤ 140737488355328) (hbase : base ≤ w.heap.size)
  (h : ∀ v' w', w'.ownsRow base e size v' (n + m) (xs ++ cs) → w.grownBy w' v.ownBlock → (v'.ownBlock = v.ownBlock ∨ v'.ownBlock = some w.heap.size) → K (a.put o.dst v') w') : o.wp P a w K Q := by
 obtain ⟨v', w', hrun, r1, r2, r3⟩ := run_append_slK (P := P) w base t o.type e i z size bytes ht hi hz hsize hby hzs hsz v n xs hown A m c cs hsl hone h63 hbytes hbase
 unfold Oper.wp
 simp [execOp, hop, resolve, invoke, builtin, hs, hx, hrun, Result.andThen]
 exact h v' w' r1 r2 r3
theorem wanted_step {c : Bool} {p q : Prop} (hc : c = true) (h : p) : if c = true then p else q := by rw [if_pos hc]; exact h
end inround
end Go.Proofs.YtbldfgaogmfoaaaGreat

/- Tables (layer 11): bytes, one behind the other; walked. -/

namespace Go.Proofs.YtbldfgaogmfoaaaGreat
open Go.RowKit Go.Sort

/-- A table that leads from each of its nodes, by each byte, to one of them. -/
structure Led (L F : List Int) (m n : Nat) : Prop where
 cls : ∀ c : Nat, c < 256 → ∃ v : Nat, L[c]? = some (v : Int) ∧ v < m
 row : ∀ p : Nat, p < m * n → ∃ x : Nat, F[p]? = some (x : Int) ∧ x < n
/-- Where a table leads by a byte. -/
def goB (L F : List Int) (m j : Nat) (c : Int) : Nat := ((F[j * m + ((L[c.toNat]?).getD 0).toNat]?).getD 0).toNat
def runB (L F : List Int) (m j : Nat) (bs : List Int) : Nat := bs.foldl (goB L F m) j
theorem Led.go {L F : List Int} {m n : Nat} (h : Led L F m n) {j c : Nat} (hj : j < n) (hc : c < 256) : ∃ v : Nat, L[c]? = some (v : Int) ∧ v < m ∧ F[j * m + v]? = some (goB L F m j (c : Int) : Int) ∧ goB L F m j (c : Int) < n := by
 obtain ⟨v, h1, h2⟩ := h.cls c hc
 have hfit := mul_fit (many := m) hj
 obtain ⟨x, h3, h4⟩ := h.row (j * m + v) (by omega)
 have e : goB L F m j (c : Int) = x := by unfold goB; rw [Int.toNat_natCast, h1, Option.getD_some, Int.toNat_natCast, h3, Option.getD_some, Int.toNat_natCast]
 exact ⟨v, h1, h2, by rw [e]; exact h3, by rw [e]; exact h4⟩
theorem Led.run {L F : List Int} {m n : Nat} (h : Led L F m n) : ∀ {bs : List Int} {j : Nat}, j < n → (∀ x ∈ bs, 0 ≤ x ∧ x ≤ 255) → runB L F m j bs < n
 | [], j, hj, _ => hj
 | b :: bs, j, hj, hb => by
  have h0 := hb b (by simp)
  obtain ⟨c, rfl⟩ : ∃ c : Nat, b = (c : Int) := ⟨b.toNat, by omega⟩
  obtain ⟨_, _, _, _, h1⟩ := h.go hj (c := c) (by omega)
  show runB L F m (goB L F m j (c : Int)) bs < n
  exact h.run h1 (fun x hx => hb x (by simp [hx]))

end Go.Proofs.YtbldfgaogmfoaaaGreat

/- Tables (layer 11): a set's table is made; walked. -/

namespace Go.Proofs.YtbldfgaogmfoaaaGreat
open Go.RowKit Go.Sort

theorem zero28 : Tryz.zeroCells109 = (dvC (List.replicate 256 0) 0 (.slice none 0 0)).toArray := by kernel_rfl
theorem dvC_one (L : List Int) (m : Int) (row : Value) (hr : row.oneCell' = true) : (dvC L m row).toArray.all (·.oneCell') = true := by
 rw [Array.all_eq_true_iff_forall_mem]
 intro v hv
 have hv : v ∈ dvC L m row := by simpa using hv
 unfold dvC at hv
 rw [List.mem_append, List.mem_append] at hv
 rcases hv with (hv | hv) | hv
 · obtain ⟨x, _, rfl⟩ := List.mem_map.1 hv; rfl
 · rw [List.mem_singleton] at hv; rw [hv]; rfl
 · rw [List.mem_singleton] at hv; rw [hv]; exact hr

theorem results_dense2 {fn : Func} {p u : Tmp} {tmps : Array Value} {W : World} {B : Nat} {cs : Array Value} (h : fn.results = #[.cell p 109, .tmp u]) (hp : tmps.getD p undef = .pointer (some ⟨B, 0, none⟩)) (hB : W.heap[B]? = some (.cells cs 109 (0, 0))) (hs : (Tryz.prog.info? 109).map (·.size) = some cs.size) :
  (results fn tmps).run Tryz.prog W = .ok (.tuple #[.agg cs, tmps.getD u undef]) W := by
 have hp' : tmps[p]?.getD undef = .pointer (some ⟨B, 0, none⟩) := by simpa using hp
 simp [results, h, hp', asAddr, run_loadVar_row W B 109 109 cs (0, 0) _ hB Tryz.underlying109 rfl hs]

set_option maxRecDepth 100000 in
set_option maxHeartbeats 8000000 in
theorem make11_no (fold : Bool) (a : Option Addr) (la ca : Nat) (wss : List (List Int)) (w : World) (hA : Wds w a la wss) (hla : la ≤ 1000000) (hM : ∀ x ∈ wss, x.length ≤ 1000000) (hT : (begL fold wss).length ≤ 1000000) (hr : rightP fold wss = false) :
  Calls Tryz.prog 62 #[.agg (setV fold a la ca)] w fun e w' => e = .returned (.tuple #[.agg (dvC (List.replicate 256 0) 0 (.slice none 0 0)).toArray, .int .i64 2]) ∧ Below w.heap.size w w' := by
 obtain ⟨W, hW⟩ : ∃ W, W = (w.alloc (.cells (setV fold a la ca) 24)).alloc (.cells Tryz.zeroCells109 109) := ⟨_, rfl⟩
 have hB : Below w.heap.size w W := by rw [hW]; exact ((Below.refl _ _).alloc (Nat.le_refl _) _).alloc (by simp) _
 have hO : Bx w.heap.size [.cells (setV fold a la ca) 24, .cells Tryz.zeroCells109 109] W := by rw [hW]; exact ((Bx.nil _ w).snoc _ rfl).snoc _ (by simp)
 have s0 : W.cell? ⟨w.heap.size, 0, none⟩ = some (.bool fold) := hO.cell (i := 0) rfl rfl
 have s1 : W.cell? ⟨w.heap.size, 1, none⟩ = some (.slice a la ca) := hO.cell (i := 0) rfl rfl
 have HC := Lib.hid (make7_no fold a la ca wss W (hA.below hB) hla hM hT hr)
 have HO := Lib.hid hO
 obtain ⟨Z, hZ⟩ : ∃ Z, (dvC (List.replicate 256 0) 0 (.slice none 0 0)).toArray = Z := ⟨_, rfl⟩
 have hz : Tryz.zeroCells109 = Z := by rw [← hZ]; exact zero28
 have h1 : Z.all (·.oneCell') = true := by rw [← hZ]; exact dvC_one _ _ _ rfl
 have hs : Z.size = 258 := by rw [← hZ]; exact dvC_size (by simp) _ _
 have hsz : (Tryz.prog.info? 109).map (·.size) = some Z.size := by rw [hs]; exact info28
 rw [hZ]
 have HZz := Lib.hid hz
 have H1 := Lib.hid h1
 have HSZ := Lib.hid hsz
 clear hr hO hz h1 hsz hs hZ
 go_enter Tryz.func62, Tryz.ntmps62
 go_upto_region 1 with fail
 rw [← hW]
 clear hW
 go_upto_region 3 with (go_at_call 47; refine HC.out.mono ?_; rintro e w1 ⟨rfl, hb1⟩)
 obtain ⟨W2, hW2⟩ : ∃ W2, W2 = w1.alloc (.cells #[.slice none 0 0, .slice none 0 0, .slice none 0 0, .slice none 0 0] 34) := ⟨_, rfl⟩
 have hB2 : Below W.heap.size W W2 := by rw [hW2]; exact hb1.alloc hb1.size _
 rw [← hW2]
 clear hW2 hb1
 have hg : W2.heap[w.heap.size + 1]? = some (.cells Tryz.zeroCells109 109 (0, 0)) := (HO.out.below hB2) 1 _ rfl
 rw [HZz.out] at hg
 have HG := Lib.hid hg
 have h2 := setRow_heap W2 (w.heap.size + 1) Z Z _ _ hg
 have HBf : Hid (RowKit.Below w.heap.size w (W2.setRow (w.heap.size + 1) Z)) := below_setRow (hB.trans (hB2.mono hB.size)) (by omega) _
 have H2 := Lib.hid h2
 clear hg h2 hB hB2
 go_wp2_with (refine wpList_store_row rfl 109 _ _ rfl (w.heap.size + 1) Z rfl (congrArg Value.agg HZz.out) 109 Z HG.out HSZ.out rfl H1.out ?_)
 refine bodyPost_ret (results_dense2 rfl rfl H2.out HSZ.out) rfl ?_
 exact ⟨rfl, HBf.out⟩
end Go.Proofs.YtbldfgaogmfoaaaGreat

/- Tables (layer 11): a table in memory of its own, whether two are the same; walked. Printed by exp.py. -/

namespace Go.Proofs.YtbldfgaogmfoaaaGreat
open Go.RowKit Go.Sort

/-- Values laid into a row, one behind the other. -/
theorem fill_row (B : List Value) : ∀ (vs A P : List Value) (k off : Nat), vs.length = A.length → P.length = off + k →
  (vs.zipIdx k).foldl (fun cs (x : Value × Nat) => cs.setIfInBounds (off + x.2) x.1) (P ++ A ++ B).toArray = (P ++ vs ++ B).toArray
 | [], [], P, k, off, _, _ => by simp
 | v :: vs, a :: A, P, k, off, hl, hP => by
  rw [List.zipIdx_cons, List.foldl_cons]
  have e2 : (P ++ (a :: A) ++ B).toArray.setIfInBounds (off + k) v = ((P ++ [v]) ++ A ++ B).toArray := by rw [← hP]; simp
  show List.foldl _ ((P ++ (a :: A) ++ B).toArray.setIfInBounds (off + k) v) _ = _
  rw [e2, fill_row B vs A (P ++ [v]) (k + 1) off (by simpa using hl) (by simp; omega)]
  simp
theorem fill_part (place : Nat → Option (Nat × Nat)) (P A B vs : List Value) (i : Nat) (v : Value) (rest : List (Nat × Value)) (hv : v.cells = vs.toArray) (hl : vs.length = A.length) (hp : place i = some (P.length, A.length)) :
  Instr.fill place (P ++ A ++ B).toArray ((i, v) :: rest) = Instr.fill place (P ++ vs ++ B).toArray rest := by
 have e := fill_row B vs A P 0 P.length hl rfl
 rw [Instr.fill]
 simp only [hp, hv]
 rw [if_neg (by simp [hl])]
 congr 1
 rw [← e]
 simp
theorem yieldsIf_build {P : Program} {ops : Array Oper} {S : World → Prop} {op : Oper} {a : Act} (hw : Region.wanted op (yielded ops a.tmps) = true) (t : TypeId) (parts : Array (Nat × Operand)) (ho : op.op = .build t parts) (V : Array Value)
  (hv : P.built t (parts.map fun (i, x) => (i, a.eval x)).toList = some V) : YieldsIf P ops S op (.agg V) a :=
 .inl ⟨hw, fun w _ => by
  unfold execOp
  simp only [ho, Sem.run_bind, run_build w t _ V hv, Result.andThen_ok]
  rfl⟩
theorem rangeAt_head {w : World} {b : Nat} {A B : List Value} {t : TypeId} {fr : Nat × Nat} (hb : w.heap[b]? = some (.cells (A ++ B).toArray t fr)) : w.rangeAt b 0 A := fun j v hv => by
 have hj : j < A.length := (List.getElem?_eq_some_iff.1 hv).1
 have e : (A ++ B)[j]? = some v := by rw [List.getElem?_append_left hj]; exact hv
 simp only [World.cell?, hb, Nat.zero_add]
 simpa using e
theorem dvC_eq (L : List Int) (m : Int) (row : Value) : dvC L m row = L.map (Value.int .i64) ++ [.int .i64 m, row] := by simp [dvC]
theorem Dv.range {W : World} {B : Nat} {L : List Int} {m : Int} {row : Value} (h : Dv W B L m row) : W.rangeAt B 0 (L.map (Value.int .i64)) := by
 have hb := h.box
 rw [dvC_eq] at hb
 exact rangeAt_head hb
end Go.Proofs.YtbldfgaogmfoaaaGreat
