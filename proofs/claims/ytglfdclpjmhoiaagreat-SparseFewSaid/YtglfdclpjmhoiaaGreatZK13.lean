/- Parts of the proof, one behind the other: Ax, Mo, N3, Az. No condition but what each theorem states. -/
import Derived.Test.YtglfdclpjmhoiaaGreatZK2
import Derived.Test.YtglfdclpjmhoiaaGreatZK3
import Derived.Test.YtglfdclpjmhoiaaGreatZK6
import Derived.Test.YtglfdclpjmhoiaaGreatZK8
import Derived.Test.YtglfdclpjmhoiaaGreatZK10
import Derived.Test.YtglfdclpjmhoiaaGreatZK11
import Derived.Test.YtglfdclpjmhoiaaGreatZK12
set_option linter.unusedVariables false
set_option linter.unusedSimpArgs false

/- Fewer places (layer 12), the document's: the table is made; walked. -/

namespace Go.Proofs.YtglfdclpjmhoiaaGreat
open Go.RowKit Go.Sort

/-- A node's kids below a number. -/
def kdN (ws : List (List Int)) (i k : Nat) : List Int := (kidsA (trieP ws) (i : Int) k).map fun p => (p.2 : Int)
theorem kdN_yes {ws : List (List Int)} {i k : Nat} (h1 : 1 ≤ k) (h2 : (trieP ws).up[k]? = some (i : Int)) : kdN ws i (k + 1) = kdN ws i k ++ [(k : Int)] := by
 show (kidsA _ _ k ++ _).map _ = _
 rw [if_pos ⟨h1, h2⟩, List.map_append]
 rfl
theorem kdN_no {ws : List (List Int)} {i k : Nat} (h2 : (trieP ws).up[k]? ≠ some (i : Int)) : kdN ws i (k + 1) = kdN ws i k := by
 show (kidsA _ _ k ++ _).map _ = _
 rw [if_neg (fun h => h2 h.2), List.append_nil]
 rfl
theorem kdN_one (ws : List (List Int)) (i : Nat) : kdN ws i 1 = [] := by
 show (kidsA _ _ 0 ++ _).map _ = _
 rw [if_neg (fun h => absurd h.1 (Nat.not_succ_le_zero 0))]
 rfl
theorem kdN_len (ws : List (List Int)) (i k : Nat) : (kdN ws i k).length ≤ k := by unfold kdN; rw [List.length_map]; exact kidsA_length _ _ _
theorem kdN_all {fold : Bool} {ws : List (List Int)} {i : Nat} (hi : i < (nodesL ws).length) : kdN ws i (nodesL ws).length = (kQ fold ws i).map fun q => (q.2 : Int) := by
 unfold kQ kidsQ kdN
 rw [if_pos hi, List.map_map]
 rfl
/-- The first kids find free places above a base. -/
def fitsT (ow : List Int) (ks : List (Nat × Nat)) (b m : Nat) : Bool := (ks.take m).all fun q => freeP ow (b + q.1)
theorem fitsT_zero (ow : List Int) (ks : List (Nat × Nat)) (b : Nat) : fitsT ow ks b 0 = true := by simp [fitsT]
theorem fitsT_succ {ow : List Int} {ks : List (Nat × Nat)} {b m : Nat} {q : Nat × Nat} (h : ks[m]? = some q) : fitsT ow ks b (m + 1) = (fitsT ow ks b m && freeP ow (b + q.1)) := by
 unfold fitsT
 rw [take_step h, List.all_append]
 simp
theorem fitsT_all (ow : List Int) (ks : List (Nat × Nat)) (b : Nat) : fitsT ow ks b ks.length = fitsP ow ks b := by unfold fitsT fitsP; rw [List.take_length]
theorem standsP_take {b node m : Nat} {s : List Int × List Int} {ks : List (Nat × Nat)} {q : Nat × Nat} (h : ks[m]? = some q) : standsP s b node (ks.take (m + 1)) = standP (standsP s b node (ks.take m)) (b + q.1) node q.2 := by
 unfold standsP
 rw [take_step h, List.foldl_append]
 rfl
theorem standsP_len (b node : Nat) : ∀ (ks : List (Nat × Nat)) (s : List Int × List Int), s.1.length = s.2.length → (standsP s b node ks).1.length = (standsP s b node ks).2.length
 | [], s, h => h
 | q :: ks, s, h => standsP_len b node ks (standP s (b + q.1) node q.2) (standP_at s h _ _ _).1
theorem standsP_le (b node M : Nat) : ∀ (ks : List (Nat × Nat)) (s : List Int × List Int), s.1.length = s.2.length → s.1.length ≤ M → (∀ q ∈ ks, b + q.1 + 1 ≤ M) → (standsP s b node ks).1.length ≤ M
 | [], s, h, hm, _ => hm
 | q :: ks, s, h, hm, hq => by
  have h1 := standP_at s h (b + q.1) node q.2
  have h2 := hq q (List.mem_cons_self ..)
  exact standsP_le b node M ks (standP s (b + q.1) node q.2) h1.1 (by rw [h1.2.1]; omega) (fun r hr => hq r (List.mem_cons_of_mem _ hr))

theorem triBd12 {fold : Bool} {wss : List (List Int)} (hr : rightP fold wss = true) {w : World} {t : TV} (hT : Tri w t (trieP wss)) : Bd4 t := by
 have hn := (right_nodes (right_false hr)).2
 have h1 := hT.up.1
 have h2 := hT.dep.1
 have h3 := hT.wrd.1
 have h4 := hT.byt.1.1
 rw [trie_lens.1] at h1
 rw [(trie_lens (ws := wss)).2.1] at h2
 rw [trie_lens.2.2.1] at h3
 rw [(trie_lens (ws := wss)).2.2.2] at h4
 refine ⟨?_, ?_, ?_, ?_⟩ <;> omega
section
variable {W W1 : World} {T : Nat} {u : List Value} {vs vo vk vq v1 : Value} {ba ow ki qs xs : List Int} {a : Option Addr} {m c : Nat}
theorem own_app {z : Int} {v : Value} (hm : xs.length = m) (ho : W1.ownsRow (T + 1) 3 1 v (m + 1) (xs.map (Value.int .i64) ++ [.int .i64 z])) : OwnI W1 (T + 1) v (xs ++ [z]) := by
 unfold OwnI
 rw [List.length_append, hm, List.map_append]
 exact ho
theorem bel_app {v : Value} {n : Nat} {ys : List Value} {z : Int} (hT : T < W.heap.size) (hrow : W.ownsRow (T + 1) 3 1 v n ys) (hg : (W.alloc (.cells #[.int .i64 z] 3)).grownBy W1 v.ownBlock) : Below T W W1 :=
 ((below_alloc W _).mono (Nat.le_of_lt hT)).grown hg (by simp; omega) (fun k e => by have := (row_lt hrow k e).1; omega)
theorem appS_facts (h : DkW W T u (.slice a m c) vo vk vq xs ow ki qs) (hm : xs.length = m) (z : Int) (ho : W1.ownsRow (T + 1) 3 1 v1 (m + 1) (xs.map (Value.int .i64) ++ [.int .i64 z])) (hg : (W.alloc (.cells #[.int .i64 z] 3)).grownBy W1 (Value.slice a m c).ownBlock) (hat : v1.ownBlock = (Value.slice a m c).ownBlock ∨ v1.ownBlock = some (W.alloc (.cells #[.int .i64 z] 3)).heap.size) :
  DkW (W1.setCell ⟨T, 6, none⟩ v1) T u v1 vo vk vq (xs ++ [z]) ow ki qs ∧ Below T W (W1.setCell ⟨T, 6, none⟩ v1) ∧ Dk W1 T u (.slice a m c) vo vk ∧ W1.frozen? ⟨T, 6, none⟩ = false := by
 have hA := h.below (below_alloc W (.cells #[.int .i64 z] 3))
 have hd := hA.dk.grown hg (own_farT hA.ss)
 exact ⟨hA.appS (own_app hm ho) hg hat, (bel_app h.dk.lt h.ss hg).setCell (Nat.le_refl _) _, hd, hd.frozen 6⟩
theorem rappO_facts (h : DkW W T u vs (.slice a m c) vk vq ba xs ki qs) (hm : xs.length = m) (z : Int) (ho : W1.ownsRow (T + 1) 3 1 v1 (m + 1) (xs.map (Value.int .i64) ++ [.int .i64 z])) (hg : (W.alloc (.cells #[.int .i64 z] 3)).grownBy W1 (Value.slice a m c).ownBlock) (hat : v1.ownBlock = (Value.slice a m c).ownBlock ∨ v1.ownBlock = some (W.alloc (.cells #[.int .i64 z] 3)).heap.size) :
  DkW (W1.setCell ⟨T, 7, none⟩ v1) T u vs v1 vk vq ba (xs ++ [z]) ki qs ∧ Below T W (W1.setCell ⟨T, 7, none⟩ v1) ∧ Dk W1 T u vs (.slice a m c) vk ∧ W1.frozen? ⟨T, 7, none⟩ = false := by
 have hA := h.below (below_alloc W (.cells #[.int .i64 z] 3))
 have hd := hA.dk.grown hg (own_farT hA.oo)
 exact ⟨hA.appO (own_app hm ho) hg hat, (bel_app h.dk.lt h.oo hg).setCell (Nat.le_refl _) _, hd, hd.frozen 7⟩
theorem rappK_facts (h : DkW W T u vs vo (.slice a m c) vq ba ow xs qs) (hm : xs.length = m) (z : Int) (ho : W1.ownsRow (T + 1) 3 1 v1 (m + 1) (xs.map (Value.int .i64) ++ [.int .i64 z])) (hg : (W.alloc (.cells #[.int .i64 z] 3)).grownBy W1 (Value.slice a m c).ownBlock) (hat : v1.ownBlock = (Value.slice a m c).ownBlock ∨ v1.ownBlock = some (W.alloc (.cells #[.int .i64 z] 3)).heap.size) :
  DkW (W1.setCell ⟨T, 8, none⟩ v1) T u vs vo v1 vq ba ow (xs ++ [z]) qs ∧ Below T W (W1.setCell ⟨T, 8, none⟩ v1) ∧ Dk W1 T u vs vo (.slice a m c) ∧ W1.frozen? ⟨T, 8, none⟩ = false := by
 have hA := h.below (below_alloc W (.cells #[.int .i64 z] 3))
 have hd := hA.dk.grown hg (own_farT hA.kk)
 exact ⟨hA.appK (own_app hm ho) hg hat, (bel_app h.dk.lt h.kk hg).setCell (Nat.le_refl _) _, hd, hd.frozen 8⟩
end
/-- The length of the kids' row. -/
def kidLen (T : Nat) (W : World) : Nat := match W.cell? ⟨T, 8, none⟩ with | some (.slice _ n _) => n | _ => 0

set_option maxRecDepth 100000 in
set_option maxHeartbeats 8000000 in
theorem rmake12_no (fold : Bool) (a : Option Addr) (la ca : Nat) (wss : List (List Int)) (w : World) (hA : Wds w a la wss) (hla : la ≤ 1000000) (hM : ∀ x ∈ wss, x.length ≤ 1000000) (hr : rightP fold wss = false) :
  Calls Tryz.prog 9 #[.agg (setV fold a la ca)] w fun e w' => e = .returned (.tuple #[.pointer none, .int .i64 2]) ∧ Below w.heap.size w w' := by
 obtain ⟨W, hW⟩ : ∃ W, W = w.alloc (.cells (setV fold a la ca) 24) := ⟨_, rfl⟩
 have hB : Below w.heap.size w W := by rw [hW]; exact (Below.refl _ _).alloc (Nat.le_refl _) _
 have hO : Bx w.heap.size [.cells (setV fold a la ca) 24] W := by rw [hW]; exact (Bx.nil _ w).snoc _ rfl
 have s0 : W.cell? ⟨w.heap.size, 0, none⟩ = some (.bool fold) := hO.cell (i := 0) rfl rfl
 have s1 : W.cell? ⟨w.heap.size, 1, none⟩ = some (.slice a la ca) := hO.cell (i := 0) rfl rfl
 have HC := Lib.hid (rmake7_no fold a la ca wss W (hA.below hB) hla hM hr)
 have HB := Lib.hid hB
 clear hr hO hB hA
 go_enter Tryz.func9, Tryz.ntmps9
 go_upto_region 1 with fail
 rw [← hW]
 clear hW
 go_wp2_with (go_at_call 19; refine HC.out.mono ?_; rintro e w1 ⟨rfl, hb1⟩)
 go_ret2
 exact ⟨rfl, (HB.out.trans (hb1.mono HB.out.size)).alloc (Nat.le_trans HB.out.size hb1.size) _⟩

set_option maxRecDepth 100000 in
set_option maxHeartbeats 16000000 in
theorem rmake12_yes (fold : Bool) (a : Option Addr) (la ca : Nat) (wss : List (List Int)) (w : World) (hA : Wds w a la wss) (hla : la ≤ 1000000) (hM : ∀ x ∈ wss, x.length ≤ 1000000) (hr : rightP fold wss = true) :
  Calls Tryz.prog 9 #[.agg (setV fold a la ca)] w fun e w' => ∃ (T : Nat) (t : TV) (u : List Value) (vs vo vk : Value), e = .returned (.tuple #[.pointer (some ⟨T, 0, none⟩), .int .i64 0]) ∧
   DkR w' T fold wss u vs vo vk t ∧ DkW w' T u vs vo vk (.slice none 0 0) (baW fold wss) (owW fold wss) (kiW fold wss) [] ∧ Bd4 t ∧ w.heap.size ≤ T ∧ Below w.heap.size w w' := by
 obtain ⟨i0, hi, hz0, hz1', hz2'⟩ := info_parts i64_info7
 obtain ⟨W, hW⟩ : ∃ W, W = w.alloc (.cells (setV fold a la ca) 24) := ⟨_, rfl⟩
 have hB : Below w.heap.size w W := by rw [hW]; exact (Below.refl _ _).alloc (Nat.le_refl _) _
 have hO : Bx w.heap.size [.cells (setV fold a la ca) 24] W := by rw [hW]; exact (Bx.nil _ w).snoc _ rfl
 have s0 : W.cell? ⟨w.heap.size, 0, none⟩ = some (.bool fold) := hO.cell (i := 0) rfl rfl
 have s1 : W.cell? ⟨w.heap.size, 1, none⟩ = some (.slice a la ca) := hO.cell (i := 0) rfl rfl
 have hA2 := hA.below hB
 have hrd : readP (trieP wss) = some (nodesL wss, wss) := readP_iff.2 ⟨right_false hr, rfl, rfl⟩
 have HOK : Hid (OkT fold wss) := okT hr (fun x hx c hc => hA2.bytes x hx c hc)
 have HC := Lib.hid (rmake7_yes fold a la ca wss W hA2 hr)
 have HO := Lib.hid hO
 have HA2 := Lib.hid hA2
 have HRD := Lib.hid hrd
 have HRT := Lib.hid hr
 have HM := Lib.hid hM
 have HB := Lib.hid hB
 clear hr hO hA hA2 hrd hM hB
 go_enter Tryz.func9, Tryz.ntmps9
 go_upto_region 1 with fail
 rw [← hW]
 clear hW
 go_upto_region 4 with (go_at_call 19; refine HC.out.mono ?_; rintro e w1 ⟨t, rfl, hT1, hb1⟩)
 obtain ⟨W2, hW2⟩ : ∃ W2, W2 = w1.alloc (.cells #[.slice t.ua t.un t.uc, .slice t.da t.dn t.dc, .slice t.xa t.xn t.xc, .slice t.ba t.bn t.bc] 34) := ⟨_, rfl⟩
 have hB2 : Below W.heap.size W W2 := by rw [hW2]; exact hb1.alloc hb1.size _
 have hB12 : Below w1.heap.size w1 W2 := by rw [hW2]; exact below_alloc _ _
 have hO2 : Bx w1.heap.size [.cells #[.slice t.ua t.un t.uc, .slice t.da t.dn t.dc, .slice t.xa t.xn t.xc, .slice t.ba t.bn t.bc] 34] W2 := by rw [hW2]; exact (Bx.nil _ w1).snoc _ rfl
 have hT2 := hT1.below hB12
 have HBD := Lib.hid (triBd12 HRT.out hT1)
 rw [← hW2]
 have hn4 : (nodesL wss).length ≤ 400 := read_n HRD.out
 have HF := Lib.hid (rof10_yes fold a la ca wss W2 (HA2.out.below hB2) hla HM.out HRT.out)
 have hOr := HO.out.below hB2
 have s0 : W2.cell? ⟨w.heap.size, 0, none⟩ = some (.bool fold) := hOr.cell (i := 0) rfl rfl
 have s1 : W2.cell? ⟨w.heap.size, 1, none⟩ = some (.slice a la ca) := hOr.cell (i := 0) rfl rfl
 have HO2 := Lib.hid hO2
 have HT2 := Lib.hid hT2
 have HB2 := Lib.hid hB2
 have HOS := Lib.hid hOr
 have hw12 : w1.heap.size + 1 = W2.heap.size := by rw [hW2]; simp
 have HW12 := Lib.hid hw12
 clear hW2 hB12 hO2 hT2 hT1 hb1 hB2 hOr hw12
 have hs25 : (Tryz.zeroCells51).size = (((clsP fold wss).map (Value.int .i64)).toArray).size := by rw [zero25, rowI_size, rowI_size, clsP_len]; simp
 have hi25 : (Tryz.prog.info? 51).map (·.size) = some (((clsP fold wss).map (Value.int .i64)).toArray).size := by rw [rowI_size, clsP_len]; exact info25
 have HS25 := Lib.hid hs25
 have HI25 := Lib.hid hi25
 clear hs25 hi25
 go_upto_region 5 with (first
  | (refine wpList_store_row rfl 51 _ _ rfl _ _ rfl rfl 51 _ (heap_alloc_new _ _) HI25.out HS25.out (rowI_one _) ?_)
  | (go_at_call 20; refine HF.out.mono ?_; rintro e w4 ⟨rfl, hb4⟩))
 rw [World.setRow_alloc_new]
 obtain ⟨w5, hw5⟩ : ∃ w5, w5 = w4.alloc (.cells ((clsP fold wss).map (Value.int .i64)).toArray 51) := ⟨_, rfl⟩
 have hB45 : Below w4.heap.size w4 w5 := by rw [hw5]; exact below_alloc _ _
 have hB5 : Below W2.heap.size W2 w5 := hb4.trans (hB45.mono hb4.size)
 have hK5 : w5.heap[w4.heap.size]? = some (.cells ((clsP fold wss).map (Value.int .i64)).toArray 51 (0, 0)) := by rw [hw5]; exact heap_alloc_new _ _
 rw [← hw5]
 clear hw5
 have hO5 := HO2.out.below hB5
 have v0 : w5.cell? ⟨w1.heap.size, 0, none⟩ = some (.slice t.ua t.un t.uc) := hO5.cell (i := 0) rfl rfl
 have v1 : w5.cell? ⟨w1.heap.size, 1, none⟩ = some (.slice t.da t.dn t.dc) := hO5.cell (i := 0) rfl rfl
 have v2 : w5.cell? ⟨w1.heap.size, 2, none⟩ = some (.slice t.xa t.xn t.xc) := hO5.cell (i := 0) rfl rfl
 have v3 : w5.cell? ⟨w1.heap.size, 3, none⟩ = some (.slice t.ba t.bn t.bc) := hO5.cell (i := 0) rfl rfl
 have hT5 := HT2.out.below hB5
 have hOS5 := HOS.out.below hB5
 have s0 : w5.cell? ⟨w.heap.size, 0, none⟩ = some (.bool fold) := hOS5.cell (i := 0) rfl rfl
 have s1 : w5.cell? ⟨w.heap.size, 1, none⟩ = some (.slice a la ca) := hOS5.cell (i := 0) rfl rfl
 obtain ⟨n, hn⟩ : ∃ n, (nodesL wss).length = n := ⟨_, rfl⟩
 obtain ⟨L, hL⟩ : ∃ L, clsP fold wss = L := ⟨_, rfl⟩
 have hLl : L.length = 256 := by rw [← hL]; exact clsP_len _ _
 rw [hL] at hK5
 obtain ⟨Q, hQ⟩ : ∃ Q, w1.heap.size = Q := ⟨_, rfl⟩
 obtain ⟨A, hAe⟩ : ∃ A, w4.heap.size = A := ⟨_, rfl⟩
 rw [hQ] at hO5 v0 v1 v2 v3 ⊢
 rw [hAe] at hK5 ⊢
 have hAl : A < w5.heap.size := (Array.getElem?_eq_some_iff.1 hK5).1
 have KB : Hid (∀ V, Below w5.heap.size w5 V → V.cell? ⟨Q, 0, none⟩ = some (.slice t.ua t.un t.uc) ∧ V.cell? ⟨Q, 3, none⟩ = some (.slice t.ba t.bn t.bc) ∧ Tri V t (trieP wss) ∧ ∀ (c : Nat) (v : Int), L[c]? = some v → V.cell? ⟨A, c, none⟩ = some (.int .i64 v)) := fun V hV => by
  have h1 := hO5.below hV
  refine ⟨h1.cell (i := 0) rfl rfl, h1.cell (i := 0) rfl rfl, hT5.below hV, fun c v hc => ?_⟩
  have h2 := (hV.block A hAl).trans hK5
  simp only [World.cell?, h2]
  simp [hc]
 have hWT : w.heap.size ≤ w5.heap.size := by
  have h1 := HB.out.size
  have h2 := HB2.out.size
  have h3 := hB5.size
  omega
 have HBW5 : Hid (Below w.heap.size w w5) := (HB.out.trans (HB2.out.mono HB.out.size)).trans (hB5.mono (Nat.le_trans HB.out.size HB2.out.size))
 have HN := Lib.hid hn
 have HL := Lib.hid hL
 have HLl := Lib.hid hLl
 have HWT := Lib.hid hWT
 have hun : t.un = n := by rw [← hn, ← up_len]; exact hT5.up.1.symm
 have hbn : t.bn = n := by rw [← hn, ← hT5.byt.1.1]; simp [trieP]
 have HUN : Hid (t.un = n ∧ t.bn = n) := ⟨hun, hbn⟩
 have hn400 : n ≤ 400 := by rw [← hn]; exact hn4
 have hn1 : 1 ≤ n := by rw [← hn]; exact List.length_pos_iff.2 (nodesL_ne wss)
 clear hO5 hT5 hOS5 hK5 hB5 hB45 hb4 hn hL hLl hQ hAe hAl hWT hbn hn4
 obtain rfl : n = t.un := hun.symm
 clear hun
 have HBN := Lib.hid HUN.out.2
 clear HUN
 go_upto_region 6 with fail
 obtain ⟨u, hu⟩ : ∃ u, u = [Value.bool fold, .slice a la ca, .slice t.ua t.un t.uc, .slice t.da t.dn t.dc, .slice t.xa t.xn t.xc, .slice t.ba t.bn t.bc] := ⟨_, rfl⟩
 obtain ⟨w6, hw6⟩ : ∃ w6, w6 = w5.alloc (.cells #[.bool fold, .slice a la ca, .slice t.ua t.un t.uc, .slice t.da t.dn t.dc, .slice t.xa t.xn t.xc, .slice t.ba t.bn t.bc, .slice none 0 0, .slice none 0 0, .slice none 0 0] 36) := ⟨_, rfl⟩
 have hB56 : Below w5.heap.size w5 w6 := by rw [hw6]; exact below_alloc _ _
 have hDK : Dk w6 w5.heap.size u (.slice none 0 0) (.slice none 0 0) (.slice none 0 0) := ⟨by rw [hw6, hu]; exact heap_alloc_new _ _, by rw [hu]; rfl⟩
 rw [← hw6]
 obtain ⟨T, hTe⟩ : ∃ T, w5.heap.size = T := ⟨_, rfl⟩
 rw [hTe] at hDK hB56 KB HWT ⊢
 have HD0 : Hid (DkW w6 T u (.slice none 0 0) (.slice none 0 0) (.slice none 0 0) (.slice none 0 0) (placesW fold wss 0).2.2 (placesW fold wss 0).1 (placesW fold wss 0).2.1 []) :=
  ⟨hDK, World.ownsRow_nil _ _ _ _, World.ownsRow_nil _ _ _ _, World.ownsRow_nil _ _ _ _, World.ownsRow_nil _ _ _ _, .inl rfl, .inl rfl, .inl rfl, .inl rfl, .inl rfl, .inl rfl⟩
 have HU : Hid (u[0]? = some (.bool fold) ∧ u[2]? = some (.slice t.ua t.un t.uc) ∧ u[3]? = some (.slice t.da t.dn t.dc) ∧ u[4]? = some (.slice t.xa t.xn t.xc) ∧ u[5]? = some (.slice t.ba t.bn t.bc)) := by rw [hu]; exact ⟨rfl, rfl, rfl, rfl, rfl⟩
 have HB56 := Lib.hid hB56
 have HTE := Lib.hid hTe
 clear hw6 hDK hB56 hu hTe v0 v1 v2 v3 s0 s1 HO HO2 HT2 HOS HF HC HS25 HI25 HB2 HM
 go_upto_region 7 with fail
 go_loopw [10] (fun s10 wr => ∃ (i : Nat) (vs vo vk : Value), i ≤ t.un ∧ s10 = .int .i64 (i : Int) ∧ Hid (DkW wr T u vs vo vk (.slice none 0 0) (placesW fold wss i).2.2 (placesW fold wss i).1 (placesW fold wss i).2.1 []) ∧ Hid (Below T w5 wr)) (fun s _ => t.un - (intOf s).toNat)
 case atStart => exact ⟨0, _, _, _, Nat.zero_le _, rfl, HD0.out, HB56.out⟩
 case round =>
  clear HD0 HB56
  obtain ⟨i, vs, vo, vk, hi', rfl, HD, HBT⟩ := hrel
  have v0 := (KB.out wr HBT.out).1
  by_cases hin : i < t.un
  ·
   have d0 : decide ((i : Int) < (t.un : Int)) = true := by simp; omega
   have d0' : decide (i < t.un) = true := by simp; omega
   go_upto_region 11 with fail
   obtain ⟨W0, hW0⟩ : ∃ X, X = wr := ⟨_, rfl⟩
   subst hW0
   clear v0 d0 d0'
   obtain ⟨⟨P1, P2, P3⟩, hP⟩ : ∃ P, placesW fold wss i = P := ⟨_, rfl⟩
   rw [hP] at HD
   dsimp only at HD
   have HP := Lib.hid hP
   clear hP
   go_loopw [11, 12] (fun s11 s12 wr => ∃ (k : Nat) (vq : Value), 1 ≤ k ∧ k ≤ t.un ∧ vq = s11 ∧ s12 = .int .i64 (k : Int) ∧ Hid (DkW wr T u vs vo vk vq P3 P1 P2 (kdN wss i k)) ∧ Hid (Below T w5 wr)) (fun _ s _ => t.un - (intOf s).toNat)
   case atStart => exact ⟨1, _, Nat.le_refl _, hn1, rfl, rfl, by rw [kdN_one]; exact HD, HBT⟩
   case round =>
    clear HD HBT
    obtain ⟨k, vq, hk1, hkn, rfl, rfl, HD, HBT⟩ := hrel
    obtain ⟨v0, _, hTr, _⟩ := KB.out wr HBT.out
    by_cases hk : k < t.un
    ·
     have d0 : decide ((k : Int) < (t.un : Int)) = true := by simp; omega
     have d0' : decide (k < t.un) = true := by simp; omega
     obtain ⟨b0, o0, x, e0, hl0, cx, hx⟩ := sl1_at hTr.up hk
     have i0' : (0 : Int) ≤ (k : Int) := by omega
     have i1' : (k : Int) < (t.un : Int) := by omega
     rw [e0] at v0
     by_cases hxi : x = (i : Int)
     ·
      subst hxi
      have HQS := Lib.hid (kdN_yes hk1 hx)
      have hqq := HD.out.qq
      have hkl := kdN_len wss i k
      obtain ⟨m, hm⟩ : ∃ m, (kdN wss i k).length = m := ⟨_, rfl⟩
      unfold OwnI at hqq
      rw [hm] at hqq hkl
      obtain ⟨aq, cq, rfl, _, _⟩ := SlK.own hqq
      have hTl := HD.out.dk.lt
      have hbA := below_alloc wr (.cells #[.int .i64 (k : Int)] 3)
      have hownA := own_below_ hqq hbA
      have hszA : T + 1 ≤ (wr.alloc (.cells #[.int .i64 (k : Int)] 3)).heap.size := by simp; omega
      have hslA := slk_new wr (k : Int)
      have HMM := Lib.hid hm
      have HQQ := Lib.hid hqq
      have HTL := Lib.hid hTl
      clear hx e0 hTr hbA hqq hm hTl hk
      go_wp2_with (at_builtin; refine wpList_append_slK rfl _ _ 32 rfl (T + 1) 3 i0 (.int .i64 0) 1 8 Tryz.underlying32 hi hz0 hz1' hz2' rfl (by decide) (.slice aq m cq) m ((kdN wss i k).map (Value.int .i64)) rfl hownA (some ⟨wr.heap.size, 0, none⟩) 1 1 [.int .i64 (k : Int)] rfl hslA (by simp [Value.oneCell']) (by unfold maxLen; omega) (by omega) hszA ?_; intro vq2 W1 ho1 hg1 hat1; have HD2 := Lib.hid ((HD.out.below (below_alloc wr (.cells #[.int .i64 (k : Int)] 3))).appQ (own_app HMM.out ho1) hg1 hat1); have HBT2 := Lib.hid (HBT.out.trans (bel_app HTL.out HQQ.out hg1)); clear ho1 hg1 hat1 hownA hslA hszA)
      go_roundw
      case rel => exact ⟨k + 1, _, by omega, by omega, rfl, by go_num, by rw [HQS.out]; exact HD2, HBT2⟩
      case measure => simp [intOf]; omega
     ·
      have d1 : (x == (i : Int)) = false := by simpa using hxi
      have HQS := Lib.hid (kdN_no (ws := wss) (i := i) (k := k) (fun h => hxi (by rw [hx] at h; exact Option.some.inj h)))
      clear hx e0 hTr hxi hk
      go_wp2_with fail
      go_roundw
      case rel => exact ⟨k + 1, _, by omega, by omega, rfl, by go_num, by rw [HQS.out]; exact HD, HBT⟩
      case measure => simp [intOf]; omega
    ·
     obtain rfl : k = t.un := by omega
     have d0 : decide ((t.un : Int) < (t.un : Int)) = false := by simp
     have hkd : kdN wss i t.un = (kQ fold wss i).map fun q => (q.2 : Int) := by rw [← HN.out]; exact kdN_all (by rw [HN.out]; exact hin)
     rw [hkd] at HD
     have HKR : Hid (∀ q ∈ kQ fold wss i, (1 ≤ q.1 ∧ q.1 ≤ 257) ∧ q.2 < t.un ∧ ∃ c : Nat, (trieP wss).byt[q.2]? = some (c : Int) ∧ c < 256 ∧ L[c]? = some (q.1 : Int)) := fun q hq => by
      obtain ⟨h1, h2, h3, c, h4, h5, h6⟩ := (kid_row HOK.out).1 hq
      have h7 := kQ_cls HOK.out.great HOK.out.byt i q hq
      have h8 := many257 (fold := fold) (wss := wss)
      exact ⟨by omega, by rw [← HN.out]; exact h2, c, h4, h5, by rw [← HL.out]; exact h6⟩
     have HRES : Hid (placesW fold wss (i + 1) = settleP (fun _ => kQ fold wss i) (P1, P2, P3) i) := by
      rw [Hid, ← HP.out]
      rfl
     have hokp := placesW_ok HOK.out.great HOK.out.byt i
     rw [HP.out] at hokp
     have hbig : i * manyP fold wss ≤ 400 * 257 := Nat.mul_le_mul (by omega) (many257 (fold := fold) (wss := wss))
     have HPL : Hid (P1.length = P2.length ∧ P3.length = i ∧ P1.length ≤ 400 * 257) := ⟨hokp.len, hokp.bal, by have := hokp.big; dsimp only at this; omega⟩
     have hKl : (kQ fold wss i).length ≤ 400 := by have := kdN_len wss i t.un; rw [hkd, List.length_map] at this; omega
     clear hokp hbig hkd hTr hk
     obtain ⟨KS, hKS⟩ : ∃ KS, kQ fold wss i = KS := ⟨_, rfl⟩
     rw [hKS] at HD HKR HRES hKl
     clear hKS
     have hqq := HD.out.qq
     unfold OwnI at hqq
     rw [List.length_map] at hqq
     obtain ⟨m, hm⟩ : ∃ m, KS.length = m := ⟨_, rfl⟩
     rw [hm] at hqq hKl
     obtain ⟨aq, cq, rfl, _, _⟩ := SlK.own hqq
     have HMM := Lib.hid hm
     obtain ⟨f0, hf0⟩ : ∃ f, ((m : Int) == 0) = f := ⟨_, rfl⟩
     have hf1 : (m == 0) = f0 := by
      rw [← hf0]
      cases m with
      | zero => rfl
      | succ k => simp; omega
     have HF0 : Hid (f0 = decide (KS = [])) := by
      rw [Hid, ← hf1, ← hm]
      cases KS <;> simp
     clear hqq hm
     go_upto_region 17 with fail
     clear hf0 hf1 v0 d0
     obtain ⟨W1, hW1⟩ : ∃ X, X = wr := ⟨_, rfl⟩
     subst hW1
     obtain ⟨B, hBe⟩ : ∃ B, baseP P1 KS = B := ⟨_, rfl⟩
     have hbs := baseP_spec P1 KS
     rw [hBe] at hbs
     have HBS := Lib.hid hbs
     have HBE := Lib.hid hBe
     have hBB : B ≤ 400 * 257 := by have h1 := HBS.out.2.1; have h2 := HPL.out.2.2; omega
     clear hbs hBe
     go_loopw [13, 14] (fun s13 s14 wr => ∃ (b : Int) (f : Bool), s13 = .int .i64 b ∧ s14 = .bool f ∧ Hid ((b = -1 ∧ f = decide (KS = [])) ∨ ∃ x : Nat, b = (x : Int) ∧ x ≤ B ∧ KS ≠ [] ∧ f = fitsP P1 KS x) ∧ -1 ≤ b ∧ b ≤ (B : Int) ∧ Hid (Below W1.heap.size W1 wr)) (fun s _ _ => ((B : Int) - intOf s).toNat)
     case atStart => exact ⟨-1, f0, rfl, rfl, .inl ⟨rfl, HF0.out⟩, by omega, by omega, Below.refl _ _⟩
     case round =>
      obtain ⟨b, f, rfl, rfl, HI, hb1, hb2, HB1⟩ := hrel
      cases f with
      | false =>
       have hne : KS ≠ [] ∧ b + 1 ≤ (B : Int) := by
        rcases HI.out with ⟨e1, e2⟩ | ⟨x, e1, e2, e3, e4⟩
        · exact ⟨by simpa using e2.symm, by omega⟩
        ·
         refine ⟨e3, ?_⟩
         have : x ≠ B := fun e => by rw [e, HBS.out.1] at e4; cases e4
         omega
       obtain ⟨x, hx⟩ : ∃ x : Nat, b = (x : Int) - 1 := ⟨(b + 1).toNat, by omega⟩
       subst hx
       have hxB : x ≤ B := by omega
       have HNE := Lib.hid hne.1
       have hsum : (x : Int) - 1 + 1 = (x : Int) := by omega
       clear hne hb1 hb2 HI
       go_upto_region 21 with fail
       try rw [hsum]
       obtain ⟨W2, hW2⟩ : ∃ X, X = wr := ⟨_, rfl⟩
       subst hW2
       go_loopw [14, 15] (fun s14 s15 wr => ∃ (y : Nat) (f : Bool), y ≤ m ∧ s15 = .int .i64 (y : Int) ∧ s14 = .bool f ∧ Hid (f = fitsT P1 KS x y) ∧ Hid (Below W1.heap.size W1 wr)) (fun _ s _ => m - (intOf s).toNat)
       case atStart => exact ⟨0, true, Nat.zero_le _, rfl, rfl, (fitsT_zero _ _ _).symm, HB1.out⟩
       case round =>
        clear HB1
        obtain ⟨y, f, hy, rfl, rfl, HFT, HB1⟩ := hrel
        by_cases hym : y < m
        ·
         have d0 : decide ((y : Int) < (m : Int)) = true := by simp; omega
         have d0' : decide (y < m) = true := by simp; omega
         obtain ⟨⟨qc, qk⟩, hq⟩ : ∃ q, KS[y]? = some q := ⟨KS[y]'(by have := HMM.out; omega), by simp⟩
         obtain ⟨⟨q1, q2⟩, q3, c, q4, q5, q6⟩ := HKR.out _ (List.mem_of_getElem? hq)
         dsimp only at q1 q2 q3 q4 q6
         have HDr := HD.out.below HB1.out
         have hBT : Below T w5 wr := HBT.out.trans (HB1.out.mono (Nat.le_of_lt HD.out.dk.lt))
         obtain ⟨_, v3, hTr, hcl⟩ := KB.out wr hBT
         have hqq := HDr.qq
         unfold OwnI at hqq
         obtain ⟨aq', cq', eq', _, hsq⟩ := own_sl1 hqq
         rw [List.length_map, HMM.out] at eq' hsq
         cases eq'
         obtain ⟨b0, o0, z0, e0, hl0, cx, hz0'⟩ := sl1_at hsq hym
         have hz0e : z0 = (qk : Int) := by rw [List.getElem?_map, hq] at hz0'; exact (Option.some.inj hz0').symm
         subst hz0e
         obtain ⟨b1, o1, z1, e1, hl1, cy, hz1'⟩ := sl1_at hTr.byt.1 (by rw [HBN.out]; exact q3 : qk < t.bn)
         have hz1e : z1 = (c : Int) := by rw [q4] at hz1'; exact (Option.some.inj hz1').symm
         subst hz1e
         have ccl := hcl c _ q6
         have hoo := HDr.oo
         have hkk := HDr.kk
         unfold OwnI at hoo hkk
         obtain ⟨ao, co, eo, _, hso⟩ := own_sl1 hoo
         obtain ⟨ak, ck, ek, _, hsk⟩ := own_sl1 hkk
         have hfr : ∀ d os, Calls Tryz.prog 25 #[.pointer (some ⟨T, 0, none⟩), .int .i64 ((x : Int) + (qc : Int))] (grow (redrawn wr d) os) fun e w' => e = .returned (.bool (freeP P1 (x + qc))) ∧ grow (redrawn wr d) os = w' := fun d os => by
          have hb := below_regrown wr d os
          have hd := HDr.dk.below hb
          rw [eo, ek] at hd
          have h := rfree12_any T _ co _ ck ao ak u _ P1 (x + qc) _ hd (hso.below hb) HPL.out.1.symm
          rwa [Int.natCast_add] at h
         obtain ⟨R, hR⟩ : ∃ R, freeP P1 (x + qc) = R := ⟨_, rfl⟩
         rw [hR] at hfr
         have hft := fitsT_succ (ow := P1) (b := x) hq
         rw [← HFT.out] at hft
         dsimp only at hft
         rw [hR] at hft
         have HFS := Lib.hid hft
         have kq := cell_regrown cx
         have k3 := cell_regrown v3
         rw [e1] at k3
         have ky := cell_regrown cy
         have kc := cell_regrown ccl
         have j0 : (0 : Int) ≤ (y : Int) := by omega
         have j1 : (y : Int) < (m : Int) := by omega
         have j2 : (0 : Int) ≤ (qk : Int) := by omega
         have j3 : (qk : Int) < (t.bn : Int) := by rw [HBN.out]; omega
         have j4 : (0 : Int) ≤ (c : Int) := by omega
         have j5 : (c : Int) < 256 := by omega
         subst e0
         clear hq hz0' hz1' hqq hsq hoo hkk hso hsk eo ek hR hft hTr hcl q4 q6 cx v3 cy ccl e1 hym HDr hBT
         cases f with
         | true =>
          go_upto_region 23 with fail
          refine wp_region_quiet_below mixed (by kernel_rfl) ?_
          repeat (go_big_quiet_step (exact grown_same (hfr _ _)))
          refine wpQuiet_nil ?_
          rintro _ ⟨⟨dq, osq⟩, rfl⟩
          have hb0 := below_regrown wr dq osq
          have HB2 : Hid (Below W1.heap.size W1 (grow (redrawn wr dq) osq)) := HB1.out.trans (hb0.mono HB1.out.size)
          clear hb0 hfr kq k3 ky kc
          go_wp2
          go_roundw
          case rel => exact ⟨y + 1, _, by omega, by go_num, rfl, by rw [HFS.out]; rfl, HB2⟩
          case measure => simp [intOf]; omega
         | false =>
          go_upto_region 23 with fail
          refine wp_region_quiet_below mixed (by kernel_rfl) ?_
          repeat (go_big_quiet_step (exact grown_same (hfr _ _)))
          refine wpQuiet_nil ?_
          rintro _ ⟨⟨dq, osq⟩, rfl⟩
          have hb0 := below_regrown wr dq osq
          have HB2 : Hid (Below W1.heap.size W1 (grow (redrawn wr dq) osq)) := HB1.out.trans (hb0.mono HB1.out.size)
          clear hb0 hfr kq k3 ky kc
          go_wp2
          go_roundw
          case rel => exact ⟨y + 1, _, by omega, by go_num, rfl, by rw [HFS.out]; rfl, HB2⟩
          case measure => simp [intOf]; omega
        ·
         obtain rfl : y = m := by omega
         have d0 : decide ((y : Int) < (y : Int)) = false := by simp
         have HFE : Hid (f = fitsP P1 KS x) := by
          have h1 := HFT.out
          rw [← HMM.out, fitsT_all] at h1
          exact h1
         clear hym
         go_wp2
         go_roundw
         case rel => exact ⟨(x : Int), f, rfl, rfl, .inr ⟨x, rfl, hxB, HNE.out, HFE.out⟩, by omega, by omega, HB1⟩
         case measure => simp [intOf]; omega
      | true =>
       have HBV : Hid (b = if KS = [] then -1 else (B : Int)) := by
        rcases HI.out with ⟨e1, e2⟩ | ⟨x, e1, e2, e3, e4⟩
        ·
         have : KS = [] := by simpa using e2.symm
         rw [Hid, if_pos this, e1]
        ·
         rw [Hid, if_neg e3, e1]
         by_cases hlt : x < B
         ·
          have := HBS.out.2.2 x hlt
          rw [← e4] at this
          cases this
         · omega
       clear HI
       have HDr := Lib.hid (HD.out.below HB1.out)
       have HBTr : Hid (Below T w5 wr) := HBT.out.trans (HB1.out.mono (Nat.le_of_lt HD.out.dk.lt))
       clear HD HBT HB1 HBS
       have hss := HDr.out.ss
       unfold OwnI at hss
       rw [HPL.out.2.1] at hss
       obtain ⟨asl, csl, rfl, _, _⟩ := SlK.own hss
       have c6 := HDr.out.dk.cells.1
       have hTl := HDr.out.dk.lt
       have hownA := own_below_ hss (below_alloc wr (.cells #[.int .i64 b] 3))
       have hszA : T + 1 ≤ (wr.alloc (.cells #[.int .i64 b] 3)).heap.size := by simp; omega
       have hslA := slk_new wr b
       clear hss
       go_upto_region 25 with (at_builtin; refine wpList_append_slK rfl _ _ 32 rfl (T + 1) 3 i0 (.int .i64 0) 1 8 Tryz.underlying32 hi hz0 hz1' hz2' rfl (by decide) (.slice asl i csl) i (P3.map (Value.int .i64)) rfl hownA (some ⟨wr.heap.size, 0, none⟩) 1 1 [.int .i64 b] rfl hslA (by simp [Value.oneCell']) (by unfold maxLen; omega) (by omega) hszA ?_; intro vs2 W2 ho1 hg1 hat1; obtain ⟨f1, f2, f3, f4⟩ := appS_facts HDr.out HPL.out.2.1 b ho1 hg1 hat1; obtain ⟨a2, c2, rfl, _, _⟩ := SlK.own ho1; have e1 := f3.cells.1; have e2 := f3.lt; have HF1 := Lib.hid f1; have HF2 := Lib.hid f2; clear f1 f2 f3 ho1 hg1 hat1 hownA hslA hszA)
       obtain ⟨W3, hW3⟩ : ∃ X, X = W2.setCell ⟨T, 6, none⟩ (.slice a2 (i + 1) c2) := ⟨_, rfl⟩
       rw [← hW3] at HF1 HF2 ⊢
       have HBT3 : Hid (Below T w5 W3) := HBTr.out.trans HF2.out
       clear e1 e2 f4 hW3 c6 HF2 HBTr HDr hTl
       have HLE : Hid (∀ y, (standsP (P1, P2) B i (KS.take y)).1.length = (standsP (P1, P2) B i (KS.take y)).2.length ∧ (standsP (P1, P2) B i (KS.take y)).1.length ≤ 400000) := fun y =>
        ⟨standsP_len B i _ _ HPL.out.1, standsP_le B i 400000 _ _ HPL.out.1 (by have := HPL.out.2.2; dsimp only; omega) (fun q hq => by have := (HKR.out q (List.mem_of_mem_take hq)).1.2; omega)⟩
       go_upto_region 26 with fail
       go_loopw [16] (fun s16 wr => ∃ (y : Nat) (vo vk : Value), y ≤ m ∧ s16 = .int .i64 (y : Int) ∧ Hid (DkW wr T u (.slice a2 (i + 1) c2) vo vk (.slice aq m cq) (P3 ++ [b]) (standsP (P1, P2) B i (KS.take y)).1 (standsP (P1, P2) B i (KS.take y)).2 (KS.map fun q => (q.2 : Int))) ∧ Hid (Below T w5 wr)) (fun s _ => m - (intOf s).toNat)
       case atStart => exact ⟨0, vo, vk, Nat.zero_le _, rfl, by simpa [Hid, standsP] using HF1.out, HBT3.out⟩
       case round =>
        clear HF1 HBT3
        obtain ⟨y, vo, vk, hy, rfl, HD, HBT⟩ := hrel
        by_cases hym : y < m
        ·
         have d0 : decide ((y : Int) < (m : Int)) = true := by simp; omega
         have d0' : decide (y < m) = true := by simp; omega
         obtain ⟨⟨qc, qk⟩, hq⟩ : ∃ q, KS[y]? = some q := ⟨KS[y]'(by have := HMM.out; omega), by simp⟩
         have hbB : b = (B : Int) := by
          rw [HBV.out, if_neg]
          intro e
          rw [e] at hq
          cases hq
         subst hbB
         obtain ⟨⟨q1, q2⟩, q3, c, q4, q5, q6⟩ := HKR.out _ (List.mem_of_getElem? hq)
         dsimp only at q1 q2 q3 q4 q6
         obtain ⟨_, v3, hTr, hcl⟩ := KB.out wr HBT.out
         have hqq := HD.out.qq
         unfold OwnI at hqq
         obtain ⟨aq', cq', eq', _, hsq⟩ := own_sl1 hqq
         rw [List.length_map, HMM.out] at eq' hsq
         cases eq'
         obtain ⟨b0, o0, z0, e0, hl0, cx, hz0'⟩ := sl1_at hsq hym
         have hz0e : z0 = (qk : Int) := by rw [List.getElem?_map, hq] at hz0'; exact (Option.some.inj hz0').symm
         subst hz0e
         obtain ⟨b1, o1, z1, e1, hl1, cy, hz1'⟩ := sl1_at hTr.byt.1 (by rw [HBN.out]; exact q3 : qk < t.bn)
         have hz1e : z1 = (c : Int) := by rw [q4] at hz1'; exact (Option.some.inj hz1').symm
         subst hz1e
         have ccl := hcl c _ q6
         have j0 : (0 : Int) ≤ (y : Int) := by omega
         have j1 : (y : Int) < (m : Int) := by omega
         have j2 : (0 : Int) ≤ (qk : Int) := by omega
         have j3 : (qk : Int) < (t.bn : Int) := by rw [HBN.out]; omega
         have j4 : (0 : Int) ≤ (c : Int) := by omega
         have j5 : (c : Int) < 256 := by omega
         subst e0
         rw [e1] at v3
         have HQ := Lib.hid hq
         have hym0 := hym
         have HST := Lib.hid (standsP_take (b := B) (node := i) (s := (P1, P2)) hq)
         clear hq hz0' hz1' hqq hsq hTr hcl q4 q6 e1 hym
         go_upto_region 28 with fail
         go_region
         go_upto_region 29 with fail
         obtain ⟨W4, hW4⟩ : ∃ X, X = wr.drew := ⟨_, rfl⟩
         have hb4 : Below wr.heap.size wr W4 := by rw [hW4]; exact bel_drewN wr 1
         rw [← hW4]
         obtain ⟨p, hp⟩ : ∃ p : Nat, B + qc = p := ⟨_, rfl⟩
         have hpi : (B : Int) + (qc : Int) = (p : Int) := by omega
         rw [hpi]
         have hHD := HD.out.below hb4
         have hHS := HST.out
         have hle := HLE.out y
         obtain ⟨⟨S1, S2⟩, hS⟩ : ∃ S, standsP (P1, P2) B i (KS.take y) = S := ⟨_, rfl⟩
         rw [hS] at hHD hHS hle
         rw [hp] at hHS
         dsimp only at hHD hle hHS
         have HHS := Lib.hid hHS
         have hp9 : p ≤ 200000 := by omega
         have hs1 := hle.2
         have HSL := Lib.hid hle.1
         have HD4 : Hid (DkW W4 T u (.slice a2 (i + 1) c2) vo vk (.slice (some ⟨b0, o0, none⟩) m cq) (P3 ++ [(B : Int)]) (padP S1 (-1) S1.length) (padP S2 0 S1.length) (KS.map fun q => (q.2 : Int))) := by
          rw [Hid, padP_self, hle.1, padP_self]; exact hHD
         have HBT4 : Hid (Below T w5 W4) := HBT.out.trans (hb4.mono (Nat.le_of_lt HD.out.dk.lt))
         have HYM := Lib.hid hym0
         clear hW4 hb4 hp hpi hHD hHS hle hS HD HBT HST cx cy ccl v3 hl0 hl1 hym0 d0 d0'
         go_loopw [118] (fun s118 wr => ∃ (z : Nat) (vo vk : Value), S1.length ≤ z ∧ z ≤ max S1.length (p + 1) ∧ Hid (DkW wr T u (.slice a2 (i + 1) c2) vo vk (.slice (some ⟨b0, o0, none⟩) m cq) (P3 ++ [(B : Int)]) (padP S1 (-1) z) (padP S2 0 z) (KS.map fun q => (q.2 : Int))) ∧ Hid (Below T w5 wr)) (fun _ wr => p + 1 - kidLen T wr)
         case atStart => exact ⟨S1.length, vo, vk, Nat.le_refl _, Nat.le_max_left _ _, HD4.out, HBT4.out⟩
         case round =>
          clear HD4 HBT4
          obtain ⟨z, vo, vk, hz1, hz2, HD, HBT⟩ := hrel
          have hpo : (padP S1 (-1) z).length = z := by rw [padP_len]; omega
          have hpk : (padP S2 0 z).length = z := by rw [padP_len]; have := HSL.out; omega
          have hoo := HD.out.oo
          have hkk := HD.out.kk
          unfold OwnI at hoo hkk
          rw [hpo] at hoo
          rw [hpk] at hkk
          have HPO := Lib.hid hpo
          have HPK := Lib.hid hpk
          clear hpo hpk
          obtain ⟨ao, co, rfl, _, _⟩ := SlK.own hoo
          obtain ⟨ak, ck, rfl, _, _⟩ := SlK.own hkk
          obtain ⟨_, c7, c8⟩ := HD.out.dk.cells
          by_cases hin2 : z ≤ p
          ·
           have d0 : decide ((z : Int) ≤ (p : Int)) = true := by simp; omega
           have d1 : decide (z ≤ p) = true := by simpa using hin2
           have hTl := HD.out.dk.lt
           have hownA := own_below_ hkk (below_alloc wr (.cells #[.int .i64 0] 3))
           have hszA : T + 1 ≤ (wr.alloc (.cells #[.int .i64 0] 3)).heap.size := by simp; omega
           have hslA := slk_new wr 0
           have HZ1 := Lib.hid hz1
           have HZ2 := Lib.hid hz2
           have HPP := Lib.hid hin2
           have hz9 : z ≤ 400001 := by omega
           clear hoo hkk c7 hz1 hz2 hin2
           go_upto_region 31 with (at_builtin; refine wpList_append_slK rfl _ _ 32 rfl (T + 1) 3 i0 (.int .i64 0) 1 8 Tryz.underlying32 hi hz0 hz1' hz2' rfl (by decide) (.slice ak z ck) z ((padP S2 0 z).map (Value.int .i64)) rfl hownA (some ⟨wr.heap.size, 0, none⟩) 1 1 [.int .i64 0] rfl hslA (by simp [Value.oneCell']) (by unfold maxLen; omega) (by omega) hszA ?_; intro vk2 W5 ho1 hg1 hat1; obtain ⟨f1, f2, f3, f4⟩ := rappK_facts HD.out HPK.out 0 ho1 hg1 hat1; obtain ⟨a3, c3, rfl, _, _⟩ := SlK.own ho1; have e1 := f3.cells.2.2; have e2 := f3.lt; have HF1 := Lib.hid f1; have HF2 := Lib.hid f2; clear f1 f2 f3 ho1 hg1 hat1 hownA hslA hszA)
           obtain ⟨W6, hW6⟩ : ∃ X, X = W5.setCell ⟨T, 8, none⟩ (.slice a3 (z + 1) c3) := ⟨_, rfl⟩
           rw [← hW6] at HF1 HF2 ⊢
           have HBT6 : Hid (Below T w5 W6) := HBT.out.trans HF2.out
           clear e1 e2 f4 hW6 c8 HF2
           have hoo := HF1.out.oo
           unfold OwnI at hoo
           rw [HPO.out] at hoo
           have c7 := HF1.out.dk.cells.2.1
           have hTl6 := HF1.out.dk.lt
           have hownA := own_below_ hoo (below_alloc W6 (.cells #[.int .i64 (-1)] 3))
           have hszA : T + 1 ≤ (W6.alloc (.cells #[.int .i64 (-1)] 3)).heap.size := by simp; omega
           have hslA := slk_new W6 (-1)
           clear hoo
           go_wp2_with (at_builtin; refine wpList_append_slK rfl _ _ 32 rfl (T + 1) 3 i0 (.int .i64 0) 1 8 Tryz.underlying32 hi hz0 hz1' hz2' rfl (by decide) (.slice ao z co) z ((padP S1 (-1) z).map (Value.int .i64)) rfl hownA (some ⟨W6.heap.size, 0, none⟩) 1 1 [.int .i64 (-1)] rfl hslA (by simp [Value.oneCell']) (by unfold maxLen; omega) (by omega) hszA ?_; intro vo2 W7 ho1 hg1 hat1; obtain ⟨f1, f2, f3, f4⟩ := rappO_facts HF1.out HPO.out (-1) ho1 hg1 hat1; obtain ⟨a4, c4, rfl, _, _⟩ := SlK.own ho1; have e1 := f3.cells.2.1; have e2 := f3.lt; have HF3 := Lib.hid f1; have HF4 := Lib.hid f2; clear f1 f2 f3 ho1 hg1 hat1 hownA hslA hszA)
           obtain ⟨W8, hW8⟩ : ∃ X, X = W7.setCell ⟨T, 7, none⟩ (.slice a4 (z + 1) c4) := ⟨_, rfl⟩
           rw [← hW8] at HF3 HF4 ⊢
           have HBT8 : Hid (Below T w5 W8) := HBT6.out.trans HF4.out
           clear e1 e2 f4 hW8 c7 HF4
           have hfin := HF3.out
           rw [← padP_succ S1 (-1) HZ1.out, ← padP_succ S2 0 (by rw [← HSL.out]; exact HZ1.out)] at hfin
           have HFIN := Lib.hid hfin
           have HLN : Hid (kidLen T W8 = z + 1 ∧ kidLen T wr = z) := by
            refine ⟨?_, ?_⟩
            ·
             unfold kidLen
             rw [hfin.dk.cells.2.2]
            ·
             unfold kidLen
             rw [HD.out.dk.cells.2.2]
           clear hfin
           go_roundw
           case rel => exact ⟨z + 1, _, _, by have := HZ1.out; omega, by have := HPP.out; omega, HFIN, HBT8⟩
           case measure =>
            rw [HLN.out.1, HLN.out.2]
            have := HPP.out
            omega
          ·
           have d0 : decide ((z : Int) ≤ (p : Int)) = false := by simp; omega
           have d1 : decide (z ≤ p) = false := by simp; omega
           obtain ⟨z', rfl⟩ : ∃ z', z = z' + 1 := ⟨z - 1, by omega⟩
           obtain ⟨g1, c1', e1⟩ := ownsRow_succ hoo
           obtain ⟨g2, c2', e2⟩ := ownsRow_succ hkk
           cases e1
           cases e2
           have hqq := HD.out.qq
           unfold OwnI at hqq
           obtain ⟨aq', cq', eq', _, hsq⟩ := own_sl1 hqq
           rw [List.length_map, HMM.out] at eq' hsq
           cases eq'
           obtain ⟨b1, o1, z0, e0, hl0, cx, hz0'⟩ := sl1_at hsq HYM.out
           have hz0e : z0 = (qk : Int) := by rw [List.getElem?_map, HQ.out] at hz0'; exact (Option.some.inj hz0').symm
           subst hz0e
           cases e0
           have HFK := Lib.hid (HD.out.setK p (qk : Int))
           have HFO := Lib.hid (HFK.out.setO p (i : Int))
           have hf2 : wr.frozen? ⟨g2, p, none⟩ = false := hkk.frozenAt p
           have hc2 : ∃ x, wr.cell? ⟨g2, p, none⟩ = some x := by
            have e := hkk.cellAt p (by omega)
            rw [e]
            exact ⟨_, List.getElem?_eq_getElem (by rw [List.length_map, HPK.out]; omega)⟩
           have hgl2 := (row_lt hkk g2 rfl).2
           have hgT2 := (row_lt hkk g2 rfl).1
           have hgl1 := (row_lt hoo g1 rfl).2
           have hgT1 := (row_lt hoo g1 rfl).1
           obtain ⟨x2, hc2⟩ := hc2
           have j0 : (0 : Int) ≤ (p : Int) := by omega
           have j1 : (p : Int) < ((z' + 1 : Nat) : Int) := by omega
           have j1' : (p : Int) < (z' : Int) + 1 := by omega
           have j2 : (0 : Int) ≤ (y : Int) := by omega
           have j3 : (y : Int) < (m : Int) := by have := HYM.out; omega
           have hres : standsP (P1, P2) B i (KS.take (y + 1)) = ((padP S1 (-1) (z' + 1)).set p (i : Int), (padP S2 0 (z' + 1)).set p (qk : Int)) := by
            rw [HHS.out]
            have hll := HSL.out
            unfold standP
            dsimp only
            have e1 : padP S1 (-1) (p + 1) = padP S1 (-1) (z' + 1) := by
             unfold padP
             rw [show z' + 1 - S1.length = p + 1 - S1.length by omega]
            have e2 : padP S2 0 (p + 1) = padP S2 0 (z' + 1) := by
             unfold padP
             rw [show z' + 1 - S2.length = p + 1 - S2.length by omega]
            rw [e1, e2]
           have HRS := Lib.hid hres
           clear hres hoo hkk hqq hsq hz0' hin2 hz1 hz2
           go_upto_region 32 with fail
           go_region
           go_upto_region 33 with fail
           obtain ⟨W9, hW9⟩ : ∃ X, X = (wr.setCell ⟨g2, p, none⟩ (.int .i64 (qk : Int))).drew := ⟨_, rfl⟩
           have hb9 : Below (wr.setCell ⟨g2, p, none⟩ (.int .i64 (qk : Int))).heap.size (wr.setCell ⟨g2, p, none⟩ (.int .i64 (qk : Int))) W9 := by rw [hW9]; exact bel_drewN _ 1
           rw [← hW9]
           have hD9 := HFK.out.below hb9
           have hT9 : Below T w5 W9 := by
            have h1 : Below T wr (wr.setCell ⟨g2, p, none⟩ (.int .i64 (qk : Int))) := (Below.refl _ _).setCell (by show T ≤ g2; omega) _
            have h2 := HFK.out.dk.lt
            exact (HBT.out.trans h1).trans (hb9.mono (Nat.le_of_lt h2))
           have c9 := hD9.dk.cells.2.1
           have hoo9 := hD9.oo
           unfold OwnI at hoo9
           rw [HPO.out] at hoo9
           have hf9 : W9.frozen? ⟨g1, p, none⟩ = false := hoo9.frozenAt p
           have hc9 : ∃ x, W9.cell? ⟨g1, p, none⟩ = some x := by
            have e := hoo9.cellAt p (by omega)
            rw [e]
            exact ⟨_, List.getElem?_eq_getElem (by rw [List.length_map, HPO.out]; omega)⟩
           have hgl9 := (row_lt hoo9 g1 rfl).2
           obtain ⟨x9, hc9⟩ := hc9
           have HF9 := hD9.setO p (i : Int)
           have e91 : (padP S1 (-1) (z' + 1)).set p (i : Int) = (standsP (P1, P2) B i (KS.take (y + 1))).1 := by rw [HRS.out]
           have e92 : (padP S2 0 (z' + 1)).set p (qk : Int) = (standsP (P1, P2) B i (KS.take (y + 1))).2 := by rw [HRS.out]
           rw [e91, e92] at HF9
           have HFF := Lib.hid HF9
           have HT9 : Hid (Below T w5 (W9.setCell ⟨g1, p, none⟩ (.int .i64 (i : Int)))) := hT9.setCell (by show T ≤ g1; omega) _
           have hY1 : y + 1 ≤ m := HYM.out
           clear hW9 hb9 hD9 hT9 hoo9 HF9 e91 e92 HFO c7 c8 hc2 hf2 hgl2 hgl1 cx hl0
           go_wp2
           go_roundw
           case rel => exact ⟨y + 1, _, _, hY1, by go_num, HFF, HT9⟩
           case measure => simp [intOf]; omega
        ·
         obtain rfl : y = m := by omega
         have d0 : decide ((y : Int) < (y : Int)) = false := by simp
         have HFIN : Hid (DkW wr T u (.slice a2 (i + 1) c2) vo vk (.slice none 0 0) (placesW fold wss (i + 1)).2.2 (placesW fold wss (i + 1)).1 (placesW fold wss (i + 1)).2.1 []) := by
          have h1 := HD.out.nil
          rw [List.take_of_length_le (by rw [HMM.out]; exact Nat.le_refl _), HBV.out] at h1
          rw [Hid, HRES.out]
          unfold settleP
          rw [HBE.out]
          exact h1
         clear hym
         go_wp2
         go_roundw
         case rel => exact ⟨i + 1, _, vo, vk, by omega, by go_num, HFIN, HBT⟩
         case measure => simp [intOf]; omega
  ·
   obtain rfl : i = t.un := by omega
   have d0 : decide ((t.un : Int) < (t.un : Int)) = false := by simp
   have hTr := (KB.out wr HBT.out).2.2.1
   have HTR := Lib.hid hTr
   clear hTr hin
   go_wp2
   refine bodyPost_ret (results_tmp2 rfl _ _ _) rfl ?_
   have hd := HD.out
   rw [← HN.out] at hd
   exact ⟨T, t, u, vs, vo, vk, rfl, ⟨hd.dk, HU.out.1, HU.out.2, HTR.out⟩, hd, HBD.out, HWT.out, HBW5.out.trans (HBT.out.mono HWT.out)⟩
end Go.Proofs.YtglfdclpjmhoiaaGreat

/- The document's Own of a set (layer 5): walked. -/

namespace Go.Proofs.YtglfdclpjmhoiaaGreat
open Go.RowKit Go.Sort

theorem row_lower5 {w : World} {base base' n size : Nat} {e : TypeId} {v : Value} {xs : List Value} (h : w.ownsRow base e size v n xs) (hb : base' ≤ base) : w.ownsRow base' e size v n xs :=
 ⟨h.1, h.2.imp id fun ⟨g, cap, cur, h1, h2, r⟩ => ⟨g, cap, cur, h1, by omega, r⟩⟩
theorem ownW_lower5 {w : World} {b b' : Nat} {v : Value} {wss : List (List Int)} (h : OwnW w b v wss) (hb : b' ≤ b) : OwnW w b' v wss := by
 obtain ⟨es, h1, h2, h3⟩ := h
 exact ⟨es, row_lower5 h1 hb, h2, fun i e xs he hx => ⟨row_lower5 (h3 i e xs he hx).1 hb, (h3 i e xs he hx).2⟩⟩
theorem results_set5 {fn : Func} {p : Tmp} {tmps : Array Value} {W : World} {B : Nat} {x y : Value} (h : fn.results = #[.cell p 24]) (hp : tmps.getD p undef = .pointer (some ⟨B, 0, none⟩)) (hB : W.heap[B]? = some (.cells #[x, y] 24 (0, 0))) :
  (results fn tmps).run Tryz.prog W = .ok (.agg #[x, y]) W := by
 have hl : (loadVar 24 ⟨B, 0, none⟩).run Tryz.prog W = .ok (.agg #[x, y]) W := run_loadVar_row W B 24 24 #[x, y] (0, 0) _ hB Tryz.underlying24 rfl (by kernel_rfl)
 have hp' : tmps[p]?.getD undef = .pointer (some ⟨B, 0, none⟩) := by simpa using hp
 simp [results, h, hp', asAddr, hl, Result.andThen]

set_option maxRecDepth 100000 in
set_option maxHeartbeats 4000000 in
theorem rown5_any (fold : Bool) (a : Option Addr) (la ca : Nat) (wss : List (List Int)) (w : World) (hA : Wds w a la wss) (hla : la ≤ 1000000) (hM : ∀ x ∈ wss, x.length ≤ 1000000) :
    Calls Tryz.prog 23 #[.agg (setV fold a la ca)] w fun e w' => ∃ v, e = .returned (.agg #[.bool fold, v]) ∧ OwnW w' w.heap.size v wss ∧ Below w.heap.size w w' := by
  obtain ⟨iU, hj, hy0, hy1, hy2⟩ := info_parts u8_info
  obtain ⟨i0, hi, hi0, hi1, hi2⟩ := info_parts words_info
  obtain ⟨W, hW⟩ : ∃ W, W = (w.alloc (.cells (setV fold a la ca) 24)).alloc (.cells (setV false none 0 0) 24) := ⟨_, rfl⟩
  have hB : Below w.heap.size w W := by rw [hW]; exact ((Below.refl _ _).alloc (Nat.le_refl _) _).alloc (by simp) _
  have hO : Bx w.heap.size [.cells (setV fold a la ca) 24, .cells (setV false none 0 0) 24] W := by rw [hW]; exact ((Bx.nil _ w).snoc _ rfl).snoc _ (by simp)
  have hsz : W.heap.size = w.heap.size + 1 + 1 := by rw [hW]; simp
  have HOX : Hid (∀ V, RowKit.Below W.heap.size W V → V.cell? ⟨w.heap.size, 0, none⟩ = some (.bool fold) ∧ V.cell? ⟨w.heap.size, 1, none⟩ = some (.slice a la ca) ∧ V.heap[w.heap.size + 1]? = some (.cells (setV false none 0 0) 24 (0, 0))) := fun V hV =>
    have h := hO.below hV
    ⟨h.cell (i := 0) rfl rfl, h.cell (i := 0) rfl rfl, h 1 _ rfl⟩
  have HL := Lib.hid hA.len
  have HA := Lib.hid (hA.below hB)
  have HB := Lib.hid hB
  clear hO hA hB hsz
  go_enter Tryz.func23, Tryz.ntmps23
  go_upto_region 1 with fail
  rw [← hW]
  clear hW
  go_wp2
  go_loopw [3, 4] (fun v i wr => ∃ (k : Nat), k ≤ la ∧ i = .int .i64 k ∧ RowKit.Below W.heap.size W wr ∧ OwnW wr W.heap.size v (wss.take k)) (fun _ i _ => la - (intOf i).toNat)
  case atStart => exact ⟨0, Nat.zero_le _, rfl, Below.refl _ _, by simpa using OwnW.nil _ _⟩
  case round =>
    obtain ⟨k, hk, rfl, hBe, hown⟩ := hrel
    obtain ⟨s0, s1, hz⟩ := HOX.out wr hBe
    by_cases hlt : k < la
    · obtain ⟨bb, off, a', l, c, x, rfl, hbl, hcell, hx, hX, hlc⟩ := (HA.out.below hBe).at_ hlt
      have hxl : l ≤ 1000000 := by have := mem_bd hM hx; rw [hX.len] at this; exact this
      obtain ⟨av, cv, rfl, hcv, hW⟩ := hown.wds
      have hml : (wss.take k).length ≤ 1000000 := by have := List.length_take_le k wss; omega
      have HX := Lib.hid hx
      have i1 : (0 : Int) ≤ (k : Int) := by omega
      have i2 : (k : Int) < (la : Int) := by omega
      have hd0 : decide ((k : Int) < (la : Int)) = true := by simp; omega
      obtain ⟨es, e1, e2, e3⟩ := hown
      obtain ⟨m, hm⟩ : ∃ m, (wss.take k).length = m := ⟨_, rfl⟩
      rw [hm] at e1 e2 hml ⊢
      have hq0 : w.heap.size < wr.heap.size := by have := (Array.getElem?_eq_some_iff.1 hz).1; omega
      have HMM := Lib.hid hm
      have hX1 := hX.below (below_alloc wr (.cells #[] 5))
      have hown0 : OwnB (wr.alloc (.cells #[] 5)) wr.heap.size (.slice (some ⟨wr.heap.size, 0, none⟩) 0 0) 0 [] := World.ownsRow_lit wr #[] 0 (Nat.le_refl _) (Nat.zero_le _) rfl
      have HHX := Lib.hid hX
      clear hx hm hW hX hz
      go_wp2_with (first
        | (at_builtin; refine wpList_append_sl1 rfl _ _ 25 rfl u8_one wr.heap.size 5 iU (.int .u8 0) 1 Tryz.underlying25 hj hy0 hy1 hy2 rfl _ 0 [] rfl hown0 a' l c x rfl hX1.1 (by unfold maxLen; omega) (by omega) (by simp) ?_; intro v' w5 hown' hgrow hat
           have ho3 : OwnB w5 wr.heap.size v' l x := (by simpa [OwnB] using hown')
           have hB3 : RowKit.Below wr.heap.size wr w5 := ((Below.refl _ _).alloc (Nat.le_refl _) _).grown hgrow (by simp) (fun k e => by cases e; exact Nat.le_refl _)
           obtain ⟨a3, c3, rfl, hc3, _⟩ := own_bys ho3 HHX.out.2
           have e13 := own_below_ e1 hB3)
        | (at_builtin; refine wpList_append_own _ rfl _ _ 22 rfl W.heap.size 25 i0 (.slice none 0 0) 1 24 Tryz.underlying22 hi hi0 hi1 hi2 rfl (by decide) (.slice av m cv) m es rfl (e13.alloc _) ⟨w5.heap.size, 0, none⟩ 1 1 [.slice a3 l c3] rfl rfl (cell_one_new _ _ _) (by simp [Value.oneCell']) (by unfold maxLen; omega) (by omega) (by have := hBe.size; have := hB3.size; simp; omega) ?_; intro v'' w6 hown'' hgrow2 hnil))
      have hB5 : RowKit.Below W.heap.size W w6 := ((hBe.trans (hB3.mono hBe.size)).alloc (by have := hBe.size; have := hB3.size; omega) _).grown hgrow2 (by simp; have := hBe.size; have := hB3.size; omega) (fun j hj => (e13.lt j hj).1)
      go_roundw
      case rel =>
        refine ⟨k + 1, by omega, by go_num, hB5, ?_⟩
        rw [take_step HX.out]
        exact OwnW.step (wss := wss.take k) (xs := x) (e := .slice a3 l c3) (es := es) (v := .slice av m cv) (by rw [HMM.out]; exact e13.alloc _) (by rw [HMM.out]; exact e2)
          (fun i e xs he hx => ⟨own_below_ (own_below_ (e3 i e xs he hx).1 hB3) ((Below.refl _ _).alloc (Nat.le_refl _) _), (e3 i e xs he hx).2⟩) (by rw [HHX.out.len]; exact (OwnB_mono (ho3.alloc _) hBe.size)) HHX.out.2 (by rw [HMM.out]; exact hown'') hgrow2
      case measure => simp [intOf]; omega
    · obtain rfl : k = la := by omega
      have HF : Hid (wss.take k = wss) := List.take_of_length_le (by have := HL.out; omega)
      have hd0 : decide ((k : Int) < (k : Int)) = false := by simp
      rw [HF.out] at hown
      have z0 : wr.cell? ⟨w.heap.size + 1, 0, none⟩ = some (.bool false) := by simp [World.cell?, hz]
      have z1 : wr.cell? ⟨w.heap.size + 1, 1, none⟩ = some (.slice none 0 0) := by simp [World.cell?, hz]
      have y0 : wr.frozen? ⟨w.heap.size + 1, 0, none⟩ = false := by simp [World.frozen?, hz]
      have y1 : wr.frozen? ⟨w.heap.size + 1, 1, none⟩ = false := by simp [World.frozen?, hz]
      obtain ⟨av, cv, rfl, hcv, hW⟩ := hown.wds
      clear hW
      go_wp2
      have hz3 := set_at (i := 1) (set_at (i := 0) hz (.bool fold)) (.slice av wss.length cv)
      refine bodyPost_ret (results_set5 rfl rfl (by simpa using hz3)) rfl ?_
      have ho := ((ownW_lower5 hown HB.out.size).turned (grown_set2 wr (w.heap.size + 1) 0 (.bool fold)) hz (of_decide_eq_true (by kernel_rfl)) (of_decide_eq_true (by kernel_rfl))).turned (grown_set2 _ (w.heap.size + 1) 1 (.slice av wss.length cv)) (set_at (i := 0) hz (.bool fold)) (of_decide_eq_true (by kernel_rfl)) (of_decide_eq_true (by kernel_rfl))
      exact ⟨_, rfl, ho, ((HB.out.trans (hBe.mono HB.out.size)).setCell (Nat.le_succ _) _).setCell (Nat.le_succ _) _⟩

end Go.Proofs.YtglfdclpjmhoiaaGreat

/- The document's links (layer 8): chains, the deepest node, a step; walked. -/

namespace Go.Proofs.YtglfdclpjmhoiaaGreat
open Go.RowKit Go.Sort

set_option maxRecDepth 100000 in
set_option maxHeartbeats 4000000 in
theorem rdeep8_any (t : TV) (T : TrieT) (b : Option Addr) (lb cb : Nat) (x : List Int) (w : World) (hT : Tri w t T) (hb : Bd4 t) (hX : Bys w b lb x) (hlb : lb ≤ 1000000) (hcb : lb ≤ cb) :
  Calls Tryz.prog 22 #[.agg t.cells, .slice b lb cb] w fun e w' => e = .returned (.tuple #[.int .i64 (deepT T x).1, .bool (deepT T x).2]) ∧ Below w.heap.size w w' := by
 obtain ⟨ua, un, uc, da, dn, dc, xa, xn, xc, ba, bn, bc⟩ := t
 obtain ⟨W, hW⟩ : ∃ W, W = w.alloc (.cells #[.slice ua un uc, .slice da dn dc, .slice xa xn xc, .slice ba bn bc] 34) := ⟨_, rfl⟩
 have hB : Below w.heap.size w W := by rw [hW]; exact below_alloc _ _
 have hO : Bx w.heap.size [.cells #[.slice ua un uc, .slice da dn dc, .slice xa xn xc, .slice ba bn bc] 34] W := by rw [hW]; exact (Bx.nil _ w).snoc _ rfl
 have c0 : W.cell? ⟨w.heap.size, 0, none⟩ = some (.slice ua un uc) := hO.cell (i := 0) rfl rfl
 have c1 : W.cell? ⟨w.heap.size, 1, none⟩ = some (.slice da dn dc) := hO.cell (i := 0) rfl rfl
 have c2 : W.cell? ⟨w.heap.size, 2, none⟩ = some (.slice xa xn xc) := hO.cell (i := 0) rfl rfl
 have c3 : W.cell? ⟨w.heap.size, 3, none⟩ = some (.slice ba bn bc) := hO.cell (i := 0) rfl rfl
 have HC := Lib.hid (rnodes8_any _ T W (hT.below hB) hb)
 have HBD := Lib.hid (nodesT_bd T)
 have HX := Lib.hid (hX.below hB)
 clear hT hb hX
 cases hr : readP T with
 | none =>
  have HZ : Hid (nodesT T = [] ∧ deepT T x = (0, false)) := ⟨nodesT_none hr, by unfold deepT; rw [hr]⟩
  have HC2 := HC.out
  rw [HZ.out.1] at HC2
  have HC3 := Lib.hid HC2
  clear hr HC2
  go_enter Tryz.func22, Tryz.ntmps22
  go_upto_region 1 with fail
  rw [← hW]
  clear hW
  go_wp2_with fail
  refine HC3.out.mono ?_
  rintro e w1 ⟨a1, c1, rfl, _, _, hb1⟩
  go_wp2
  go_ret2
  exact ⟨by rw [HZ.out.2]; rfl, hB.trans (hb1.mono hB.size)⟩
 | some r =>
  obtain ⟨ws, hws⟩ : ∃ ws, r.2 = ws := ⟨_, rfl⟩
  have HZ : Hid (nodesT T = nodesL ws ∧ deepT T x = (placeS (nodesL ws) (lsf (nodesL ws) x), true)) := ⟨by rw [nodesT_some hr, hws], by unfold deepT; rw [hr]; dsimp only; rw [hws]⟩
  have hn0 : (nodesL ws).length ≠ 0 := fun e => nodesL_ne ws (List.eq_nil_of_length_eq_zero e)
  rw [HZ.out.1] at HC HBD
  have HLD := Lib.hid (lsf_drop (N := nodesL ws) (M := 32) (nodes_pre ws).1 HBD.out.2 x)
  obtain ⟨n, hn⟩ : ∃ n, (nodesL ws).length = n := ⟨_, rfl⟩
  rw [hn] at HC HBD hn0
  have hn4 := HBD.out.1
  have e0 : ((n : Int) == 0) = false := by simp; omega
  have e0' : (n == 0) = false := by simp; omega
  have hmx : max ((lb : Int) - 32) 0 = ((lb - 32 : Nat) : Int) := by omega
  clear hr hws hn hn0
  go_enter Tryz.func22, Tryz.ntmps22
  go_upto_region 1 with fail
  rw [← hW]
  clear hW
  go_wp2_with fail
  refine HC.out.mono ?_
  rintro e w1 ⟨na, nc, rfl, hnc, hN, hb1⟩
  have h8 := rlongest8_any na b n nc lb cb (nodesL ws) x (lb - 32) w1 hN (HX.out.below hb1) (by omega) hlb hcb (place0 ws)
  rw [show lb - 32 = x.length - 32 by rw [HX.out.len], HLD.out, HX.out.len] at h8
  have HQ := Lib.hid h8
  clear h8 hN c0 c1 c2 c3
  go_wp2_with fail
  refine HQ.out.mono ?_
  rintro e w2 ⟨rfl, hb2⟩
  have hB1 := hB.trans (hb1.mono hB.size)
  have hB2 := hB1.trans (hb2.mono hB1.size)
  go_wp2
  go_ret2
  exact ⟨by rw [HZ.out.2]; rfl, hB2⟩
end Go.Proofs.YtglfdclpjmhoiaaGreat

/- The law SparseFew (layer 12): walked. Printed by gen_aw.py and exp.py. -/

namespace Go.Proofs.YtglfdclpjmhoiaaGreat
open Go.RowKit Go.Sort

theorem same_bel {f : Nat} {args : Array Value} {V : World} {r : Ending} (h : Calls Tryz.prog f args V fun e w' => e = r ∧ V = w') : Calls Tryz.prog f args V fun e w' => e = r ∧ Below V.heap.size V w' :=
 h.mono fun e w' h => ⟨h.1, h.2 ▸ Below.refl _ _⟩
theorem wrap_small {k : Nat} (h : k ≤ 102800) : IntKind.i64.wrap (k : Int) = (k : Int) := by rw [IntKind.wrap_i64]; omega

set_option maxRecDepth 100000 in
set_option maxHeartbeats 16000000 in
theorem sparseFew_walk (fold : Bool) (a : Option Addr) (la ca : Nat) (wss : List (List Int)) (place node : Int) (w : World) (hA : Wds w a la wss) :
  Calls Tryz.prog 6 #[.agg (setV fold a la ca), .int .i64 place, .int .i64 node] w fun e w' => e = .returned (.bool true) ∧ Below w.heap.size w w' := by
 have HL := Lib.hid hA.len
 obtain ⟨W, hW⟩ : ∃ W, W = w.alloc (.cells (setV fold a la ca) 24) := ⟨_, rfl⟩
 have hB : Below w.heap.size w W := by rw [hW]; exact below_alloc _ _
 have hO : Bx w.heap.size [.cells (setV fold a la ca) 24] W := by rw [hW]; exact (Bx.nil _ w).snoc _ rfl
 have HW : Hid (∀ V, RowKit.Below W.heap.size W V → RowKit.Below w.heap.size w V ∧ V.cell? ⟨w.heap.size, 0, none⟩ = some (.bool fold) ∧ V.cell? ⟨w.heap.size, 1, none⟩ = some (.slice a la ca) ∧ Wds V a la wss) := fun V hV => by
  have h := hO.below hV
  exact ⟨hB.trans (hV.mono hB.size), h.cell (i := 0) rfl rfl, h.cell (i := 0) rfl rfl, (hA.below hB).below hV⟩
 have hg := great5_any fold a la ca wss W (hA.below hB)
 obtain ⟨G, hG⟩ : ∃ G, greatP wss = G := ⟨_, rfl⟩
 rw [hG] at hg
 have HG := Lib.hid hg
 obtain ⟨_, s0, s1, _⟩ := HW.out W (Below.refl _ _)
 clear hg hA hO hB
 go_enter Tryz.func6, Tryz.ntmps6
 go_upto_region 1 with fail
 rw [← hW]
 clear hW
 go_wp2_with fail
 refine HG.out.mono ?_
 rintro e w1 ⟨rfl, hb1⟩
 clear s0 s1 HG
 cases G with
 | true =>
  go_wp2_with fail
  refine (wakes12 _).mono ?_
  rintro e wk ⟨rfl, hbk⟩
  go_wp2
  go_ret
  exact ⟨rfl, (HW.out wk (hb1.trans (hbk.mono hb1.size))).1⟩
 | false =>
  obtain ⟨g1, g2, g3⟩ := gr8_bd hG fold
  rw [HL.out] at g1
  have HM : Hid (∀ x ∈ wss, x.length ≤ 1000000) := fun x hx => by have := g2 x hx; omega
  have HT : Hid ((begL fold wss).length ≤ 1000000) := by rw [Hid]; omega
  clear hG g2 g3
  obtain ⟨_, s0, s1, hA1⟩ := HW.out w1 hb1
  cases hr : rightP fold wss with
  | false =>
   have HR := Lib.hid (rmake7_no fold a la ca wss w1 hA1 (by omega) HM.out hr)
   clear hA1 hr
   go_upto_region 4 with (go_at_call 19; refine HR.out.mono ?_; rintro e w2 ⟨rfl, hb2⟩)
   have hB2 := hb1.trans (hb2.mono hb1.size)
   obtain ⟨W3, hW3⟩ : ∃ X, X = w2.alloc (.cells #[.slice none 0 0, .slice none 0 0, .slice none 0 0, .slice none 0 0] 34) := ⟨_, rfl⟩
   have hB3 : RowKit.Below W.heap.size W W3 := by rw [hW3]; exact hB2.alloc hB2.size _
   rw [← hW3]
   clear hW3 hB2 hb2
   go_wp2_with fail
   refine (wakes12 _).mono ?_
   rintro e wk ⟨rfl, hbk⟩
   go_wp2
   go_ret
   exact ⟨rfl, (HW.out wk (hB3.trans (hbk.mono hB3.size))).1⟩
  | true =>
   have HOK := Lib.hid (okT hr (fun x hx c hc => hA1.bytes x hx c hc))
   have HRT := Lib.hid hr
   have HR := Lib.hid (rmake7_yes fold a la ca wss w1 hA1 hr)
   have HB1 := Lib.hid hb1
   clear hA1 hr hb1
   go_upto_region 4 with (go_at_call 19; refine HR.out.mono ?_; rintro e w2 ⟨t, rfl, hT2, hb2⟩)
   obtain ⟨W3, hW3⟩ : ∃ W3, W3 = w2.alloc (.cells #[.slice t.ua t.un t.uc, .slice t.da t.dn t.dc, .slice t.xa t.xn t.xc, .slice t.ba t.bn t.bc] 34) := ⟨_, rfl⟩
   have hB2 := HB1.out.trans (hb2.mono HB1.out.size)
   have hB3 : RowKit.Below W.heap.size W W3 := by rw [hW3]; exact hB2.alloc hB2.size _
   have hO3 : Bx w2.heap.size [.cells #[.slice t.ua t.un t.uc, .slice t.da t.dn t.dc, .slice t.xa t.xn t.xc, .slice t.ba t.bn t.bc] 34] W3 := by rw [hW3]; exact (Bx.nil _ w2).snoc _ rfl
   have hT3 : Tri W3 t (trieP wss) := by rw [hW3]; exact hT2.below (below_alloc _ _)
   rw [← hW3]
   obtain ⟨Q, hQ⟩ : ∃ Q, w2.heap.size = Q := ⟨_, rfl⟩
   rw [hQ] at hO3 ⊢
   have KV : Hid (∀ V, RowKit.Below W3.heap.size W3 V → V.cell? ⟨Q, 0, none⟩ = some (.slice t.ua t.un t.uc) ∧ V.cell? ⟨Q, 1, none⟩ = some (.slice t.da t.dn t.dc) ∧ V.cell? ⟨Q, 2, none⟩ = some (.slice t.xa t.xn t.xc) ∧ V.cell? ⟨Q, 3, none⟩ = some (.slice t.ba t.bn t.bc) ∧ Tri V t (trieP wss)) := fun V hV => by
    have h := hO3.below hV
    exact ⟨h.cell (i := 0) rfl rfl, h.cell (i := 0) rfl rfl, h.cell (i := 0) rfl rfl, h.cell (i := 0) rfl rfl, hT3.below hV⟩
   have K3 : Hid (∀ V, RowKit.Below W3.heap.size W3 V → RowKit.Below w.heap.size w V ∧ V.cell? ⟨w.heap.size, 0, none⟩ = some (.bool fold) ∧ V.cell? ⟨w.heap.size, 1, none⟩ = some (.slice a la ca) ∧ Wds V a la wss) := fun V hV => HW.out V (hB3.trans (hV.mono hB3.size))
   have hn4 : (nodesL wss).length ≤ 400 := read_n (readP_iff.2 ⟨right_false HRT.out, rfl, rfl⟩)
   have HN : Hid ((nodesL wss).length = t.un) := by rw [Hid, ← up_len]; exact hT3.up.1
   have hun4 : t.un ≤ 400 := by rw [← HN.out]; exact hn4
   have HBD := Lib.hid (triBd12 HRT.out hT3)
   obtain ⟨v0, v1, v2, v3, _⟩ := KV.out W3 (Below.refl _ _)
   have HB3 := Lib.hid hB3
   clear hW3 hO3 hT3 hT2 hb2 hB2 hB3 hQ s0 s1 HR hn4 HB1
   by_cases h120 : 120 < t.un
   ·
    have e1 : decide ((120 : Int) < (t.un : Int)) = true := by simp; omega
    have e1' : decide (120 < t.un) = true := by simp; omega
    clear h120
    go_wp2_with fail
    refine (wakes12 _).mono ?_
    rintro e wk ⟨rfl, hbk⟩
    go_wp2
    go_ret
    exact ⟨rfl, (HW.out wk (HB3.out.trans (hbk.mono HB3.out.size))).1⟩
   have e1 : decide ((120 : Int) < (t.un : Int)) = false := by simp; omega
   have e1' : decide (120 < t.un) = false := by simp; omega
   go_upto_region 6 with fail
   clear v0 v1 v2 v3 e1 e1'
   obtain ⟨_, s0, s1, hA3⟩ := K3.out W3 (Below.refl _ _)
   have HF := Lib.hid (rof10_yes fold a la ca wss W3 hA3 (by omega) HM.out HRT.out)
   have HS25 : Hid ((Tryz.zeroCells51).size = (((clsP fold wss).map (Value.int .i64)).toArray).size) := by rw [Hid, zero25, rowI_size, rowI_size, clsP_len]; simp
   have HI25 : Hid ((Tryz.prog.info? 51).map (·.size) = some (((clsP fold wss).map (Value.int .i64)).toArray).size) := by rw [Hid, rowI_size, clsP_len]; exact info25
   clear hA3
   go_upto_region 7 with (first
    | (refine wpList_store_row rfl 51 _ _ rfl _ _ rfl rfl 51 _ (heap_alloc_new _ _) HI25.out HS25.out (rowI_one _) ?_)
    | (go_at_call 20; refine HF.out.mono ?_; rintro e w4 ⟨rfl, hb4⟩))
   rw [World.setRow_alloc_new]
   obtain ⟨w5, hw5⟩ : ∃ w5, w5 = w4.alloc (.cells ((clsP fold wss).map (Value.int .i64)).toArray 51) := ⟨_, rfl⟩
   have HB5 : Hid (RowKit.Below W3.heap.size W3 w5) := by rw [Hid, hw5]; exact hb4.alloc hb4.size _
   rw [← hw5]
   clear hw5 hb4 s0 s1 HF HS25 HI25
   obtain ⟨_, s0, s1, hA5⟩ := K3.out w5 HB5.out
   have HM1 := Lib.hid (make12_use fold a la ca wss w5 hA5 (by omega) HM.out HT.out HRT.out)
   clear hA5
   go_upto_region 8 with (go_at_call 10; refine HM1.out.mono ?_; rintro e w6 ⟨T1, t1, rfl, hS1, hb6⟩)
   have HB6 : Hid (RowKit.Below W3.heap.size W3 w6) := HB5.out.trans (hb6.mono HB5.out.size)
   have HS1 := Lib.hid hS1
   clear s0 s1 HM1 hb6 hS1
   obtain ⟨_, s0, s1, hA6⟩ := K3.out w6 HB6.out
   have HOW := Lib.hid (rown5_any fold a la ca wss w6 hA6 (by omega) HM.out)
   clear hA6
   have hwl : wss.length ≤ 1000000 := by rw [HL.out]; omega
   go_upto_region 9 with (first
    | (go_at_call 10; refine HM2.out.mono ?_; rintro e w8 ⟨T2, t2, rfl, hS2, hb8⟩)
    | (go_at_call 23; refine HOW.out.mono ?_; rintro e w7 ⟨v, rfl, hown, hb7⟩; obtain ⟨a3, c3, rfl, hc3, hw3⟩ := hown.wds; have HM2 := Lib.hid (make12_use fold a3 wss.length c3 wss w7 hw3 hwl HM.out HT.out HRT.out); have HB7 : Hid (RowKit.Below w6.heap.size w6 w7) := hb7; clear hown hb7 hw3))
   have HB8 : Hid (RowKit.Below w6.heap.size w6 w8) := HB7.out.trans (hb8.mono HB7.out.size)
   have HS2 := Lib.hid hS2
   have hb68 := HB6.out.trans (HB8.out.mono HB6.out.size)
   have K8 : Hid (∀ V, RowKit.Below w8.heap.size w8 V → RowKit.Below w.heap.size w V ∧ SpM V T1 fold wss t1 ∧ SpM V T2 fold wss t2 ∧ V.cell? ⟨Q, 0, none⟩ = some (.slice t.ua t.un t.uc)) := fun V hV => by
    have h := hb68.trans (hV.mono hb68.size)
    exact ⟨(K3.out V h).1, (HS1.out.below HB8.out).below hV, HS2.out.below hV, (KV.out V h).1⟩
   clear s0 s1 hb8 hS2 hb68 HOW HM2 HB5 HB6 HB7 HB8 HS1 HS2
   have HA1 := Lib.hid ((K8.out w8 (Below.refl _ _)).2.1.at_ HOK.out place)
   obtain ⟨O, hO⟩ : ∃ O, (atT (owW fold wss) (kiW fold wss) place).1 = O := ⟨_, rfl⟩
   obtain ⟨Kd, hKd⟩ : ∃ K, (atT (owW fold wss) (kiW fold wss) place).2 = K := ⟨_, rfl⟩
   rw [hO, hKd] at HA1
   go_upto_region 12 with (go_at_call 11; refine HA1.out.mono ?_; rintro e w9 ⟨rfl, hb9⟩)
   have HB9 := Lib.hid hb9
   have HA2 := Lib.hid ((K8.out w9 HB9.out).2.2.1.at_ HOK.out place)
   rw [hO, hKd] at HA2
   clear hb9 hO hKd HA1
   go_upto_region 13 with (go_at_call 11; refine HA2.out.mono ?_; rintro e wa ⟨rfl, hba⟩)
   have hBa := HB9.out.trans (hba.mono HB9.out.size)
   obtain ⟨P, hP⟩ : ∃ P, (owW fold wss).length = P := ⟨_, rfl⟩
   obtain ⟨Bs, hBs⟩ : ∃ B, baT (baW fold wss) node = B := ⟨_, rfl⟩
   obtain ⟨m, hm⟩ : ∃ m, manyP fold wss = m := ⟨_, rfl⟩
   obtain ⟨hp1, hp2, _, _⟩ := places_many HOK.out (right_spec HRT.out).2.1 (fun x hx => ((right_spec HRT.out).2.2.1 x hx).1)
   have hm257 := many257 (fold := fold) (wss := wss)
   rw [HN.out, hP] at hp1
   rw [HN.out, hP, hm] at hp2
   rw [hm] at hm257 ⊢
   obtain ⟨k, hk⟩ : ∃ k, t.un * m = k := ⟨_, rfl⟩
   have hk9 : k ≤ 102800 := by rw [← hk]; exact Nat.mul_le_mul (n₁ := t.un) (m₁ := m) (n₂ := 400) (m₂ := 257) hun4 hm257
   have hki : (t.un : Int) * (m : Int) = (k : Int) := by rw [← Int.natCast_mul, hk]
   rw [hk] at hp2
   have KN : Hid (∀ V, RowKit.Below w8.heap.size w8 V → Calls Tryz.prog 15 #[.pointer (some ⟨T1, 0, none⟩)] V fun e w' => e = .returned (.int .i64 (t.un : Int)) ∧ RowKit.Below V.heap.size V w') := fun V hV => by
    have h := same_bel (K8.out V hV).2.1.nodes
    rwa [HN.out] at h
   have KP1 : Hid (∀ V, RowKit.Below w8.heap.size w8 V → Calls Tryz.prog 16 #[.pointer (some ⟨T1, 0, none⟩)] V fun e w' => e = .returned (.int .i64 (P : Int)) ∧ RowKit.Below V.heap.size V w') := fun V hV => by
    have h := same_bel (K8.out V hV).2.1.places
    rwa [hP] at h
   have KP2 : Hid (∀ V, RowKit.Below w8.heap.size w8 V → Calls Tryz.prog 16 #[.pointer (some ⟨T2, 0, none⟩)] V fun e w' => e = .returned (.int .i64 (P : Int)) ∧ RowKit.Below V.heap.size V w') := fun V hV => by
    have h := same_bel (K8.out V hV).2.2.1.places
    rwa [hP] at h
   have KB1 : Hid (∀ V, RowKit.Below w8.heap.size w8 V → Calls Tryz.prog 14 #[.pointer (some ⟨T1, 0, none⟩), .int .i64 node] V fun e w' => e = .returned (.int .i64 Bs) ∧ RowKit.Below V.heap.size V w') := fun V hV => by
    have h := same_bel ((K8.out V hV).2.1.base HOK.out node)
    rwa [hBs] at h
   have KB2 : Hid (∀ V, RowKit.Below w8.heap.size w8 V → Calls Tryz.prog 14 #[.pointer (some ⟨T2, 0, none⟩), .int .i64 node] V fun e w' => e = .returned (.int .i64 Bs) ∧ RowKit.Below V.heap.size V w') := fun V hV => by
    have h := same_bel ((K8.out V hV).2.2.1.base HOK.out node)
    rwa [hBs] at h
   have d1 : decide ((t.un : Int) ≤ (P : Int)) = true := by simp; omega
   have d1' : decide (t.un ≤ P) = true := by simp; omega
   have d2 : decide ((P : Int) ≤ (k : Int)) = true := by simp; omega
   have d2' : decide (P ≤ k) = true := by simp; omega
   have dw : IntKind.i64.wrap ((t.un : Int) * (m : Int)) = (k : Int) := by rw [hki]; exact wrap_small hk9
   clear hp1 hp2 hP hBs hm hk hki hba HB9 HA2 hm257
   refine wp_region_noPanic ?_
   refine wp_region_held_drew (S := RowKit.Below w8.heap.size w8) (by kernel_rfl) (hBa.trans ((bel_drewN wa 1).mono hBa.size)) (fun hHeld => ?_)
   clear hBa
   change wpAnyH _ _ _ _ _ 52 _ _ _
   refine tkW 0 (v := ?_) ?_ ?_
   rotate_left
   ·
    intro V hV
    first | (go_simp; done) | (go_simp; with_reducible rfl)
   try simp only [Act.put, pA, pB, pC]
   iterate 3 (refine tkF 52 (v := ?_) ?_ ?_; rotate_left; (· intro V hV; have r0 := (K8.out V hV).2.2.2; first | (go_simp; done) | (go_simp; with_reducible rfl)); try simp only [Act.put, pA, pB, pC])
   refine wpAnyH_one (i := 1) (vi := .int .i64 (t.un : Int)) (by simp only [pD, pE, pF]; rfl) (by as_aux_lemma => kernel_rfl) ?_ ?_ _ hHeld
   ·
    intro V hV K hK
    try simp only [Act.put, pA, pB, pC] at hK
    go_simp
    go_at_call 15; refine (KN.out V hV).mono ?_; rintro e w2 ⟨rfl, hb2⟩; exact hK _ (hV.trans (hb2.mono hV.size))
   clear hHeld
   intro V1 hHeld
   try simp only [Act.put, pA, pB, pC]
   iterate 3 (refine tkF 51 (v := ?_) ?_ ?_; rotate_left; (· intro V hV; first | (go_simp; done) | (go_simp; with_reducible rfl)); try simp only [Act.put, pA, pB, pC])
   refine tkW 9 (v := ?_) ?_ ?_
   rotate_left
   ·
    intro V hV
    first | (go_simp; done) | (go_simp; with_reducible rfl)
   try simp only [Act.put, pA, pB, pC]
   refine wpAnyH_one (i := 8) (vi := .int .i64 (P : Int)) (by simp only [pD, pE, pF]; rfl) (by as_aux_lemma => kernel_rfl) ?_ ?_ _ hHeld
   ·
    intro V hV K hK
    try simp only [Act.put, pA, pB, pC] at hK
    go_simp
    go_at_call 16; refine (KP1.out V hV).mono ?_; rintro e w2 ⟨rfl, hb2⟩; exact hK _ (hV.trans (hb2.mono hV.size))
   clear hHeld
   intro V1 hHeld
   try simp only [Act.put, pA, pB, pC]
   refine wpAnyH_one (i := 10) (vi := .int .i64 (t.un : Int)) (by simp only [pD, pE, pF]; rfl) (by as_aux_lemma => kernel_rfl) ?_ ?_ _ hHeld
   ·
    intro V hV K hK
    try simp only [Act.put, pA, pB, pC] at hK
    go_simp
    go_at_call 15; refine (KN.out V hV).mono ?_; rintro e w2 ⟨rfl, hb2⟩; exact hK _ (hV.trans (hb2.mono hV.size))
   clear hHeld
   intro V1 hHeld
   try simp only [Act.put, pA, pB, pC]
   iterate 4 (refine tkF 51 (v := ?_) ?_ ?_; rotate_left; (· intro V hV; first | (go_simp; done) | (go_simp; with_reducible rfl)); try simp only [Act.put, pA, pB, pC])
   refine tkW 16 (v := ?_) ?_ ?_
   rotate_left
   ·
    intro V hV
    first | (go_simp; done) | (go_simp; with_reducible rfl)
   try simp only [Act.put, pA, pB, pC]
   refine tkW 18 (v := ?_) ?_ ?_
   rotate_left
   ·
    intro V hV
    first | (go_simp; done) | (go_simp; with_reducible rfl)
   try simp only [Act.put, pA, pB, pC]
   refine wpAnyH_one (i := 15) (vi := .int .i64 (P : Int)) (by simp only [pD, pE, pF]; rfl) (by as_aux_lemma => kernel_rfl) ?_ ?_ _ hHeld
   ·
    intro V hV K hK
    try simp only [Act.put, pA, pB, pC] at hK
    go_simp
    go_at_call 16; refine (KP1.out V hV).mono ?_; rintro e w2 ⟨rfl, hb2⟩; exact hK _ (hV.trans (hb2.mono hV.size))
   clear hHeld
   intro V1 hHeld
   try simp only [Act.put, pA, pB, pC]
   refine wpAnyH_one (i := 17) (vi := .int .i64 (t.un : Int)) (by simp only [pD, pE, pF]; rfl) (by as_aux_lemma => kernel_rfl) ?_ ?_ _ hHeld
   ·
    intro V hV K hK
    try simp only [Act.put, pA, pB, pC] at hK
    go_simp
    go_at_call 15; refine (KN.out V hV).mono ?_; rintro e w2 ⟨rfl, hb2⟩; exact hK _ (hV.trans (hb2.mono hV.size))
   clear hHeld
   intro V1 hHeld
   try simp only [Act.put, pA, pB, pC]
   iterate 5 (refine tkF 51 (v := ?_) ?_ ?_; rotate_left; (· intro V hV; first | (go_simp; done) | (go_simp; with_reducible rfl)); try simp only [Act.put, pA, pB, pC])
   refine tkW 25 (v := ?_) ?_ ?_
   rotate_left
   ·
    intro V hV
    first | (go_simp; done) | (go_simp; with_reducible rfl)
   try simp only [Act.put, pA, pB, pC]
   refine wpAnyH_one (i := 24) (vi := .int .i64 (P : Int)) (by simp only [pD, pE, pF]; rfl) (by as_aux_lemma => kernel_rfl) ?_ ?_ _ hHeld
   ·
    intro V hV K hK
    try simp only [Act.put, pA, pB, pC] at hK
    go_simp
    go_at_call 16; refine (KP1.out V hV).mono ?_; rintro e w2 ⟨rfl, hb2⟩; exact hK _ (hV.trans (hb2.mono hV.size))
   clear hHeld
   intro V1 hHeld
   try simp only [Act.put, pA, pB, pC]
   refine wpAnyH_one (i := 26) (vi := .int .i64 (P : Int)) (by simp only [pD, pE, pF]; rfl) (by as_aux_lemma => kernel_rfl) ?_ ?_ _ hHeld
   ·
    intro V hV K hK
    try simp only [Act.put, pA, pB, pC] at hK
    go_simp
    go_at_call 16; refine (KP2.out V hV).mono ?_; rintro e w2 ⟨rfl, hb2⟩; exact hK _ (hV.trans (hb2.mono hV.size))
   clear hHeld
   intro V1 hHeld
   try simp only [Act.put, pA, pB, pC]
   iterate 15 (refine tkF 51 (v := ?_) ?_ ?_; rotate_left; (· intro V hV; first | (go_simp; done) | (go_simp; with_reducible rfl)); try simp only [Act.put, pA, pB, pC])
   iterate 2 (refine tkF 52 (v := ?_) ?_ ?_; rotate_left; (· intro V hV; first | (go_simp; done) | (go_simp; with_reducible rfl)); try simp only [Act.put, pA, pB, pC])
   refine wpAnyH_one (i := 42) (vi := .int .i64 Bs) (by simp only [pD, pE, pF]; rfl) (by as_aux_lemma => kernel_rfl) ?_ ?_ _ hHeld
   ·
    intro V hV K hK
    try simp only [Act.put, pA, pB, pC] at hK
    go_simp
    go_at_call 14; refine (KB1.out V hV).mono ?_; rintro e w2 ⟨rfl, hb2⟩; exact hK _ (hV.trans (hb2.mono hV.size))
   clear hHeld
   intro V1 hHeld
   try simp only [Act.put, pA, pB, pC]
   refine wpAnyH_one (i := 45) (vi := .int .i64 Bs) (by simp only [pD, pE, pF]; rfl) (by as_aux_lemma => kernel_rfl) ?_ ?_ _ hHeld
   ·
    intro V hV K hK
    try simp only [Act.put, pA, pB, pC] at hK
    go_simp
    go_at_call 14; refine (KB2.out V hV).mono ?_; rintro e w2 ⟨rfl, hb2⟩; exact hK _ (hV.trans (hb2.mono hV.size))
   clear hHeld
   intro V1 hHeld
   try simp only [Act.put, pA, pB, pC]
   iterate 3 (refine tkF 51 (v := ?_) ?_ ?_; rotate_left; (· intro V hV; first | (go_simp; done) | (go_simp; with_reducible rfl)); try simp only [Act.put, pA, pB, pC])
   refine wpAnyH_one (i := 49) (vi := .bool true) (by simp only [pD, pE, pF]; rfl) (by as_aux_lemma => kernel_rfl) ?_ ?_ _ hHeld
   ·
    intro V hV K hK
    try simp only [Act.put, pA, pB, pC] at hK
    go_simp
    go_at_call 8; refine (wakes12 V).mono ?_; rintro e w2 ⟨rfl, hb2⟩; exact hK _ (hV.trans (hb2.mono hV.size))
   clear hHeld
   intro V1 hHeld
   try simp only [Act.put, pA, pB, pC]
   iterate 2 (refine tkF 51 (v := ?_) ?_ ?_; rotate_left; (· intro V hV; first | (go_simp; done) | (go_simp; with_reducible rfl)); try simp only [Act.put, pA, pB, pC])
   refine wpAnyH_done (by kernel_rfl) ?_ _
   refine NoPanic.normal ?_
   go_wp2
   go_ret
   exact ⟨rfl, (K8.out V1 hHeld).1⟩
end Go.Proofs.YtglfdclpjmhoiaaGreat
