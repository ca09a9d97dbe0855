/- Parts of the proof, one behind the other: V8, V9, G4, G5, G6, G7, G8, Ft, GT. No condition but what each theorem states. -/
import Derived.Deep.DeepCutAuto
import Derived.Test.YtifcoalhkcflnaaGreatR13
import Derived.Test.YtifcoalhkcflnaaGreatR11
import Derived.Test.YtifcoalhkcflnaaGreatR6
import Derived.Test.YtifcoalhkcflnaaGreatR12
import Derived.Test.YtifcoalhkcflnaaGreatR8
import Derived.Test.YtifcoalhkcflnaaGreatR7

/- A trie in memory of its own (layer 7): walked. Printed by gen_v8.py. -/

namespace Go.Proofs.YtifcoalhkcflnaaGreat
open Go.RowKit Go.Sort
set_option linter.unusedVariables false
set_option linter.unusedSimpArgs false

set_option maxRecDepth 100000 in
set_option maxHeartbeats 8000000 in
theorem own7_any (t : TV) (T : TrieT) (w : World) (hT : Tri w t T) (hb : t.un ≤ 1000000 ∧ t.dn ≤ 1000000 ∧ t.xn ≤ 1000000 ∧ t.bn ≤ 1000000) :
    Calls Tryz.prog 27 #[.agg t.cells] w fun e w' => ∃ u : TV, e = .returned (.agg u.cells) ∧ Tri w' u T ∧ Below w.heap.size w w' := by
  obtain ⟨ua, un, uc, da, dn, dc, xa, xn, xc, ba, bn, bc⟩ := t
  dsimp only at hb
  obtain ⟨b1, b2, b3, b4⟩ := hb
  have hbd := Lib.hid hT.byt.2
  obtain ⟨W, hW⟩ : ∃ W, W = (w.alloc (.cells #[.slice ua un uc, .slice da dn dc, .slice xa xn xc, .slice ba bn bc] 28)).alloc (.cells nil4 28) := ⟨_, rfl⟩
  have hB1 : Below w.heap.size w W := by rw [hW]; exact (below_alloc _ _).alloc (by simp) _
  have hbx : W.heap[w.heap.size]? = some (.cells #[.slice ua un uc, .slice da dn dc, .slice xa xn xc, .slice ba bn bc] 28 (0, 0)) := by rw [hW]; exact (Below.heap_alloc _ _ _ (by simp)).trans (World.alloc_heap_new _ _)
  have hbz : W.heap[w.heap.size + 1]? = some (.cells nil4 28 (0, 0)) := by
    rw [hW]; exact alloc_at (w := w.alloc (.cells #[.slice ua un uc, .slice da dn dc, .slice xa xn xc, .slice ba bn bc] 28)) (n := w.heap.size + 1) (by simp) _
  have hT1 := hT.below hB1
  have HK : Hid (∀ V : World, Below W.heap.size W V → (V.cell? ⟨w.heap.size, 0, none⟩ = some (.slice ua un uc) ∧ V.cell? ⟨w.heap.size, 1, none⟩ = some (.slice da dn dc) ∧ V.cell? ⟨w.heap.size, 2, none⟩ = some (.slice xa xn xc) ∧ V.cell? ⟨w.heap.size, 3, none⟩ = some (.slice ba bn bc))) := fun V hV => by
    have e := (hV.block _ (Array.getElem?_eq_some_iff.1 hbx).1).trans hbx
    simp [World.cell?, e]
  have HZ : Hid (∀ V : World, Below W.heap.size W V → V.heap[w.heap.size + 1]? = some (.cells nil4 28 (0, 0))) := fun V hV => (hV.block _ (Array.getElem?_eq_some_iff.1 hbz).1).trans hbz
  have HQ : Hid (∀ V : World, Below W.heap.size W V → (∀ i, V.frozen? ⟨w.heap.size + 1, i, none⟩ = false) ∧ V.cell? ⟨w.heap.size + 1, 0, none⟩ = some (.slice none 0 0) ∧ V.cell? ⟨w.heap.size + 1, 1, none⟩ = some (.slice none 0 0) ∧ V.cell? ⟨w.heap.size + 1, 2, none⟩ = some (.slice none 0 0) ∧ V.cell? ⟨w.heap.size + 1, 3, none⟩ = some (.slice none 0 0)) := fun V hV => by
    have e := HZ.out V hV
    simp [World.cell?, World.frozen?, e]
  obtain ⟨i0, hi, hz0, hzz1, hzz2⟩ := info_parts i64_infoP
  obtain ⟨j0, hj, hy0, hy1, hy2⟩ := info_parts u8_info
  have hBd : Below W.heap.size W W.drew := (Below.refl _ _).drew
  obtain ⟨k0, k1, k2, k3⟩ := HK.out W (Below.refl _ _)
  clear hbx hbz
  go_enter Tryz.func27, Tryz.ntmps27
  go_upto_region 1 with fail
  rw [← hW]
  clear hW
  go_region_held3 (fun w' => w'.cell? ⟨w.heap.size, 0, none⟩ = some (.slice ua un uc) ∧ w'.cell? ⟨w.heap.size, 1, none⟩ = some (.slice da dn dc) ∧ w'.cell? ⟨w.heap.size, 2, none⟩ = some (.slice xa xn xc) ∧ w'.cell? ⟨w.heap.size, 3, none⟩ = some (.slice ba bn bc)) (first | (go_keep; done) | exact HK.out _ (by assumption)) (first
    | (refine step_append_sl1 (by rfl) _ _ 25 (by rfl) i64_one W.heap.size 3 i0 (.int .i64 0) 8 Tryz.underlying25 hi hz0 hzz1 hzz2 rfl (.slice none 0 0) 0 [] (by rfl) (World.ownsRow_nil _ _ _ _) ua un uc T.up (by rfl) ((hT1.below (by assumption)).up) (by unfold maxLen; omega) (by omega) (Below.size (by assumption)) ?_
       intro v1 w1 hown1 hg1 hat1
       have hB1' : Below W.heap.size W w1 := Below.grown (by assumption) hg1 (Below.size (by assumption)) (fun k e => by cases e)
       have hst1 := Below.grown (Below.refl _ _) hg1 (Nat.le_refl _) (fun k e => by cases e)
       rw [Nat.zero_add, List.nil_append] at hown1
       obtain ⟨A1, C1, rfl, hC1, hS1⟩ := own_sl1 (enc := Value.int .i64) (xs := T.up) hown1
       clear hat1 hg1
       obtain ⟨d11, d12, d13, d14⟩ := HK.out w1 hB1'
       obtain ⟨f10, f11, f12, f13, f14⟩ := HQ.out w1 hB1')
    | (refine step_append_sl1 (by rfl) _ _ 25 (by rfl) i64_one W.heap.size 3 i0 (.int .i64 0) 8 Tryz.underlying25 hi hz0 hzz1 hzz2 rfl (.slice none 0 0) 0 [] (by rfl) (World.ownsRow_nil _ _ _ _) da dn dc T.dep (by rfl) ((hT1.below (by assumption)).dep) (by unfold maxLen; omega) (by omega) (Below.size (by assumption)) ?_
       intro v2 w2 hown2 hg2 hat2
       have hB2' : Below W.heap.size W w2 := Below.grown (by assumption) hg2 (Below.size (by assumption)) (fun k e => by cases e)
       have hst2 := Below.grown (Below.refl _ _) hg2 (Nat.le_refl _) (fun k e => by cases e)
       rw [Nat.zero_add, List.nil_append] at hown2
       obtain ⟨A2, C2, rfl, hC2, hS2⟩ := own_sl1 (enc := Value.int .i64) (xs := T.dep) hown2
       clear hat2 hg2
       obtain ⟨d21, d22, d23, d24⟩ := HK.out w2 hB2'
       obtain ⟨f20, f21, f22, f23, f24⟩ := HQ.out w2 hB2')
    | (refine step_append_sl1 (by rfl) _ _ 25 (by rfl) i64_one W.heap.size 3 i0 (.int .i64 0) 8 Tryz.underlying25 hi hz0 hzz1 hzz2 rfl (.slice none 0 0) 0 [] (by rfl) (World.ownsRow_nil _ _ _ _) xa xn xc T.wrd (by rfl) ((hT1.below (by assumption)).wrd) (by unfold maxLen; omega) (by omega) (Below.size (by assumption)) ?_
       intro v3 w3 hown3 hg3 hat3
       have hB3' : Below W.heap.size W w3 := Below.grown (by assumption) hg3 (Below.size (by assumption)) (fun k e => by cases e)
       have hst3 := Below.grown (Below.refl _ _) hg3 (Nat.le_refl _) (fun k e => by cases e)
       rw [Nat.zero_add, List.nil_append] at hown3
       obtain ⟨A3, C3, rfl, hC3, hS3⟩ := own_sl1 (enc := Value.int .i64) (xs := T.wrd) hown3
       clear hat3 hg3
       obtain ⟨d31, d32, d33, d34⟩ := HK.out w3 hB3'
       obtain ⟨f30, f31, f32, f33, f34⟩ := HQ.out w3 hB3')
    | (refine step_append_sl1 (by rfl) _ _ 26 (by rfl) u8_one W.heap.size 5 j0 (.int .u8 0) 1 Tryz.underlying26 hj hy0 hy1 hy2 rfl (.slice none 0 0) 0 [] (by rfl) (World.ownsRow_nil _ _ _ _) ba bn bc T.byt (by rfl) ((hT1.below (by assumption)).byt.1) (by unfold maxLen; omega) (by omega) (Below.size (by assumption)) ?_
       intro v4 w4 hown4 hg4 hat4
       have hB4' : Below W.heap.size W w4 := Below.grown (by assumption) hg4 (Below.size (by assumption)) (fun k e => by cases e)
       have hst4 := Below.grown (Below.refl _ _) hg4 (Nat.le_refl _) (fun k e => by cases e)
       rw [Nat.zero_add, List.nil_append] at hown4
       obtain ⟨A4, C4, rfl, hC4, hS4⟩ := own_sl1 (enc := Value.int .u8) (xs := T.byt) hown4
       clear hat4 hg4
       obtain ⟨d41, d42, d43, d44⟩ := HK.out w4 hB4'
       obtain ⟨f40, f41, f42, f43, f44⟩ := HQ.out w4 hB4'))
  all_goals
    go_wp2
    have hz5' := set_at (i := 3) (set_at (i := 2) (set_at (i := 1) (set_at (i := 0) (HZ.out w4 hB4') (.slice A1 un C1)) (.slice A2 dn C2)) (.slice A3 xn C3)) (.slice A4 bn C4)
    have hWs : w.heap.size + 1 < W.heap.size := (Array.getElem?_eq_some_iff.1 (HZ.out W (Below.refl _ _))).1
    have mv : ∀ {e : TypeId} {n m c : Nat} {a : Option Addr} {xs : List Value}, w4.ownsRow W.heap.size e 1 (.slice a m c) n xs → ((((w4.setCell ⟨w.heap.size + 1, 0, none⟩ (.slice A1 un C1)).setCell ⟨w.heap.size + 1, 1, none⟩ (.slice A2 dn C2)).setCell ⟨w.heap.size + 1, 2, none⟩ (.slice A3 xn C3)).setCell ⟨w.heap.size + 1, 3, none⟩ (.slice A4 bn C4)).ownsRow W.heap.size e 1 (.slice a m c) n xs := fun h =>
      row_set (row_set (row_set (row_set h (by omega) _) (by omega) _) (by omega) _) (by omega) _
    have hr1 := mv (own_below_ (own_below_ (own_below_ hown1 hst2) hst3) hst4)
    have hr2 := mv (own_below_ (own_below_ hown2 hst3) hst4)
    have hr3 := mv (own_below_ hown3 hst4)
    have hr4 := mv hown4
    have hBf : Below w.heap.size w w4 := hB1.trans (hB4'.mono hB1.size)
    refine bodyPost_ret (results_trie1 rfl rfl (by simpa using hz5')) rfl ?_
    exact ⟨⟨A1, un, C1, A2, dn, C2, A3, xn, C3, A4, bn, C4⟩, rfl, ⟨own_sl hr1, own_sl hr2, own_sl hr3, ⟨own_sl hr4, hbd.out⟩, hC1, hC2, hC3, hC4⟩, (((hBf.setCell (by simp) _).setCell (by simp) _).setCell (by simp) _).setCell (by simp) _⟩

end Go.Proofs.YtifcoalhkcflnaaGreat

/- What the document says of he, she, her (layer 7): walked. -/




namespace Go.Proofs.YtifcoalhkcflnaaGreat
open Go.RowKit Go.Sort
set_option linter.unusedVariables false
set_option linter.unusedSimpArgs false

def heN : List (List Int) := [[], [104], [115], [104, 101], [115, 104], [104, 101, 114], [115, 104, 101]]
theorem he_right7 : rightP false heW = true := by decide +kernel
theorem he_nodes7 : nodesL heW = heN := by decide +kernel
theorem no_right : rightP false [] = false := by decide +kernel
def heT : TrieT := ⟨[0, 0, 0, 1, 2, 3, 4], [0, 1, 1, 2, 2, 3, 3], [-1, -1, -1, 0, -1, 2, 1], [0, 104, 115, 101, 104, 114, 101]⟩
theorem he_trie7 : trieP heW = heT := by
  unfold trieP
  rw [he_nodes7]
  rfl
theorem he_read7 : readP heT = some (heN, heW) := by
  have := readP_trie he_right7
  rwa [he_trie7, he_nodes7] at this
def noT : TrieT := ⟨[], [], [], []⟩
theorem no_read : readP noT = none := by decide +kernel
theorem he_find1 : findT heT [115, 104] = (4, true) := by unfold findT; rw [he_read7]; decide +kernel
theorem he_find2 : findT heT [] = (0, true) := by unfold findT; rw [he_read7]; decide +kernel
theorem he_find3 : findT heT [101] = (0, false) := by unfold findT; rw [he_read7]; decide +kernel
theorem he_spell1 : spellT heT 6 = some [115, 104, 101] := by unfold spellT; rw [he_read7]; rfl
theorem he_spell2 : spellT heT 7 = none := by unfold spellT; rw [he_read7]; rfl
theorem he_rightT : rightT heT = true := by unfold rightT; rw [he_read7]; rfl
theorem no_rightT : rightT noT = false := by unfold rightT; rw [no_read]; rfl
theorem he_manyT : manyT heT = 7 := by unfold manyT; rw [he_read7]; rfl
theorem no_manyT : manyT noT = 0 := by unfold manyT; rw [no_read]
theorem he_wordsT : wordsT heT = heW := by unfold wordsT; rw [he_read7]
theorem he_kid1 {r : Int} {ok : Bool} (h : KidR heT 3 114 r ok) : r = 5 ∧ ok = true := by
  have hk : IsKid heT 3 114 5 := by unfold IsKid; decide
  cases ok with
  | false => exact absurd hk ((h.2 rfl).2 5)
  | true =>
    obtain ⟨k, e, h1, h2, h3, h4⟩ := h.1 rfl
    have h2' : k < 7 := h2
    match k, h1, h2', h3, h4, e with
    | 1, _, _, h, _, _ => simp [heT] at h
    | 2, _, _, h, _, _ => simp [heT] at h
    | 3, _, _, h, _, _ => simp [heT] at h
    | 4, _, _, h, _, _ => simp [heT] at h
    | 5, _, _, _, _, e => exact ⟨e, rfl⟩
    | 6, _, _, h, _, _ => simp [heT] at h
theorem he_kid2 {r : Int} {ok : Bool} (h : KidR heT 3 120 r ok) : ok = false := by
  cases ok with
  | false => rfl
  | true =>
    exfalso
    obtain ⟨k, e, h1, h2, h3, h4⟩ := h.1 rfl
    have h2' : k < 7 := h2
    match k, h1, h2', h3, h4, e with
    | 1, _, _, h, _, _ => simp [heT] at h
    | 2, _, _, h, _, _ => simp [heT] at h
    | 3, _, _, h, _, _ => simp [heT] at h
    | 4, _, _, h, _, _ => simp [heT] at h
    | 5, _, _, _, h, _ => simp [heT] at h
    | 6, _, _, h, _, _ => simp [heT] at h

set_option maxRecDepth 100000 in
set_option maxHeartbeats 1000000 in
theorem three_any (w : World) : Calls Tryz.prog 53 #[] w fun e w' => ∃ a, e = .returned (.agg (setV false (some a) 3 3)) ∧ Wds w' (some a) 3 heW ∧ Below w.heap.size w w' := by
  have kc := conv_lit
  go_enter Tryz.func53, Tryz.ntmps53
  go_wp2
  obtain ⟨A1, hA1⟩ : ∃ A1, A1 = w.alloc (.cells #[.bool false, .slice (some ⟨w.heap.size + 1 + 1 + 1 + 1, 0, none⟩) 3 3] 24) := ⟨_, rfl⟩
  rw [← hA1]
  have z1 : A1.heap.size = w.heap.size + 1 := by rw [hA1]; simp
  have n1 : A1.heap[w.heap.size]? = some (.cells #[.bool false, .slice (some ⟨w.heap.size + 1 + 1 + 1 + 1, 0, none⟩) 3 3] 24 (0, 0)) := by rw [hA1]; exact World.alloc_heap_new _ _
  have B1 : Below w.heap.size w A1 := by rw [hA1]; exact below_alloc _ _
  clear hA1
  obtain ⟨A2, hA2⟩ : ∃ A2, A2 = A1.alloc (.cells #[.int .u8 104, .int .u8 101] 5 (2, 3)) := ⟨_, rfl⟩
  rw [← hA2]
  have z2 : A2.heap.size = w.heap.size + 1 + 1 := by rw [hA2]; simp [z1]
  have y1 : Bys A2 (some ⟨w.heap.size + 1, 0, none⟩) 2 [104, 101] := by rw [hA2]; exact bys_lay [104, 101] (by simp) _ _ z1
  have B2 : Below A1.heap.size A1 A2 := by rw [hA2]; exact below_alloc _ _
  clear hA2
  obtain ⟨A3, hA3⟩ : ∃ A3, A3 = A2.alloc (.cells #[.int .u8 115, .int .u8 104, .int .u8 101] 5 (3, 4)) := ⟨_, rfl⟩
  rw [← hA3]
  have z3 : A3.heap.size = w.heap.size + 1 + 1 + 1 := by rw [hA3]; simp [z2]
  have y2 : Bys A3 (some ⟨w.heap.size + 1 + 1, 0, none⟩) 3 [115, 104, 101] := by rw [hA3]; exact bys_lay [115, 104, 101] (by simp) _ _ z2
  have B3 : Below A2.heap.size A2 A3 := by rw [hA3]; exact below_alloc _ _
  clear hA3
  obtain ⟨A4, hA4⟩ : ∃ A4, A4 = A3.alloc (.cells #[.int .u8 104, .int .u8 101, .int .u8 114] 5 (3, 4)) := ⟨_, rfl⟩
  rw [← hA4]
  have z4 : A4.heap.size = w.heap.size + 1 + 1 + 1 + 1 := by rw [hA4]; simp [z3]
  have y3 : Bys A4 (some ⟨w.heap.size + 1 + 1 + 1, 0, none⟩) 3 [104, 101, 114] := by rw [hA4]; exact bys_lay [104, 101, 114] (by simp) _ _ z3
  have B4 : Below A3.heap.size A3 A4 := by rw [hA4]; exact below_alloc _ _
  clear hA4
  obtain ⟨A5, hA5⟩ : ∃ A5, A5 = A4.alloc (.cells #[.slice (some ⟨w.heap.size + 1, 0, none⟩) 2 2, .slice (some ⟨w.heap.size + 1 + 1, 0, none⟩) 3 3, .slice (some ⟨w.heap.size + 1 + 1 + 1, 0, none⟩) 3 3] 26) := ⟨_, rfl⟩
  rw [← hA5]
  have y4 : Sl1 (fun v : Option Addr × Nat × Nat => Value.slice v.1 v.2.1 v.2.2) A5 (some ⟨w.heap.size + 1 + 1 + 1 + 1, 0, none⟩) 3 [(some ⟨w.heap.size + 1, 0, none⟩, 2, 2), (some ⟨w.heap.size + 1 + 1, 0, none⟩, 3, 3), (some ⟨w.heap.size + 1 + 1 + 1, 0, none⟩, 3, 3)] := by
    rw [hA5]
    exact Sl1.lay (α := Option Addr × Nat × Nat) _ A4 [(some ⟨w.heap.size + 1, 0, none⟩, 2, 2), (some ⟨w.heap.size + 1 + 1, 0, none⟩, 3, 3), (some ⟨w.heap.size + 1 + 1 + 1, 0, none⟩, 3, 3)] _ _ z4
  have B5 : Below A4.heap.size A4 A5 := by rw [hA5]; exact below_alloc _ _
  clear hA5
  have n5 : A5.heap[w.heap.size]? = _ := (B5.block _ (by omega)).trans ((B4.block _ (by omega)).trans ((B3.block _ (by omega)).trans ((B2.block _ (by omega)).trans n1)))
  refine bodyPost_ret (results_cell_row rfl _ _ w.heap.size _ _ _ _ rfl n5 Tryz.underlying24 rfl (by kernel_rfl)) rfl ⟨_, rfl, ?_, ?_⟩
  · exact wds3 y4 (((y1.below B3).below B4).below B5) ((y2.below B4).below B5) (y3.below B5) (Nat.le_refl _) (Nat.le_refl _) (Nat.le_refl _)
  · exact B1.trans ((B2.trans ((B3.trans ((B4.trans (B5.mono (by omega))).mono (by omega))).mono (by omega))).mono (by omega))


theorem tri_cells {W : World} {p : Nat} {t : TV} (h : W.heap[p]? = some (.cells t.cells 28 (0, 0))) : W.cell? ⟨p, 0, none⟩ = some (.slice t.ua t.un t.uc) ∧ W.cell? ⟨p, 1, none⟩ = some (.slice t.da t.dn t.dc) ∧ W.cell? ⟨p, 2, none⟩ = some (.slice t.xa t.xn t.xc) ∧ W.cell? ⟨p, 3, none⟩ = some (.slice t.ba t.bn t.bc) := by
  simp [World.cell?, h]
/-- What lies there all the way. -/
def SK7 (wz : World) (p q bb off : Nat) (ua : Option Addr) (un uc : Nat) (da : Option Addr) (dn dc : Nat) (xa : Option Addr) (xn xc : Nat) (ba : Option Addr) (bn bc : Nat) (va : Option Addr) (vn vc : Nat) (ea : Option Addr) (en ec : Nat) (ya : Option Addr) (yn yc : Nat) (fa : Option Addr) (fn fc : Nat) (sa : Option Addr) (sc : Nat) (a' : Option Addr) (c' : Nat) (V : World) : Prop :=
  (V.cell? ⟨p, 0, none⟩ = some (.slice ua un uc) ∧ V.cell? ⟨p, 1, none⟩ = some (.slice da dn dc) ∧ V.cell? ⟨p, 2, none⟩ = some (.slice xa xn xc) ∧ V.cell? ⟨p, 3, none⟩ = some (.slice ba bn bc)) ∧
      (V.cell? ⟨q, 0, none⟩ = some (.slice va vn vc) ∧ V.cell? ⟨q, 1, none⟩ = some (.slice ea en ec) ∧ V.cell? ⟨q, 2, none⟩ = some (.slice ya yn yc) ∧ V.cell? ⟨q, 3, none⟩ = some (.slice fa fn fc)) ∧ V.cell? ⟨bb, off + 1, none⟩ = some (.slice a' 3 c') ∧
      Sem.run Tryz.prog (convert 26 9 (.slice sa 3 sc)) V = .ok (.string ⟨#[115, 104, 101]⟩) V ∧ Sem.run Tryz.prog (convert 26 9 (.slice a' 3 c')) V = .ok (.string ⟨#[115, 104, 101]⟩) V ∧ Below wz.heap.size wz V

theorem noTV (W : World) : Tri W ⟨none, 0, 0, none, 0, 0, none, 0, 0, none, 0, 0⟩ noT :=
  ⟨⟨rfl, .inl rfl⟩, ⟨rfl, .inl rfl⟩, ⟨rfl, .inl rfl⟩, Bys.nil _ _, Nat.le_refl _, Nat.le_refl _, Nat.le_refl _, Nat.le_refl _⟩

set_option maxRecDepth 100000 in
set_option maxHeartbeats 8000000 in
theorem wakes7 (w : World) : Calls Tryz.prog 9 #[] w fun e w' => e = .returned (.bool true) ∧ Below w.heap.size w w' := by
  go_enter Tryz.func9, Tryz.ntmps9
  go_wp2_with fail
  refine (three_any _).mono ?_
  rintro e w1 ⟨a, rfl, hW, hb1⟩
  go_wp2_with fail
  refine (make7_yes false (some a) 3 3 heW w1 hW (by decide) he_len he_beg he_right7).mono ?_
  rintro e w2 ⟨t, rfl, hT, hb2⟩
  rw [he_trie7] at hT
  have hB2 : Below w.heap.size w w2 := hb1.trans (hb2.mono hb1.size)
  have hun : t.un ≤ 140737488351232 := by have : 7 = t.un := hT.up.1; omega
  obtain ⟨ua, un, uc, da, dn, dc, xa, xn, xc, ba, bn, bc⟩ := t
  go_upto_region 2 with fail
  obtain ⟨w3, hw3⟩ : ∃ w3, w3 = w2.alloc (.cells #[.slice ua un uc, .slice da dn dc, .slice xa xn xc, .slice ba bn bc] 28) := ⟨_, rfl⟩
  have hO3 : w3.heap[w2.heap.size]? = some (.cells #[.slice ua un uc, .slice da dn dc, .slice xa xn xc, .slice ba bn bc] 28 (0, 0)) := by rw [hw3]; exact World.alloc_heap_new _ _
  have hb3 : Below w2.heap.size w2 w3 := by rw [hw3]; exact below_alloc _ _
  rw [← hw3]
  clear hw3
  have hB3 := hB2.trans (hb3.mono hB2.size)
  have hT3 := hT.below hb3
  obtain ⟨p, hp⟩ : ∃ p, w2.heap.size = p := ⟨_, rfl⟩
  rw [hp] at hO3 ⊢
  clear hp hT hb2 hb3 hB2 hW hb1
  have HC : Hid (∀ V, Below w3.heap.size w3 V → V.cell? ⟨p, 0, none⟩ = some (.slice ua un uc) ∧ V.cell? ⟨p, 1, none⟩ = some (.slice da dn dc) ∧ V.cell? ⟨p, 2, none⟩ = some (.slice xa xn xc) ∧ V.cell? ⟨p, 3, none⟩ = some (.slice ba bn bc)) := fun V hV => by
    have e := (hV.block _ (Array.getElem?_eq_some_iff.1 hO3).1).trans hO3
    simp [World.cell?, e]
  have HT := Lib.hid hT3
  have HUN := Lib.hid hun
  clear hT3 hO3 hun
  go_wp2_with fail
  refine (make7_no false none 0 0 [] w3 (Wds.nil _ _) (by decide) (by simp) (by decide) no_right).mono ?_
  rintro e w4 ⟨rfl, hb4⟩
  go_upto_region 3 with fail
  obtain ⟨w5, hw5⟩ : ∃ w5, w5 = w4.alloc (.cells nil4 28) := ⟨_, rfl⟩
  have hB5 : Below w3.heap.size w3 w5 := by rw [hw5]; exact hb4.alloc hb4.size _
  rw [← hw5]
  clear hw5
  obtain ⟨c0, c1, c2, c3⟩ := HC.out w5 hB5
  go_wp2_with fail
  refine (tkid_any ⟨ua, un, uc, da, dn, dc, xa, xn, xc, ba, bn, bc⟩ heT 3 114 w5 (HT.out.below hB5) HUN.out).mono ?_
  rintro e w6 ⟨r1, ok1, rfl, hk1, _, hb6⟩
  obtain ⟨rfl, rfl⟩ := he_kid1 (hk1 he_rightT)
  clear hk1
  have hB6 : Below w3.heap.size w3 w6 := hB5.trans (hb6.mono hB5.size)
  clear c0 c1 c2 c3 hb6
  obtain ⟨c0, c1, c2, c3⟩ := HC.out w6 hB6
  go_wp2_with fail
  refine (tkid_any ⟨ua, un, uc, da, dn, dc, xa, xn, xc, ba, bn, bc⟩ heT 3 120 w6 (HT.out.below hB6) HUN.out).mono ?_
  rintro e w7 ⟨r2, ok2, rfl, hk2, _, hb7⟩
  obtain rfl := he_kid2 (hk2 he_rightT)
  clear hk2
  have hB7 : Below w3.heap.size w3 w7 := hB6.trans (hb7.mono hB6.size)
  clear c0 c1 c2 c3 hb7
  obtain ⟨c0, c1, c2, c3⟩ := HC.out w7 hB7
  have hB8 : Below w3.heap.size w3 (w7.alloc (.cells #[.int .u8 115, .int .u8 104] 5)) := hB7.alloc hB7.size _
  go_wp2_with fail
  refine (tfind_any ⟨ua, un, uc, da, dn, dc, xa, xn, xc, ba, bn, bc⟩ heT (some ⟨w7.heap.size, 0, none⟩) 2 2 [115, 104] _ (HT.out.below hB8) HUN.out (bys_lay [115, 104] (by decide) _ _ rfl)).mono ?_
  rintro e w9 ⟨rfl, hb9⟩
  rw [he_find1]
  have hB9 : Below w3.heap.size w3 w9 := hB8.trans (hb9.mono hB8.size)
  clear c0 c1 c2 c3 hb9
  obtain ⟨c0, c1, c2, c3⟩ := HC.out w9 hB9
  go_wp2_with fail
  refine (tfind_any ⟨ua, un, uc, da, dn, dc, xa, xn, xc, ba, bn, bc⟩ heT none 0 0 [] w9 (HT.out.below hB9) HUN.out (Bys.nil _ _)).mono ?_
  rintro e w10 ⟨rfl, hb10⟩
  rw [he_find2]
  have hB10 : Below w3.heap.size w3 w10 := hB9.trans (hb10.mono hB9.size)
  clear c0 c1 c2 c3 hb10
  obtain ⟨c0, c1, c2, c3⟩ := HC.out w10 hB10
  have hB11 : Below w3.heap.size w3 (w10.alloc (.cells #[.int .u8 101] 5)) := hB10.alloc hB10.size _
  go_wp2_with fail
  refine (tfind_any ⟨ua, un, uc, da, dn, dc, xa, xn, xc, ba, bn, bc⟩ heT (some ⟨w10.heap.size, 0, none⟩) 1 1 [101] _ (HT.out.below hB11) HUN.out (bys_lay [101] (by decide) _ _ rfl)).mono ?_
  rintro e w12 ⟨rfl, hb12⟩
  rw [he_find3]
  have hB12 : Below w3.heap.size w3 w12 := hB11.trans (hb12.mono hB11.size)
  clear c0 c1 c2 c3 hb12
  obtain ⟨c0, c1, c2, c3⟩ := HC.out w12 hB12
  go_wp2_with fail
  refine (tspell_any ⟨ua, un, uc, da, dn, dc, xa, xn, xc, ba, bn, bc⟩ heT 6 w12 (HT.out.below hB12) HUN.out).mono ?_
  rintro e w13 ⟨hs1, _, hb13⟩
  obtain ⟨sa, sc, rfl, hSB, hsc⟩ := hs1 _ he_spell1
  clear hs1
  have hB13 : Below w3.heap.size w3 w13 := hB12.trans (hb13.mono hB12.size)
  clear c0 c1 c2 c3 hb13
  obtain ⟨c0, c1, c2, c3⟩ := HC.out w13 hB13
  go_wp2_with fail
  refine (tspell_any ⟨ua, un, uc, da, dn, dc, xa, xn, xc, ba, bn, bc⟩ heT 7 w13 (HT.out.below hB13) HUN.out).mono ?_
  rintro e w14 ⟨_, hs2, hb14⟩
  obtain rfl := hs2 he_spell2
  clear hs2
  have hSB2 := hSB.below hb14
  clear hSB
  have hB14 : Below w3.heap.size w3 w14 := hB13.trans (hb14.mono hB13.size)
  clear c0 c1 c2 c3 hb14
  obtain ⟨c0, c1, c2, c3⟩ := HC.out w14 hB14
  have kc := conv_lit
  go_upto_region 11 with fail
  clear kc
  clear c0 c1 c2 c3
  obtain ⟨A1, hA1⟩ : ∃ A, A = w14.alloc (.cells #[.int .i64 0, .int .i64 0, .int .i64 0, .int .i64 1, .int .i64 2, .int .i64 3, .int .i64 4] 3) := ⟨_, rfl⟩
  rw [← hA1]
  have z1 : A1.heap.size = w14.heap.size + 1 := by rw [hA1]; simp
  have y1 : Sl1 (Value.int .i64) A1 (some ⟨w14.heap.size, 0, none⟩) 7 [0, 0, 0, 1, 2, 3, 4] := by rw [hA1]; exact Sl1.lay (Value.int .i64) w14 [0, 0, 0, 1, 2, 3, 4] _ _ rfl
  have G1 : Below w14.heap.size w14 A1 := by rw [hA1]; exact below_alloc _ _
  clear hA1
  obtain ⟨A2, hA2⟩ : ∃ A, A = A1.alloc (.cells #[.int .i64 0, .int .i64 1, .int .i64 1, .int .i64 2, .int .i64 2, .int .i64 3, .int .i64 3] 3) := ⟨_, rfl⟩
  rw [← hA2]
  have z2 : A2.heap.size = w14.heap.size + 1 + 1 := by rw [hA2]; simp [z1]
  have y2 : Sl1 (Value.int .i64) A2 (some ⟨w14.heap.size + 1, 0, none⟩) 7 [0, 1, 1, 2, 2, 3, 3] := by rw [hA2]; exact Sl1.lay (Value.int .i64) A1 [0, 1, 1, 2, 2, 3, 3] _ _ z1
  have G2 : Below A1.heap.size A1 A2 := by rw [hA2]; exact below_alloc _ _
  clear hA2
  obtain ⟨A3, hA3⟩ : ∃ A, A = A2.alloc (.cells #[.int .i64 (-1), .int .i64 (-1), .int .i64 (-1), .int .i64 0, .int .i64 (-1), .int .i64 2, .int .i64 1] 3) := ⟨_, rfl⟩
  rw [← hA3]
  have z3 : A3.heap.size = w14.heap.size + 1 + 1 + 1 := by rw [hA3]; simp [z2]
  have y3 : Sl1 (Value.int .i64) A3 (some ⟨w14.heap.size + 1 + 1, 0, none⟩) 7 [-1, -1, -1, 0, -1, 2, 1] := by rw [hA3]; exact Sl1.lay (Value.int .i64) A2 [-1, -1, -1, 0, -1, 2, 1] _ _ z2
  have G3 : Below A2.heap.size A2 A3 := by rw [hA3]; exact below_alloc _ _
  clear hA3
  obtain ⟨A4, hA4⟩ : ∃ A, A = A3.alloc (.cells #[.int .u8 0, .int .u8 104, .int .u8 115, .int .u8 101, .int .u8 104, .int .u8 114, .int .u8 101] 5 (7, 8)) := ⟨_, rfl⟩
  rw [← hA4]
  have z4 : A4.heap.size = w14.heap.size + 1 + 1 + 1 + 1 := by rw [hA4]; simp [z3]
  have y4 : Bys A4 (some ⟨w14.heap.size + 1 + 1 + 1, 0, none⟩) 7 [0, 104, 115, 101, 104, 114, 101] := by rw [hA4]; exact bys_lay [0, 104, 115, 101, 104, 114, 101] (by decide) _ _ z3
  have G4 : Below A3.heap.size A3 A4 := by rw [hA4]; exact below_alloc _ _
  clear hA4
  obtain ⟨A5, hA5⟩ : ∃ A, A = A4.alloc (.cells #[.slice (some ⟨w14.heap.size, 0, none⟩) 7 7, .slice (some ⟨w14.heap.size + 1, 0, none⟩) 7 7, .slice (some ⟨w14.heap.size + 1 + 1, 0, none⟩) 7 7, .slice (some ⟨w14.heap.size + 1 + 1 + 1, 0, none⟩) 7 7] 28) := ⟨_, rfl⟩
  rw [← hA5]
  have G5 : Below A4.heap.size A4 A5 := by rw [hA5]; exact below_alloc _ _
  have n5 : A5.heap[w14.heap.size + 1 + 1 + 1 + 1]? = some (.cells (TV.mk (some ⟨w14.heap.size, 0, none⟩) 7 7 (some ⟨w14.heap.size + 1, 0, none⟩) 7 7 (some ⟨w14.heap.size + 1 + 1, 0, none⟩) 7 7 (some ⟨w14.heap.size + 1 + 1 + 1, 0, none⟩) 7 7).cells 28 (0, 0)) := by rw [hA5]; exact alloc_at z4 _
  clear hA5
  have hU5 : Tri A5 (TV.mk (some ⟨w14.heap.size, 0, none⟩) 7 7 (some ⟨w14.heap.size + 1, 0, none⟩) 7 7 (some ⟨w14.heap.size + 1 + 1, 0, none⟩) 7 7 (some ⟨w14.heap.size + 1 + 1 + 1, 0, none⟩) 7 7) heT :=
    ⟨((((y1.below G2).below G3).below G4).below G5), ((y2.below G3).below G4).below G5, (y3.below G4).below G5, y4.below G5, Nat.le_refl _, Nat.le_refl _, Nat.le_refl _, Nat.le_refl _⟩
  have g45 : Below w14.heap.size w14 A5 := G1.trans ((G2.trans ((G3.trans ((G4.trans (G5.mono (by omega))).mono (by omega))).mono (by omega))).mono (by omega))
  clear y1 y2 y3 y4 G1 G2 G3 G4 G5 z1 z2 z3
  have hBA : Below w3.heap.size w3 A5 := hB14.trans (g45.mono hB14.size)
  have hSA := hSB2.below g45
  clear hSB2 g45 hB5 hB6 hB7 hB8 hB9 hB10 hB11 hB12 hB13 hB14 hb4
  obtain ⟨q, hq⟩ : ∃ q, q = w14.heap.size + 1 + 1 + 1 + 1 := ⟨_, rfl⟩
  rw [← hq] at n5 ⊢
  obtain ⟨u, hu⟩ : ∃ u, u = TV.mk (some ⟨w14.heap.size, 0, none⟩) 7 7 (some ⟨w14.heap.size + 1, 0, none⟩) 7 7 (some ⟨w14.heap.size + 1 + 1, 0, none⟩) 7 7 (some ⟨w14.heap.size + 1 + 1 + 1, 0, none⟩) 7 7 := ⟨_, rfl⟩
  rw [← hu] at n5 hU5
  clear hq hu z4
  obtain ⟨va, vn, vc, ea, en, ec, ya, yn, yc, fa, fn, fc⟩ := u
  obtain ⟨c0, c1, c2, c3⟩ := HC.out A5 hBA
  go_cut [20] from 21 (fun s wx => ∃ wa wcp, s = .slice wa 3 wcp ∧ Wds wx wa 3 heW ∧ Below A5.heap.size A5 wx)
  case first =>
    go_wp2_with fail
    refine (twords_any ⟨ua, un, uc, da, dn, dc, xa, xn, xc, ba, bn, bc⟩ heT A5 (HT.out.below hBA) HUN.out).mono ?_
    rintro e wz ⟨wa, wcp, rfl, hWz, hwc, hbz⟩
    rw [he_wordsT] at hWz hwc ⊢
    have e33 : heW.length = 3 := rfl
    rw [e33] at hWz hwc ⊢
    clear e33
    go_wp2_with fail
    go_meet
    exact ⟨wa, wcp, rfl, hWz, hbz⟩
  case rest =>
  obtain ⟨wz, hwz⟩ : ∃ z, z = wc := ⟨_, rfl⟩
  subst hwz
  obtain ⟨wa, wcp, rfl, hWz, hbz⟩ := hcut
  have hBz : Below w3.heap.size w3 wz := hBA.trans (hbz.mono hBA.size)
  have hSz := hSA.below hbz
  have hUz := hU5.below hbz
  have nz := (hbz.block _ (Array.getElem?_eq_some_iff.1 n5).1).trans n5
  clear c0 c1 c2 c3 hSA hU5 n5 hBA hbz
  obtain ⟨bb, off, a', l', c', x, rfl, hbl, hcell, hx, hX, hlc⟩ := hWz.at_ (k := 1) (by decide)
  obtain rfl : [115, 104, 101] = x := Option.some.inj hx
  have hTz := HT.out.below hBz
  have hBfin : Below w.heap.size w wz := hB3.trans (hBz.mono hB3.size)
  clear hx hWz
  have HCZ : Hid (∀ V, Below wz.heap.size wz V → (V.cell? ⟨p, 0, none⟩ = some (.slice ua un uc) ∧ V.cell? ⟨p, 1, none⟩ = some (.slice da dn dc) ∧ V.cell? ⟨p, 2, none⟩ = some (.slice xa xn xc) ∧ V.cell? ⟨p, 3, none⟩ = some (.slice ba bn bc)) ∧
      (V.cell? ⟨q, 0, none⟩ = some (.slice va vn vc) ∧ V.cell? ⟨q, 1, none⟩ = some (.slice ea en ec) ∧ V.cell? ⟨q, 2, none⟩ = some (.slice ya yn yc) ∧ V.cell? ⟨q, 3, none⟩ = some (.slice fa fn fc)) ∧ V.cell? ⟨bb, off + 1, none⟩ = some (.slice a' l' c')) := fun V hV => by
    refine ⟨HC.out V (hBz.trans (hV.mono hBz.size)), ?_, (hV.cell (p := ⟨bb, off + 1, none⟩) hbl).trans hcell⟩
    have e := (hV.block _ (Array.getElem?_eq_some_iff.1 nz).1).trans nz
    simp [World.cell?, e]
  have l1 : 7 = un := hTz.up.1
  have l2 : 7 = dn := hTz.dep.1
  have l3 : 7 = xn := hTz.wrd.1
  have l4 : 7 = bn := hTz.byt.1.1
  have l5 : 3 = l' := hX.len
  subst l5
  have e3 : strOfNums [115, 104, 101] = ⟨#[115, 104, 101]⟩ := by rfl
  have HSK : Hid (∀ V, Below wz.heap.size wz V → SK7 wz p q bb off ua un uc da dn dc xa xn xc ba bn bc va vn vc ea en ec ya yn yc fa fn fc sa sc a' c' V) := fun V hV => by
    obtain ⟨h1, h2, h3⟩ := HCZ.out V hV
    have g1 := conv_bys (hSz.below hV) sc
    have g2 := conv_bys (hX.below hV) c'
    rw [e3] at g1 g2
    exact ⟨h1, h2, h3, g1, g2, hV⟩
  have H1 : Hid (∀ V, Below wz.heap.size wz V → Calls Tryz.prog 16 #[.agg #[.slice ua un uc, .slice da dn dc, .slice xa xn xc, .slice ba bn bc], .agg #[.slice va vn vc, .slice ea en ec, .slice ya yn yc, .slice fa fn fc]] V fun e w' => e = .returned (.bool true) ∧ Below wz.heap.size wz w') := fun V hV =>
    (rsame7_any ⟨ua, un, uc, da, dn, dc, xa, xn, xc, ba, bn, bc⟩ ⟨va, vn, vc, ea, en, ec, ya, yn, yc, fa, fn, fc⟩ heT heT V (hTz.below hV) (hUz.below hV) (by dsimp only; omega)).mono fun e w' ⟨e1, e2⟩ => ⟨by rw [e1, eqT_iff.2 rfl], hV.trans (e2.mono hV.size)⟩
  have H2 : Hid (∀ V, Below wz.heap.size wz V → Calls Tryz.prog 24 #[.agg #[.slice ua un uc, .slice da dn dc, .slice xa xn xc, .slice ba bn bc]] V fun e w' => e = .returned (.int .i64 7) ∧ Below wz.heap.size wz w') := fun V hV =>
    (tmany_any ⟨ua, un, uc, da, dn, dc, xa, xn, xc, ba, bn, bc⟩ heT V (hTz.below hV) (by dsimp only; omega)).mono fun e w' ⟨e1, e2⟩ => ⟨by rw [e1, he_manyT], hV.trans (e2.mono hV.size)⟩
  have H3 : Hid (∀ V, Below wz.heap.size wz V → Calls Tryz.prog 22 #[.agg #[.slice ua un uc, .slice da dn dc, .slice xa xn xc, .slice ba bn bc]] V fun e w' => e = .returned (.bool true) ∧ Below wz.heap.size wz w') := fun V hV =>
    (tright_any ⟨ua, un, uc, da, dn, dc, xa, xn, xc, ba, bn, bc⟩ heT V (hTz.below hV) (by dsimp only; omega)).mono fun e w' ⟨e1, e2⟩ => ⟨by rw [e1, he_rightT], hV.trans (e2.mono hV.size)⟩
  have H4 : Hid (∀ V, Below wz.heap.size wz V → Calls Tryz.prog 22 #[.agg nil4] V fun e w' => e = .returned (.bool false) ∧ Below wz.heap.size wz w') := fun V hV =>
    (tright_any ⟨none, 0, 0, none, 0, 0, none, 0, 0, none, 0, 0⟩ noT V (noTV V) (by dsimp only; omega)).mono fun e w' ⟨e1, e2⟩ => ⟨by rw [e1, no_rightT], hV.trans (e2.mono hV.size)⟩
  have H5 : Hid (∀ V, Below wz.heap.size wz V → Calls Tryz.prog 24 #[.agg nil4] V fun e w' => e = .returned (.int .i64 0) ∧ Below wz.heap.size wz w') := fun V hV =>
    (tmany_any ⟨none, 0, 0, none, 0, 0, none, 0, 0, none, 0, 0⟩ noT V (noTV V) (by dsimp only; omega)).mono fun e w' ⟨e1, e2⟩ => ⟨by rw [e1, no_manyT], hV.trans (e2.mono hV.size)⟩
  have H6 : Hid (∀ V, Below wz.heap.size wz V → Calls Tryz.prog 26 #[.agg #[.slice ua un uc, .slice da dn dc, .slice xa xn xc, .slice ba bn bc], .agg nil4] V fun e w' => e = .returned (.bool false) ∧ Below wz.heap.size wz w') := fun V hV =>
    (tsame_any ⟨ua, un, uc, da, dn, dc, xa, xn, xc, ba, bn, bc⟩ ⟨none, 0, 0, none, 0, 0, none, 0, 0, none, 0, 0⟩ heT noT V (hTz.below hV) (noTV V) (by dsimp only; omega)).mono fun e w' ⟨e1, e2⟩ => ⟨by rw [e1]; rfl, hV.trans (e2.mono hV.size)⟩
  have H7 : Hid (∀ V, Below wz.heap.size wz V → Calls Tryz.prog 27 #[.agg #[.slice ua un uc, .slice da dn dc, .slice xa xn xc, .slice ba bn bc]] V fun e w' => ∃ u : TV, e = .returned (.agg u.cells) ∧ Tri w' u heT ∧ Below wz.heap.size wz w') := fun V hV =>
    (own7_any ⟨ua, un, uc, da, dn, dc, xa, xn, xc, ba, bn, bc⟩ heT V (hTz.below hV) (by dsimp only; omega)).mono fun e w' ⟨u, e1, e2, e3⟩ => ⟨u, e1, e2, hV.trans (e3.mono hV.size)⟩
  have H8 : Hid (∀ V u, Below wz.heap.size wz V → Tri V u heT → Calls Tryz.prog 26 #[.agg u.cells, .agg #[.slice ua un uc, .slice da dn dc, .slice xa xn xc, .slice ba bn bc]] V fun e w' => e = .returned (.bool true) ∧ Below wz.heap.size wz w') := fun V u hV hu =>
    (tsame_any u ⟨ua, un, uc, da, dn, dc, xa, xn, xc, ba, bn, bc⟩ heT heT V hu (hTz.below hV) (by
      have m1 : 7 = u.un := hu.up.1
      have m2 : 7 = u.dn := hu.dep.1
      have m3 : 7 = u.xn := hu.wrd.1
      have m4 : 7 = u.bn := hu.byt.1.1
      omega)).mono fun e w' ⟨e1, e2⟩ => ⟨by rw [e1, eqT_iff.2 rfl], hV.trans (e2.mono hV.size)⟩
  have hBel := Below.refl wz.heap.size wz
  have HFIN := Lib.hid hBfin
  clear hTz hUz hSz nz hX hBz hBfin hcell l1 l2 l3 l4 e3
  have hbeld : Below wz.heap.size wz wz.drew := hBel.drew
  go_wp2
  clear HC HT HUN HCZ
  simp only [List.append_eq, List.cons_append, List.nil_append]
  refine wp_region_noPanic ?_
  refine wp_region_held_drew (S := SK7 wz p q bb off ua un uc da dn dc xa xn xc ba bn bc va vn vc ea en ec ya yn yc fa fn fc sa sc a' c') (by as_aux_lemma => kernel_rfl) ?_ (fun hHeld => ?_)
  · exact HSK.out _ (by assumption)
  refine wpAnyH_take (i := 0) (v := ?_) (by simp only [List.getElem?_toArray, List.getElem?_cons_zero, List.getElem?_cons_succ]; rfl) (by as_aux_lemma => kernel_rfl) (by as_aux_lemma => kernel_rfl) (by as_aux_lemma => kernel_rfl) (fun _ _ _ h => h) (Or.inl ⟨by rfl, ?_⟩) (by assumption) ?_
  rotate_left
  · intro V hV
    obtain ⟨⟨k0, k1, k2, k3⟩, ⟨k4, k5, k6, k7⟩, k8, k9, k10, _⟩ := hV
    first | (go_simp; done) | (go_simp; with_reducible rfl)
  try simp only [Act.put, List.setIfInBounds_toArray, List.set_cons_zero, List.set_cons_succ]
  refine wpAnyH_take (i := 1) (v := ?_) (by simp only [List.getElem?_toArray, List.getElem?_cons_zero, List.getElem?_cons_succ]; rfl) (by as_aux_lemma => kernel_rfl) (by as_aux_lemma => kernel_rfl) (by as_aux_lemma => kernel_rfl) (fun _ _ _ h => h) (Or.inl ⟨by rfl, ?_⟩) (by assumption) ?_
  rotate_left
  · intro V hV
    obtain ⟨⟨k0, k1, k2, k3⟩, ⟨k4, k5, k6, k7⟩, k8, k9, k10, _⟩ := hV
    first | (go_simp; done) | (go_simp; with_reducible rfl)
  try simp only [Act.put, List.setIfInBounds_toArray, List.set_cons_zero, List.set_cons_succ]
  refine wpAnyH_take (i := 2) (v := ?_) (by simp only [List.getElem?_toArray, List.getElem?_cons_zero, List.getElem?_cons_succ]; rfl) (by as_aux_lemma => kernel_rfl) (by as_aux_lemma => kernel_rfl) (by as_aux_lemma => kernel_rfl) (fun _ _ _ h => h) (Or.inl ⟨by rfl, ?_⟩) (by assumption) ?_
  rotate_left
  · intro V hV
    obtain ⟨⟨k0, k1, k2, k3⟩, ⟨k4, k5, k6, k7⟩, k8, k9, k10, _⟩ := hV
    first | (go_simp; done) | (go_simp; with_reducible rfl)
  try simp only [Act.put, List.setIfInBounds_toArray, List.set_cons_zero, List.set_cons_succ]
  refine wpAnyH_take (i := 3) (v := ?_) (by simp only [List.getElem?_toArray, List.getElem?_cons_zero, List.getElem?_cons_succ]; rfl) (by as_aux_lemma => kernel_rfl) (by as_aux_lemma => kernel_rfl) (by as_aux_lemma => kernel_rfl) (fun _ _ _ h => h) (Or.inl ⟨by rfl, ?_⟩) (by assumption) ?_
  rotate_left
  · intro V hV
    obtain ⟨⟨k0, k1, k2, k3⟩, ⟨k4, k5, k6, k7⟩, k8, k9, k10, _⟩ := hV
    first | (go_simp; done) | (go_simp; with_reducible rfl)
  try simp only [Act.put, List.setIfInBounds_toArray, List.set_cons_zero, List.set_cons_succ]
  refine wpAnyH_take (i := 4) (v := ?_) (by simp only [List.getElem?_toArray, List.getElem?_cons_zero, List.getElem?_cons_succ]; rfl) (by as_aux_lemma => kernel_rfl) (by as_aux_lemma => kernel_rfl) (by as_aux_lemma => kernel_rfl) (fun _ _ _ h => h) (Or.inl ⟨by rfl, ?_⟩) (by assumption) ?_
  rotate_left
  · intro V hV
    obtain ⟨⟨k0, k1, k2, k3⟩, ⟨k4, k5, k6, k7⟩, k8, k9, k10, _⟩ := hV
    first | (go_simp; done) | (go_simp; with_reducible rfl)
  try simp only [Act.put, List.setIfInBounds_toArray, List.set_cons_zero, List.set_cons_succ]
  refine wpAnyH_take (i := 5) (v := ?_) (by simp only [List.getElem?_toArray, List.getElem?_cons_zero, List.getElem?_cons_succ]; rfl) (by as_aux_lemma => kernel_rfl) (by as_aux_lemma => kernel_rfl) (by as_aux_lemma => kernel_rfl) (fun _ _ _ h => h) (Or.inl ⟨by rfl, ?_⟩) (by assumption) ?_
  rotate_left
  · intro V hV
    obtain ⟨⟨k0, k1, k2, k3⟩, ⟨k4, k5, k6, k7⟩, k8, k9, k10, _⟩ := hV
    first | (go_simp; done) | (go_simp; with_reducible rfl)
  try simp only [Act.put, List.setIfInBounds_toArray, List.set_cons_zero, List.set_cons_succ]
  refine wpAnyH_take (i := 6) (v := ?_) (by simp only [List.getElem?_toArray, List.getElem?_cons_zero, List.getElem?_cons_succ]; rfl) (by as_aux_lemma => kernel_rfl) (by as_aux_lemma => kernel_rfl) (by as_aux_lemma => kernel_rfl) (fun _ _ _ h => h) (Or.inl ⟨by rfl, ?_⟩) (by assumption) ?_
  rotate_left
  · intro V hV
    obtain ⟨⟨k0, k1, k2, k3⟩, ⟨k4, k5, k6, k7⟩, k8, k9, k10, _⟩ := hV
    first | (go_simp; done) | (go_simp; with_reducible rfl)
  try simp only [Act.put, List.setIfInBounds_toArray, List.set_cons_zero, List.set_cons_succ]
  refine wpAnyH_take (i := 7) (v := ?_) (by simp only [List.getElem?_toArray, List.getElem?_cons_zero, List.getElem?_cons_succ]; rfl) (by as_aux_lemma => kernel_rfl) (by as_aux_lemma => kernel_rfl) (by as_aux_lemma => kernel_rfl) (fun _ _ _ h => h) (Or.inl ⟨by rfl, ?_⟩) (by assumption) ?_
  rotate_left
  · intro V hV
    obtain ⟨⟨k0, k1, k2, k3⟩, ⟨k4, k5, k6, k7⟩, k8, k9, k10, _⟩ := hV
    first | (go_simp; done) | (go_simp; with_reducible rfl)
  try simp only [Act.put, List.setIfInBounds_toArray, List.set_cons_zero, List.set_cons_succ]
  refine wpAnyH_take (i := 8) (v := ?_) (by simp only [List.getElem?_toArray, List.getElem?_cons_zero, List.getElem?_cons_succ]; rfl) (by as_aux_lemma => kernel_rfl) (by as_aux_lemma => kernel_rfl) (by as_aux_lemma => kernel_rfl) (fun _ _ _ h => h) (Or.inl ⟨by rfl, ?_⟩) (by assumption) ?_
  rotate_left
  · intro V hV
    obtain ⟨⟨k0, k1, k2, k3⟩, ⟨k4, k5, k6, k7⟩, k8, k9, k10, _⟩ := hV
    first | (go_simp; done) | (go_simp; with_reducible rfl)
  try simp only [Act.put, List.setIfInBounds_toArray, List.set_cons_zero, List.set_cons_succ]
  refine wpAnyH_ready (rs := [9]) (by as_aux_lemma => kernel_rfl) (by simp) ?_
  refine AllReadyH.cons (by simp only [List.getElem?_toArray, List.getElem?_cons_zero, List.getElem?_cons_succ]; rfl) (fun K hK => ?_) AllReadyH.nil
  have hOld := hHeld
  go_simp
  go_at_call 16; (with_reducible refine (H1.out _ (by assumption)).mono ?_); rintro e w' ⟨rfl, hbw⟩
  refine hK.out _ _ ?_ (fun hNew => ?_)
  · exact HSK.out _ (by assumption)
  clear hK K hHeld hOld
  have hHeld := hNew
  clear hNew
  try simp only [Act.put, List.setIfInBounds_toArray, List.set_cons_zero, List.set_cons_succ]
  refine wpAnyH_take (i := 10) (v := ?_) (by simp only [List.getElem?_toArray, List.getElem?_cons_zero, List.getElem?_cons_succ]; rfl) (by as_aux_lemma => kernel_rfl) (by as_aux_lemma => kernel_rfl) (by as_aux_lemma => kernel_rfl) (fun _ _ _ h => h) (Or.inl ⟨by rfl, ?_⟩) (by assumption) ?_
  rotate_left
  · intro V hV
    obtain ⟨⟨k0, k1, k2, k3⟩, ⟨k4, k5, k6, k7⟩, k8, k9, k10, _⟩ := hV
    first | (go_simp; done) | (go_simp; with_reducible rfl)
  try simp only [Act.put, List.setIfInBounds_toArray, List.set_cons_zero, List.set_cons_succ]
  refine wpAnyH_take (i := 11) (v := ?_) (by simp only [List.getElem?_toArray, List.getElem?_cons_zero, List.getElem?_cons_succ]; rfl) (by as_aux_lemma => kernel_rfl) (by as_aux_lemma => kernel_rfl) (by as_aux_lemma => kernel_rfl) (fun _ _ _ h => h) (Or.inl ⟨by rfl, ?_⟩) (by assumption) ?_
  rotate_left
  · intro V hV
    obtain ⟨⟨k0, k1, k2, k3⟩, ⟨k4, k5, k6, k7⟩, k8, k9, k10, _⟩ := hV
    first | (go_simp; done) | (go_simp; with_reducible rfl)
  try simp only [Act.put, List.setIfInBounds_toArray, List.set_cons_zero, List.set_cons_succ]
  refine wpAnyH_take (i := 12) (v := ?_) (by simp only [List.getElem?_toArray, List.getElem?_cons_zero, List.getElem?_cons_succ]; rfl) (by as_aux_lemma => kernel_rfl) (by as_aux_lemma => kernel_rfl) (by as_aux_lemma => kernel_rfl) (fun _ _ _ h => h) (Or.inl ⟨by rfl, ?_⟩) (by assumption) ?_
  rotate_left
  · intro V hV
    obtain ⟨⟨k0, k1, k2, k3⟩, ⟨k4, k5, k6, k7⟩, k8, k9, k10, _⟩ := hV
    first | (go_simp; done) | (go_simp; with_reducible rfl)
  try simp only [Act.put, List.setIfInBounds_toArray, List.set_cons_zero, List.set_cons_succ]
  refine wpAnyH_take (i := 13) (v := ?_) (by simp only [List.getElem?_toArray, List.getElem?_cons_zero, List.getElem?_cons_succ]; rfl) (by as_aux_lemma => kernel_rfl) (by as_aux_lemma => kernel_rfl) (by as_aux_lemma => kernel_rfl) (fun _ _ _ h => h) (Or.inl ⟨by rfl, ?_⟩) (by assumption) ?_
  rotate_left
  · intro V hV
    obtain ⟨⟨k0, k1, k2, k3⟩, ⟨k4, k5, k6, k7⟩, k8, k9, k10, _⟩ := hV
    first | (go_simp; done) | (go_simp; with_reducible rfl)
  try simp only [Act.put, List.setIfInBounds_toArray, List.set_cons_zero, List.set_cons_succ]
  refine wpAnyH_take (i := 14) (v := ?_) (by simp only [List.getElem?_toArray, List.getElem?_cons_zero, List.getElem?_cons_succ]; rfl) (by as_aux_lemma => kernel_rfl) (by as_aux_lemma => kernel_rfl) (by as_aux_lemma => kernel_rfl) (fun _ _ _ h => h) (Or.inl ⟨by rfl, ?_⟩) (by assumption) ?_
  rotate_left
  · intro V hV
    obtain ⟨⟨k0, k1, k2, k3⟩, ⟨k4, k5, k6, k7⟩, k8, k9, k10, _⟩ := hV
    first | (go_simp; done) | (go_simp; with_reducible rfl)
  try simp only [Act.put, List.setIfInBounds_toArray, List.set_cons_zero, List.set_cons_succ]
  refine wpAnyH_take (i := 15) (v := ?_) (by simp only [List.getElem?_toArray, List.getElem?_cons_zero, List.getElem?_cons_succ]; rfl) (by as_aux_lemma => kernel_rfl) (by as_aux_lemma => kernel_rfl) (by as_aux_lemma => kernel_rfl) (fun _ _ _ h => h) (Or.inl ⟨by rfl, ?_⟩) (by assumption) ?_
  rotate_left
  · intro V hV
    obtain ⟨⟨k0, k1, k2, k3⟩, ⟨k4, k5, k6, k7⟩, k8, k9, k10, _⟩ := hV
    first | (go_simp; done) | (go_simp; with_reducible rfl)
  try simp only [Act.put, List.setIfInBounds_toArray, List.set_cons_zero, List.set_cons_succ]
  refine wpAnyH_take (i := 16) (v := ?_) (by simp only [List.getElem?_toArray, List.getElem?_cons_zero, List.getElem?_cons_succ]; rfl) (by as_aux_lemma => kernel_rfl) (by as_aux_lemma => kernel_rfl) (by as_aux_lemma => kernel_rfl) (fun _ _ _ h => h) (Or.inl ⟨by rfl, ?_⟩) (by assumption) ?_
  rotate_left
  · intro V hV
    obtain ⟨⟨k0, k1, k2, k3⟩, ⟨k4, k5, k6, k7⟩, k8, k9, k10, _⟩ := hV
    first | (go_simp; done) | (go_simp; with_reducible rfl)
  try simp only [Act.put, List.setIfInBounds_toArray, List.set_cons_zero, List.set_cons_succ]
  refine wpAnyH_take (i := 17) (v := ?_) (by simp only [List.getElem?_toArray, List.getElem?_cons_zero, List.getElem?_cons_succ]; rfl) (by as_aux_lemma => kernel_rfl) (by as_aux_lemma => kernel_rfl) (by as_aux_lemma => kernel_rfl) (fun _ _ _ h => h) (Or.inl ⟨by rfl, ?_⟩) (by assumption) ?_
  rotate_left
  · intro V hV
    obtain ⟨⟨k0, k1, k2, k3⟩, ⟨k4, k5, k6, k7⟩, k8, k9, k10, _⟩ := hV
    first | (go_simp; done) | (go_simp; with_reducible rfl)
  try simp only [Act.put, List.setIfInBounds_toArray, List.set_cons_zero, List.set_cons_succ]
  refine wpAnyH_take (i := 18) (v := ?_) (by simp only [List.getElem?_toArray, List.getElem?_cons_zero, List.getElem?_cons_succ]; rfl) (by as_aux_lemma => kernel_rfl) (by as_aux_lemma => kernel_rfl) (by as_aux_lemma => kernel_rfl) (fun _ _ _ h => h) (Or.inl ⟨by rfl, ?_⟩) (by assumption) ?_
  rotate_left
  · intro V hV
    obtain ⟨⟨k0, k1, k2, k3⟩, ⟨k4, k5, k6, k7⟩, k8, k9, k10, _⟩ := hV
    first | (go_simp; done) | (go_simp; with_reducible rfl)
  try simp only [Act.put, List.setIfInBounds_toArray, List.set_cons_zero, List.set_cons_succ]
  refine wpAnyH_take (i := 19) (v := ?_) (by simp only [List.getElem?_toArray, List.getElem?_cons_zero, List.getElem?_cons_succ]; rfl) (by as_aux_lemma => kernel_rfl) (by as_aux_lemma => kernel_rfl) (by as_aux_lemma => kernel_rfl) (fun _ _ _ h => h) (Or.inl ⟨by rfl, ?_⟩) (by assumption) ?_
  rotate_left
  · intro V hV
    obtain ⟨⟨k0, k1, k2, k3⟩, ⟨k4, k5, k6, k7⟩, k8, k9, k10, _⟩ := hV
    first | (go_simp; done) | (go_simp; with_reducible rfl)
  try simp only [Act.put, List.setIfInBounds_toArray, List.set_cons_zero, List.set_cons_succ]
  refine wpAnyH_take (i := 20) (v := ?_) (by simp only [List.getElem?_toArray, List.getElem?_cons_zero, List.getElem?_cons_succ]; rfl) (by as_aux_lemma => kernel_rfl) (by as_aux_lemma => kernel_rfl) (by as_aux_lemma => kernel_rfl) (fun _ _ _ h => h) (Or.inl ⟨by rfl, ?_⟩) (by assumption) ?_
  rotate_left
  · intro V hV
    obtain ⟨⟨k0, k1, k2, k3⟩, ⟨k4, k5, k6, k7⟩, k8, k9, k10, _⟩ := hV
    first | (go_simp; done) | (go_simp; with_reducible rfl)
  try simp only [Act.put, List.setIfInBounds_toArray, List.set_cons_zero, List.set_cons_succ]
  refine wpAnyH_take (i := 21) (v := ?_) (by simp only [List.getElem?_toArray, List.getElem?_cons_zero, List.getElem?_cons_succ]; rfl) (by as_aux_lemma => kernel_rfl) (by as_aux_lemma => kernel_rfl) (by as_aux_lemma => kernel_rfl) (fun _ _ _ h => h) (Or.inl ⟨by rfl, ?_⟩) (by assumption) ?_
  rotate_left
  · intro V hV
    obtain ⟨⟨k0, k1, k2, k3⟩, ⟨k4, k5, k6, k7⟩, k8, k9, k10, _⟩ := hV
    first | (go_simp; done) | (go_simp; with_reducible rfl)
  try simp only [Act.put, List.setIfInBounds_toArray, List.set_cons_zero, List.set_cons_succ]
  refine wpAnyH_take (i := 22) (v := ?_) (by simp only [List.getElem?_toArray, List.getElem?_cons_zero, List.getElem?_cons_succ]; rfl) (by as_aux_lemma => kernel_rfl) (by as_aux_lemma => kernel_rfl) (by as_aux_lemma => kernel_rfl) (fun _ _ _ h => h) (Or.inl ⟨by rfl, ?_⟩) (by assumption) ?_
  rotate_left
  · intro V hV
    obtain ⟨⟨k0, k1, k2, k3⟩, ⟨k4, k5, k6, k7⟩, k8, k9, k10, _⟩ := hV
    first | (go_simp; done) | (go_simp; with_reducible rfl)
  try simp only [Act.put, List.setIfInBounds_toArray, List.set_cons_zero, List.set_cons_succ]
  refine wpAnyH_take (i := 23) (v := ?_) (by simp only [List.getElem?_toArray, List.getElem?_cons_zero, List.getElem?_cons_succ]; rfl) (by as_aux_lemma => kernel_rfl) (by as_aux_lemma => kernel_rfl) (by as_aux_lemma => kernel_rfl) (fun _ _ _ h => h) (Or.inl ⟨by rfl, ?_⟩) (by assumption) ?_
  rotate_left
  · intro V hV
    obtain ⟨⟨k0, k1, k2, k3⟩, ⟨k4, k5, k6, k7⟩, k8, k9, k10, _⟩ := hV
    first | (go_simp; done) | (go_simp; with_reducible rfl)
  try simp only [Act.put, List.setIfInBounds_toArray, List.set_cons_zero, List.set_cons_succ]
  refine wpAnyH_take (i := 24) (v := ?_) (by simp only [List.getElem?_toArray, List.getElem?_cons_zero, List.getElem?_cons_succ]; rfl) (by as_aux_lemma => kernel_rfl) (by as_aux_lemma => kernel_rfl) (by as_aux_lemma => kernel_rfl) (fun _ _ _ h => h) (Or.inl ⟨by rfl, ?_⟩) (by assumption) ?_
  rotate_left
  · intro V hV
    obtain ⟨⟨k0, k1, k2, k3⟩, ⟨k4, k5, k6, k7⟩, k8, k9, k10, _⟩ := hV
    first | (go_simp; done) | (go_simp; with_reducible rfl)
  try simp only [Act.put, List.setIfInBounds_toArray, List.set_cons_zero, List.set_cons_succ]
  refine wpAnyH_take (i := 25) (v := ?_) (by simp only [List.getElem?_toArray, List.getElem?_cons_zero, List.getElem?_cons_succ]; rfl) (by as_aux_lemma => kernel_rfl) (by as_aux_lemma => kernel_rfl) (by as_aux_lemma => kernel_rfl) (fun _ _ _ h => h) (Or.inl ⟨by rfl, ?_⟩) (by assumption) ?_
  rotate_left
  · intro V hV
    obtain ⟨⟨k0, k1, k2, k3⟩, ⟨k4, k5, k6, k7⟩, k8, k9, k10, _⟩ := hV
    first | (go_simp; done) | (go_simp; with_reducible rfl)
  try simp only [Act.put, List.setIfInBounds_toArray, List.set_cons_zero, List.set_cons_succ]
  refine wpAnyH_take (i := 26) (v := ?_) (by simp only [List.getElem?_toArray, List.getElem?_cons_zero, List.getElem?_cons_succ]; rfl) (by as_aux_lemma => kernel_rfl) (by as_aux_lemma => kernel_rfl) (by as_aux_lemma => kernel_rfl) (fun _ _ _ h => h) (Or.inl ⟨by rfl, ?_⟩) (by assumption) ?_
  rotate_left
  · intro V hV
    obtain ⟨⟨k0, k1, k2, k3⟩, ⟨k4, k5, k6, k7⟩, k8, k9, k10, _⟩ := hV
    first | (go_simp; done) | (go_simp; with_reducible rfl)
  try simp only [Act.put, List.setIfInBounds_toArray, List.set_cons_zero, List.set_cons_succ]
  refine wpAnyH_take (i := 27) (v := ?_) (by simp only [List.getElem?_toArray, List.getElem?_cons_zero, List.getElem?_cons_succ]; rfl) (by as_aux_lemma => kernel_rfl) (by as_aux_lemma => kernel_rfl) (by as_aux_lemma => kernel_rfl) (fun _ _ _ h => h) (Or.inl ⟨by rfl, ?_⟩) (by assumption) ?_
  rotate_left
  · intro V hV
    obtain ⟨⟨k0, k1, k2, k3⟩, ⟨k4, k5, k6, k7⟩, k8, k9, k10, _⟩ := hV
    first | (go_simp; done) | (go_simp; with_reducible rfl)
  try simp only [Act.put, List.setIfInBounds_toArray, List.set_cons_zero, List.set_cons_succ]
  refine wpAnyH_take (i := 28) (v := ?_) (by simp only [List.getElem?_toArray, List.getElem?_cons_zero, List.getElem?_cons_succ]; rfl) (by as_aux_lemma => kernel_rfl) (by as_aux_lemma => kernel_rfl) (by as_aux_lemma => kernel_rfl) (fun _ _ _ h => h) (Or.inl ⟨by rfl, ?_⟩) (by assumption) ?_
  rotate_left
  · intro V hV
    obtain ⟨⟨k0, k1, k2, k3⟩, ⟨k4, k5, k6, k7⟩, k8, k9, k10, _⟩ := hV
    first | (go_simp; done) | (go_simp; with_reducible rfl)
  try simp only [Act.put, List.setIfInBounds_toArray, List.set_cons_zero, List.set_cons_succ]
  refine wpAnyH_take (i := 29) (v := ?_) (by simp only [List.getElem?_toArray, List.getElem?_cons_zero, List.getElem?_cons_succ]; rfl) (by as_aux_lemma => kernel_rfl) (by as_aux_lemma => kernel_rfl) (by as_aux_lemma => kernel_rfl) (fun _ _ _ h => h) (Or.inl ⟨by rfl, ?_⟩) (by assumption) ?_
  rotate_left
  · intro V hV
    obtain ⟨⟨k0, k1, k2, k3⟩, ⟨k4, k5, k6, k7⟩, k8, k9, k10, _⟩ := hV
    first | (go_simp; done) | (go_simp; with_reducible rfl)
  try simp only [Act.put, List.setIfInBounds_toArray, List.set_cons_zero, List.set_cons_succ]
  refine wpAnyH_take (i := 30) (v := ?_) (by simp only [List.getElem?_toArray, List.getElem?_cons_zero, List.getElem?_cons_succ]; rfl) (by as_aux_lemma => kernel_rfl) (by as_aux_lemma => kernel_rfl) (by as_aux_lemma => kernel_rfl) (fun _ _ _ h => h) (Or.inl ⟨by rfl, ?_⟩) (by assumption) ?_
  rotate_left
  · intro V hV
    obtain ⟨⟨k0, k1, k2, k3⟩, ⟨k4, k5, k6, k7⟩, k8, k9, k10, _⟩ := hV
    first | (go_simp; done) | (go_simp; with_reducible rfl)
  try simp only [Act.put, List.setIfInBounds_toArray, List.set_cons_zero, List.set_cons_succ]
  refine wpAnyH_take (i := 31) (v := ?_) (by simp only [List.getElem?_toArray, List.getElem?_cons_zero, List.getElem?_cons_succ]; rfl) (by as_aux_lemma => kernel_rfl) (by as_aux_lemma => kernel_rfl) (by as_aux_lemma => kernel_rfl) (fun _ _ _ h => h) (Or.inl ⟨by rfl, ?_⟩) (by assumption) ?_
  rotate_left
  · intro V hV
    obtain ⟨⟨k0, k1, k2, k3⟩, ⟨k4, k5, k6, k7⟩, k8, k9, k10, _⟩ := hV
    first | (go_simp; done) | (go_simp; with_reducible rfl)
  try simp only [Act.put, List.setIfInBounds_toArray, List.set_cons_zero, List.set_cons_succ]
  refine wpAnyH_take (i := 32) (v := ?_) (by simp only [List.getElem?_toArray, List.getElem?_cons_zero, List.getElem?_cons_succ]; rfl) (by as_aux_lemma => kernel_rfl) (by as_aux_lemma => kernel_rfl) (by as_aux_lemma => kernel_rfl) (fun _ _ _ h => h) (Or.inl ⟨by rfl, ?_⟩) (by assumption) ?_
  rotate_left
  · intro V hV
    obtain ⟨⟨k0, k1, k2, k3⟩, ⟨k4, k5, k6, k7⟩, k8, k9, k10, _⟩ := hV
    first | (go_simp; done) | (go_simp; with_reducible rfl)
  try simp only [Act.put, List.setIfInBounds_toArray, List.set_cons_zero, List.set_cons_succ]
  refine wpAnyH_take (i := 33) (v := ?_) (by simp only [List.getElem?_toArray, List.getElem?_cons_zero, List.getElem?_cons_succ]; rfl) (by as_aux_lemma => kernel_rfl) (by as_aux_lemma => kernel_rfl) (by as_aux_lemma => kernel_rfl) (fun _ _ _ h => h) (Or.inl ⟨by rfl, ?_⟩) (by assumption) ?_
  rotate_left
  · intro V hV
    obtain ⟨⟨k0, k1, k2, k3⟩, ⟨k4, k5, k6, k7⟩, k8, k9, k10, _⟩ := hV
    first | (go_simp; done) | (go_simp; with_reducible rfl)
  try simp only [Act.put, List.setIfInBounds_toArray, List.set_cons_zero, List.set_cons_succ]
  refine wpAnyH_take (i := 34) (v := ?_) (by simp only [List.getElem?_toArray, List.getElem?_cons_zero, List.getElem?_cons_succ]; rfl) (by as_aux_lemma => kernel_rfl) (by as_aux_lemma => kernel_rfl) (by as_aux_lemma => kernel_rfl) (fun _ _ _ h => h) (Or.inl ⟨by rfl, ?_⟩) (by assumption) ?_
  rotate_left
  · intro V hV
    obtain ⟨⟨k0, k1, k2, k3⟩, ⟨k4, k5, k6, k7⟩, k8, k9, k10, _⟩ := hV
    first | (go_simp; done) | (go_simp; with_reducible rfl)
  try simp only [Act.put, List.setIfInBounds_toArray, List.set_cons_zero, List.set_cons_succ]
  refine wpAnyH_take (i := 35) (v := ?_) (by simp only [List.getElem?_toArray, List.getElem?_cons_zero, List.getElem?_cons_succ]; rfl) (by as_aux_lemma => kernel_rfl) (by as_aux_lemma => kernel_rfl) (by as_aux_lemma => kernel_rfl) (fun _ _ _ h => h) (Or.inl ⟨by rfl, ?_⟩) (by assumption) ?_
  rotate_left
  · intro V hV
    obtain ⟨⟨k0, k1, k2, k3⟩, ⟨k4, k5, k6, k7⟩, k8, k9, k10, _⟩ := hV
    first | (go_simp; done) | (go_simp; with_reducible rfl)
  try simp only [Act.put, List.setIfInBounds_toArray, List.set_cons_zero, List.set_cons_succ]
  refine wpAnyH_take (i := 36) (v := ?_) (by simp only [List.getElem?_toArray, List.getElem?_cons_zero, List.getElem?_cons_succ]; rfl) (by as_aux_lemma => kernel_rfl) (by as_aux_lemma => kernel_rfl) (by as_aux_lemma => kernel_rfl) (fun _ _ _ h => h) (Or.inl ⟨by rfl, ?_⟩) (by assumption) ?_
  rotate_left
  · intro V hV
    obtain ⟨⟨k0, k1, k2, k3⟩, ⟨k4, k5, k6, k7⟩, k8, k9, k10, _⟩ := hV
    first | (go_simp; done) | (go_simp; with_reducible rfl)
  try simp only [Act.put, List.setIfInBounds_toArray, List.set_cons_zero, List.set_cons_succ]
  refine wpAnyH_take (i := 37) (v := ?_) (by simp only [List.getElem?_toArray, List.getElem?_cons_zero, List.getElem?_cons_succ]; rfl) (by as_aux_lemma => kernel_rfl) (by as_aux_lemma => kernel_rfl) (by as_aux_lemma => kernel_rfl) (fun _ _ _ h => h) (Or.inl ⟨by rfl, ?_⟩) (by assumption) ?_
  rotate_left
  · intro V hV
    obtain ⟨⟨k0, k1, k2, k3⟩, ⟨k4, k5, k6, k7⟩, k8, k9, k10, _⟩ := hV
    first | (go_simp; done) | (go_simp; with_reducible rfl)
  try simp only [Act.put, List.setIfInBounds_toArray, List.set_cons_zero, List.set_cons_succ]
  refine wpAnyH_take (i := 38) (v := ?_) (by simp only [List.getElem?_toArray, List.getElem?_cons_zero, List.getElem?_cons_succ]; rfl) (by as_aux_lemma => kernel_rfl) (by as_aux_lemma => kernel_rfl) (by as_aux_lemma => kernel_rfl) (fun _ _ _ h => h) (Or.inl ⟨by rfl, ?_⟩) (by assumption) ?_
  rotate_left
  · intro V hV
    obtain ⟨⟨k0, k1, k2, k3⟩, ⟨k4, k5, k6, k7⟩, k8, k9, k10, _⟩ := hV
    first | (go_simp; done) | (go_simp; with_reducible rfl)
  try simp only [Act.put, List.setIfInBounds_toArray, List.set_cons_zero, List.set_cons_succ]
  refine wpAnyH_take (i := 39) (v := ?_) (by simp only [List.getElem?_toArray, List.getElem?_cons_zero, List.getElem?_cons_succ]; rfl) (by as_aux_lemma => kernel_rfl) (by as_aux_lemma => kernel_rfl) (by as_aux_lemma => kernel_rfl) (fun _ _ _ h => h) (Or.inl ⟨by rfl, ?_⟩) (by assumption) ?_
  rotate_left
  · intro V hV
    obtain ⟨⟨k0, k1, k2, k3⟩, ⟨k4, k5, k6, k7⟩, k8, k9, k10, _⟩ := hV
    first | (go_simp; done) | (go_simp; with_reducible rfl)
  try simp only [Act.put, List.setIfInBounds_toArray, List.set_cons_zero, List.set_cons_succ]
  refine wpAnyH_take (i := 40) (v := ?_) (by simp only [List.getElem?_toArray, List.getElem?_cons_zero, List.getElem?_cons_succ]; rfl) (by as_aux_lemma => kernel_rfl) (by as_aux_lemma => kernel_rfl) (by as_aux_lemma => kernel_rfl) (fun _ _ _ h => h) (Or.inl ⟨by rfl, ?_⟩) (by assumption) ?_
  rotate_left
  · intro V hV
    obtain ⟨⟨k0, k1, k2, k3⟩, ⟨k4, k5, k6, k7⟩, k8, k9, k10, _⟩ := hV
    first | (go_simp; done) | (go_simp; with_reducible rfl)
  try simp only [Act.put, List.setIfInBounds_toArray, List.set_cons_zero, List.set_cons_succ]
  refine wpAnyH_take (i := 41) (v := ?_) (by simp only [List.getElem?_toArray, List.getElem?_cons_zero, List.getElem?_cons_succ]; rfl) (by as_aux_lemma => kernel_rfl) (by as_aux_lemma => kernel_rfl) (by as_aux_lemma => kernel_rfl) (fun _ _ _ h => h) (Or.inl ⟨by rfl, ?_⟩) (by assumption) ?_
  rotate_left
  · intro V hV
    obtain ⟨⟨k0, k1, k2, k3⟩, ⟨k4, k5, k6, k7⟩, k8, k9, k10, _⟩ := hV
    first | (go_simp; done) | (go_simp; with_reducible rfl)
  try simp only [Act.put, List.setIfInBounds_toArray, List.set_cons_zero, List.set_cons_succ]
  refine wpAnyH_take (i := 42) (v := ?_) (by simp only [List.getElem?_toArray, List.getElem?_cons_zero, List.getElem?_cons_succ]; rfl) (by as_aux_lemma => kernel_rfl) (by as_aux_lemma => kernel_rfl) (by as_aux_lemma => kernel_rfl) (fun _ _ _ h => h) (Or.inl ⟨by rfl, ?_⟩) (by assumption) ?_
  rotate_left
  · intro V hV
    obtain ⟨⟨k0, k1, k2, k3⟩, ⟨k4, k5, k6, k7⟩, k8, k9, k10, _⟩ := hV
    first | (go_simp; done) | (go_simp; with_reducible rfl)
  try simp only [Act.put, List.setIfInBounds_toArray, List.set_cons_zero, List.set_cons_succ]
  refine wpAnyH_take (i := 43) (v := ?_) (by simp only [List.getElem?_toArray, List.getElem?_cons_zero, List.getElem?_cons_succ]; rfl) (by as_aux_lemma => kernel_rfl) (by as_aux_lemma => kernel_rfl) (by as_aux_lemma => kernel_rfl) (fun _ _ _ h => h) (Or.inl ⟨by rfl, ?_⟩) (by assumption) ?_
  rotate_left
  · intro V hV
    obtain ⟨⟨k0, k1, k2, k3⟩, ⟨k4, k5, k6, k7⟩, k8, k9, k10, _⟩ := hV
    first | (go_simp; done) | (go_simp; with_reducible rfl)
  try simp only [Act.put, List.setIfInBounds_toArray, List.set_cons_zero, List.set_cons_succ]
  refine wpAnyH_take (i := 44) (v := ?_) (by simp only [List.getElem?_toArray, List.getElem?_cons_zero, List.getElem?_cons_succ]; rfl) (by as_aux_lemma => kernel_rfl) (by as_aux_lemma => kernel_rfl) (by as_aux_lemma => kernel_rfl) (fun _ _ _ h => h) (Or.inl ⟨by rfl, ?_⟩) (by assumption) ?_
  rotate_left
  · intro V hV
    obtain ⟨⟨k0, k1, k2, k3⟩, ⟨k4, k5, k6, k7⟩, k8, k9, k10, _⟩ := hV
    first | (go_simp; done) | (go_simp; with_reducible rfl)
  try simp only [Act.put, List.setIfInBounds_toArray, List.set_cons_zero, List.set_cons_succ]
  refine wpAnyH_take (i := 45) (v := ?_) (by simp only [List.getElem?_toArray, List.getElem?_cons_zero, List.getElem?_cons_succ]; rfl) (by as_aux_lemma => kernel_rfl) (by as_aux_lemma => kernel_rfl) (by as_aux_lemma => kernel_rfl) (fun _ _ _ h => h) (Or.inl ⟨by rfl, ?_⟩) (by assumption) ?_
  rotate_left
  · intro V hV
    obtain ⟨⟨k0, k1, k2, k3⟩, ⟨k4, k5, k6, k7⟩, k8, k9, k10, _⟩ := hV
    first | (go_simp; done) | (go_simp; with_reducible rfl)
  try simp only [Act.put, List.setIfInBounds_toArray, List.set_cons_zero, List.set_cons_succ]
  refine wpAnyH_take (i := 46) (v := ?_) (by simp only [List.getElem?_toArray, List.getElem?_cons_zero, List.getElem?_cons_succ]; rfl) (by as_aux_lemma => kernel_rfl) (by as_aux_lemma => kernel_rfl) (by as_aux_lemma => kernel_rfl) (fun _ _ _ h => h) (Or.inl ⟨by rfl, ?_⟩) (by assumption) ?_
  rotate_left
  · intro V hV
    obtain ⟨⟨k0, k1, k2, k3⟩, ⟨k4, k5, k6, k7⟩, k8, k9, k10, _⟩ := hV
    first | (go_simp; done) | (go_simp; with_reducible rfl)
  try simp only [Act.put, List.setIfInBounds_toArray, List.set_cons_zero, List.set_cons_succ]
  refine wpAnyH_take (i := 47) (v := ?_) (by simp only [List.getElem?_toArray, List.getElem?_cons_zero, List.getElem?_cons_succ]; rfl) (by as_aux_lemma => kernel_rfl) (by as_aux_lemma => kernel_rfl) (by as_aux_lemma => kernel_rfl) (fun _ _ _ h => h) (Or.inl ⟨by rfl, ?_⟩) (by assumption) ?_
  rotate_left
  · intro V hV
    obtain ⟨⟨k0, k1, k2, k3⟩, ⟨k4, k5, k6, k7⟩, k8, k9, k10, _⟩ := hV
    first | (go_simp; done) | (go_simp; with_reducible rfl)
  try simp only [Act.put, List.setIfInBounds_toArray, List.set_cons_zero, List.set_cons_succ]
  refine wpAnyH_take (i := 48) (v := ?_) (by simp only [List.getElem?_toArray, List.getElem?_cons_zero, List.getElem?_cons_succ]; rfl) (by as_aux_lemma => kernel_rfl) (by as_aux_lemma => kernel_rfl) (by as_aux_lemma => kernel_rfl) (fun _ _ _ h => h) (Or.inl ⟨by rfl, ?_⟩) (by assumption) ?_
  rotate_left
  · intro V hV
    obtain ⟨⟨k0, k1, k2, k3⟩, ⟨k4, k5, k6, k7⟩, k8, k9, k10, _⟩ := hV
    first | (go_simp; done) | (go_simp; with_reducible rfl)
  try simp only [Act.put, List.setIfInBounds_toArray, List.set_cons_zero, List.set_cons_succ]
  refine wpAnyH_take (i := 49) (v := ?_) (by simp only [List.getElem?_toArray, List.getElem?_cons_zero, List.getElem?_cons_succ]; rfl) (by as_aux_lemma => kernel_rfl) (by as_aux_lemma => kernel_rfl) (by as_aux_lemma => kernel_rfl) (fun _ _ _ h => h) (Or.inl ⟨by rfl, ?_⟩) (by assumption) ?_
  rotate_left
  · intro V hV
    obtain ⟨⟨k0, k1, k2, k3⟩, ⟨k4, k5, k6, k7⟩, k8, k9, k10, _⟩ := hV
    first | (go_simp; done) | (go_simp; with_reducible rfl)
  try simp only [Act.put, List.setIfInBounds_toArray, List.set_cons_zero, List.set_cons_succ]
  refine wpAnyH_take (i := 50) (v := ?_) (by simp only [List.getElem?_toArray, List.getElem?_cons_zero, List.getElem?_cons_succ]; rfl) (by as_aux_lemma => kernel_rfl) (by as_aux_lemma => kernel_rfl) (by as_aux_lemma => kernel_rfl) (fun _ _ _ h => h) (Or.inl ⟨by rfl, ?_⟩) (by assumption) ?_
  rotate_left
  · intro V hV
    obtain ⟨⟨k0, k1, k2, k3⟩, ⟨k4, k5, k6, k7⟩, k8, k9, k10, _⟩ := hV
    first | (go_simp; done) | (go_simp; with_reducible rfl)
  try simp only [Act.put, List.setIfInBounds_toArray, List.set_cons_zero, List.set_cons_succ]
  refine wpAnyH_take (i := 51) (v := ?_) (by simp only [List.getElem?_toArray, List.getElem?_cons_zero, List.getElem?_cons_succ]; rfl) (by as_aux_lemma => kernel_rfl) (by as_aux_lemma => kernel_rfl) (by as_aux_lemma => kernel_rfl) (fun _ _ _ h => h) (Or.inl ⟨by rfl, ?_⟩) (by assumption) ?_
  rotate_left
  · intro V hV
    obtain ⟨⟨k0, k1, k2, k3⟩, ⟨k4, k5, k6, k7⟩, k8, k9, k10, _⟩ := hV
    first | (go_simp; done) | (go_simp; with_reducible rfl)
  try simp only [Act.put, List.setIfInBounds_toArray, List.set_cons_zero, List.set_cons_succ]
  refine wpAnyH_take (i := 52) (v := ?_) (by simp only [List.getElem?_toArray, List.getElem?_cons_zero, List.getElem?_cons_succ]; rfl) (by as_aux_lemma => kernel_rfl) (by as_aux_lemma => kernel_rfl) (by as_aux_lemma => kernel_rfl) (fun _ _ _ h => h) (Or.inl ⟨by rfl, ?_⟩) (by assumption) ?_
  rotate_left
  · intro V hV
    obtain ⟨⟨k0, k1, k2, k3⟩, ⟨k4, k5, k6, k7⟩, k8, k9, k10, _⟩ := hV
    first | (go_simp; done) | (go_simp; with_reducible rfl)
  try simp only [Act.put, List.setIfInBounds_toArray, List.set_cons_zero, List.set_cons_succ]
  refine wpAnyH_take (i := 53) (v := ?_) (by simp only [List.getElem?_toArray, List.getElem?_cons_zero, List.getElem?_cons_succ]; rfl) (by as_aux_lemma => kernel_rfl) (by as_aux_lemma => kernel_rfl) (by as_aux_lemma => kernel_rfl) (fun _ _ _ h => h) (Or.inl ⟨by rfl, ?_⟩) (by assumption) ?_
  rotate_left
  · intro V hV
    obtain ⟨⟨k0, k1, k2, k3⟩, ⟨k4, k5, k6, k7⟩, k8, k9, k10, _⟩ := hV
    first | (go_simp; done) | (go_simp; with_reducible rfl)
  try simp only [Act.put, List.setIfInBounds_toArray, List.set_cons_zero, List.set_cons_succ]
  refine wpAnyH_ready (rs := [54]) (by as_aux_lemma => kernel_rfl) (by simp) ?_
  refine AllReadyH.cons (by simp only [List.getElem?_toArray, List.getElem?_cons_zero, List.getElem?_cons_succ]; rfl) (fun K hK => ?_) AllReadyH.nil
  have hOld := hHeld
  go_simp
  go_at_call 24; (with_reducible refine (H2.out _ (by assumption)).mono ?_); rintro e w' ⟨rfl, hbw⟩
  refine hK.out _ _ ?_ (fun hNew => ?_)
  · exact HSK.out _ (by assumption)
  clear hK K hHeld hOld
  have hHeld := hNew
  clear hNew
  try simp only [Act.put, List.setIfInBounds_toArray, List.set_cons_zero, List.set_cons_succ]
  refine wpAnyH_take (i := 55) (v := ?_) (by simp only [List.getElem?_toArray, List.getElem?_cons_zero, List.getElem?_cons_succ]; rfl) (by as_aux_lemma => kernel_rfl) (by as_aux_lemma => kernel_rfl) (by as_aux_lemma => kernel_rfl) (fun _ _ _ h => h) (Or.inl ⟨by rfl, ?_⟩) (by assumption) ?_
  rotate_left
  · intro V hV
    obtain ⟨⟨k0, k1, k2, k3⟩, ⟨k4, k5, k6, k7⟩, k8, k9, k10, _⟩ := hV
    first | (go_simp; done) | (go_simp; with_reducible rfl)
  try simp only [Act.put, List.setIfInBounds_toArray, List.set_cons_zero, List.set_cons_succ]
  refine wpAnyH_take (i := 56) (v := ?_) (by simp only [List.getElem?_toArray, List.getElem?_cons_zero, List.getElem?_cons_succ]; rfl) (by as_aux_lemma => kernel_rfl) (by as_aux_lemma => kernel_rfl) (by as_aux_lemma => kernel_rfl) (fun _ _ _ h => h) (Or.inl ⟨by rfl, ?_⟩) (by assumption) ?_
  rotate_left
  · intro V hV
    obtain ⟨⟨k0, k1, k2, k3⟩, ⟨k4, k5, k6, k7⟩, k8, k9, k10, _⟩ := hV
    first | (go_simp; done) | (go_simp; with_reducible rfl)
  try simp only [Act.put, List.setIfInBounds_toArray, List.set_cons_zero, List.set_cons_succ]
  refine wpAnyH_take (i := 57) (v := ?_) (by simp only [List.getElem?_toArray, List.getElem?_cons_zero, List.getElem?_cons_succ]; rfl) (by as_aux_lemma => kernel_rfl) (by as_aux_lemma => kernel_rfl) (by as_aux_lemma => kernel_rfl) (fun _ _ _ h => h) (Or.inl ⟨by rfl, ?_⟩) (by assumption) ?_
  rotate_left
  · intro V hV
    obtain ⟨⟨k0, k1, k2, k3⟩, ⟨k4, k5, k6, k7⟩, k8, k9, k10, _⟩ := hV
    first | (go_simp; done) | (go_simp; with_reducible rfl)
  try simp only [Act.put, List.setIfInBounds_toArray, List.set_cons_zero, List.set_cons_succ]
  refine wpAnyH_take (i := 58) (v := ?_) (by simp only [List.getElem?_toArray, List.getElem?_cons_zero, List.getElem?_cons_succ]; rfl) (by as_aux_lemma => kernel_rfl) (by as_aux_lemma => kernel_rfl) (by as_aux_lemma => kernel_rfl) (fun _ _ _ h => h) (Or.inl ⟨by rfl, ?_⟩) (by assumption) ?_
  rotate_left
  · intro V hV
    obtain ⟨⟨k0, k1, k2, k3⟩, ⟨k4, k5, k6, k7⟩, k8, k9, k10, _⟩ := hV
    first | (go_simp; done) | (go_simp; with_reducible rfl)
  try simp only [Act.put, List.setIfInBounds_toArray, List.set_cons_zero, List.set_cons_succ]
  refine wpAnyH_take (i := 59) (v := ?_) (by simp only [List.getElem?_toArray, List.getElem?_cons_zero, List.getElem?_cons_succ]; rfl) (by as_aux_lemma => kernel_rfl) (by as_aux_lemma => kernel_rfl) (by as_aux_lemma => kernel_rfl) (fun _ _ _ h => h) (Or.inl ⟨by rfl, ?_⟩) (by assumption) ?_
  rotate_left
  · intro V hV
    obtain ⟨⟨k0, k1, k2, k3⟩, ⟨k4, k5, k6, k7⟩, k8, k9, k10, _⟩ := hV
    first | (go_simp; done) | (go_simp; with_reducible rfl)
  try simp only [Act.put, List.setIfInBounds_toArray, List.set_cons_zero, List.set_cons_succ]
  refine wpAnyH_take (i := 60) (v := ?_) (by simp only [List.getElem?_toArray, List.getElem?_cons_zero, List.getElem?_cons_succ]; rfl) (by as_aux_lemma => kernel_rfl) (by as_aux_lemma => kernel_rfl) (by as_aux_lemma => kernel_rfl) (fun _ _ _ h => h) (Or.inl ⟨by rfl, ?_⟩) (by assumption) ?_
  rotate_left
  · intro V hV
    obtain ⟨⟨k0, k1, k2, k3⟩, ⟨k4, k5, k6, k7⟩, k8, k9, k10, _⟩ := hV
    first | (go_simp; done) | (go_simp; with_reducible rfl)
  try simp only [Act.put, List.setIfInBounds_toArray, List.set_cons_zero, List.set_cons_succ]
  refine wpAnyH_take (i := 61) (v := ?_) (by simp only [List.getElem?_toArray, List.getElem?_cons_zero, List.getElem?_cons_succ]; rfl) (by as_aux_lemma => kernel_rfl) (by as_aux_lemma => kernel_rfl) (by as_aux_lemma => kernel_rfl) (fun _ _ _ h => h) (Or.inl ⟨by rfl, ?_⟩) (by assumption) ?_
  rotate_left
  · intro V hV
    obtain ⟨⟨k0, k1, k2, k3⟩, ⟨k4, k5, k6, k7⟩, k8, k9, k10, _⟩ := hV
    first | (go_simp; done) | (go_simp; with_reducible rfl)
  try simp only [Act.put, List.setIfInBounds_toArray, List.set_cons_zero, List.set_cons_succ]
  refine wpAnyH_take (i := 62) (v := ?_) (by simp only [List.getElem?_toArray, List.getElem?_cons_zero, List.getElem?_cons_succ]; rfl) (by as_aux_lemma => kernel_rfl) (by as_aux_lemma => kernel_rfl) (by as_aux_lemma => kernel_rfl) (fun _ _ _ h => h) (Or.inl ⟨by rfl, ?_⟩) (by assumption) ?_
  rotate_left
  · intro V hV
    obtain ⟨⟨k0, k1, k2, k3⟩, ⟨k4, k5, k6, k7⟩, k8, k9, k10, _⟩ := hV
    first | (go_simp; done) | (go_simp; with_reducible rfl)
  try simp only [Act.put, List.setIfInBounds_toArray, List.set_cons_zero, List.set_cons_succ]
  refine wpAnyH_take (i := 63) (v := ?_) (by simp only [List.getElem?_toArray, List.getElem?_cons_zero, List.getElem?_cons_succ]; rfl) (by as_aux_lemma => kernel_rfl) (by as_aux_lemma => kernel_rfl) (by as_aux_lemma => kernel_rfl) (fun _ _ _ h => h) (Or.inl ⟨by rfl, ?_⟩) (by assumption) ?_
  rotate_left
  · intro V hV
    obtain ⟨⟨k0, k1, k2, k3⟩, ⟨k4, k5, k6, k7⟩, k8, k9, k10, _⟩ := hV
    first | (go_simp; done) | (go_simp; with_reducible rfl)
  try simp only [Act.put, List.setIfInBounds_toArray, List.set_cons_zero, List.set_cons_succ]
  refine wpAnyH_take (i := 64) (v := ?_) (by simp only [List.getElem?_toArray, List.getElem?_cons_zero, List.getElem?_cons_succ]; rfl) (by as_aux_lemma => kernel_rfl) (by as_aux_lemma => kernel_rfl) (by as_aux_lemma => kernel_rfl) (fun _ _ _ h => h) (Or.inl ⟨by rfl, ?_⟩) (by assumption) ?_
  rotate_left
  · intro V hV
    obtain ⟨⟨k0, k1, k2, k3⟩, ⟨k4, k5, k6, k7⟩, k8, k9, k10, _⟩ := hV
    first | (go_simp; done) | (go_simp; with_reducible rfl)
  try simp only [Act.put, List.setIfInBounds_toArray, List.set_cons_zero, List.set_cons_succ]
  refine wpAnyH_take (i := 65) (v := ?_) (by simp only [List.getElem?_toArray, List.getElem?_cons_zero, List.getElem?_cons_succ]; rfl) (by as_aux_lemma => kernel_rfl) (by as_aux_lemma => kernel_rfl) (by as_aux_lemma => kernel_rfl) (fun _ _ _ h => h) (Or.inl ⟨by rfl, ?_⟩) (by assumption) ?_
  rotate_left
  · intro V hV
    obtain ⟨⟨k0, k1, k2, k3⟩, ⟨k4, k5, k6, k7⟩, k8, k9, k10, _⟩ := hV
    first | (go_simp; done) | (go_simp; with_reducible rfl)
  try simp only [Act.put, List.setIfInBounds_toArray, List.set_cons_zero, List.set_cons_succ]
  refine wpAnyH_ready (rs := [66]) (by as_aux_lemma => kernel_rfl) (by simp) ?_
  refine AllReadyH.cons (by simp only [List.getElem?_toArray, List.getElem?_cons_zero, List.getElem?_cons_succ]; rfl) (fun K hK => ?_) AllReadyH.nil
  have hOld := hHeld
  go_simp
  go_at_call 22; (with_reducible refine (H3.out _ (by assumption)).mono ?_); rintro e w' ⟨rfl, hbw⟩
  refine hK.out _ _ ?_ (fun hNew => ?_)
  · exact HSK.out _ (by assumption)
  clear hK K hHeld hOld
  have hHeld := hNew
  clear hNew
  try simp only [Act.put, List.setIfInBounds_toArray, List.set_cons_zero, List.set_cons_succ]
  refine wpAnyH_take (i := 67) (v := ?_) (by simp only [List.getElem?_toArray, List.getElem?_cons_zero, List.getElem?_cons_succ]; rfl) (by as_aux_lemma => kernel_rfl) (by as_aux_lemma => kernel_rfl) (by as_aux_lemma => kernel_rfl) (fun _ _ _ h => h) (Or.inl ⟨by rfl, ?_⟩) (by assumption) ?_
  rotate_left
  · intro V hV
    obtain ⟨⟨k0, k1, k2, k3⟩, ⟨k4, k5, k6, k7⟩, k8, k9, k10, _⟩ := hV
    first | (go_simp; done) | (go_simp; with_reducible rfl)
  try simp only [Act.put, List.setIfInBounds_toArray, List.set_cons_zero, List.set_cons_succ]
  refine wpAnyH_take (i := 68) (v := ?_) (by simp only [List.getElem?_toArray, List.getElem?_cons_zero, List.getElem?_cons_succ]; rfl) (by as_aux_lemma => kernel_rfl) (by as_aux_lemma => kernel_rfl) (by as_aux_lemma => kernel_rfl) (fun _ _ _ h => h) (Or.inl ⟨by rfl, ?_⟩) (by assumption) ?_
  rotate_left
  · intro V hV
    obtain ⟨⟨k0, k1, k2, k3⟩, ⟨k4, k5, k6, k7⟩, k8, k9, k10, _⟩ := hV
    first | (go_simp; done) | (go_simp; with_reducible rfl)
  try simp only [Act.put, List.setIfInBounds_toArray, List.set_cons_zero, List.set_cons_succ]
  refine wpAnyH_take (i := 69) (v := ?_) (by simp only [List.getElem?_toArray, List.getElem?_cons_zero, List.getElem?_cons_succ]; rfl) (by as_aux_lemma => kernel_rfl) (by as_aux_lemma => kernel_rfl) (by as_aux_lemma => kernel_rfl) (fun _ _ _ h => h) (Or.inl ⟨by rfl, ?_⟩) (by assumption) ?_
  rotate_left
  · intro V hV
    obtain ⟨⟨k0, k1, k2, k3⟩, ⟨k4, k5, k6, k7⟩, k8, k9, k10, _⟩ := hV
    first | (go_simp; done) | (go_simp; with_reducible rfl)
  try simp only [Act.put, List.setIfInBounds_toArray, List.set_cons_zero, List.set_cons_succ]
  refine wpAnyH_ready (rs := [70]) (by as_aux_lemma => kernel_rfl) (by simp) ?_
  refine AllReadyH.cons (by simp only [List.getElem?_toArray, List.getElem?_cons_zero, List.getElem?_cons_succ]; rfl) (fun K hK => ?_) AllReadyH.nil
  have hOld := hHeld
  go_simp
  go_at_call 22; (with_reducible refine (H4.out _ (by assumption)).mono ?_); rintro e w' ⟨rfl, hbw⟩
  refine hK.out _ _ ?_ (fun hNew => ?_)
  · exact HSK.out _ (by assumption)
  clear hK K hHeld hOld
  have hHeld := hNew
  clear hNew
  try simp only [Act.put, List.setIfInBounds_toArray, List.set_cons_zero, List.set_cons_succ]
  refine wpAnyH_take (i := 71) (v := ?_) (by simp only [List.getElem?_toArray, List.getElem?_cons_zero, List.getElem?_cons_succ]; rfl) (by as_aux_lemma => kernel_rfl) (by as_aux_lemma => kernel_rfl) (by as_aux_lemma => kernel_rfl) (fun _ _ _ h => h) (Or.inl ⟨by rfl, ?_⟩) (by assumption) ?_
  rotate_left
  · intro V hV
    obtain ⟨⟨k0, k1, k2, k3⟩, ⟨k4, k5, k6, k7⟩, k8, k9, k10, _⟩ := hV
    first | (go_simp; done) | (go_simp; with_reducible rfl)
  try simp only [Act.put, List.setIfInBounds_toArray, List.set_cons_zero, List.set_cons_succ]
  refine wpAnyH_take (i := 72) (v := ?_) (by simp only [List.getElem?_toArray, List.getElem?_cons_zero, List.getElem?_cons_succ]; rfl) (by as_aux_lemma => kernel_rfl) (by as_aux_lemma => kernel_rfl) (by as_aux_lemma => kernel_rfl) (fun _ _ _ h => h) (Or.inl ⟨by rfl, ?_⟩) (by assumption) ?_
  rotate_left
  · intro V hV
    obtain ⟨⟨k0, k1, k2, k3⟩, ⟨k4, k5, k6, k7⟩, k8, k9, k10, _⟩ := hV
    first | (go_simp; done) | (go_simp; with_reducible rfl)
  try simp only [Act.put, List.setIfInBounds_toArray, List.set_cons_zero, List.set_cons_succ]
  refine wpAnyH_take (i := 73) (v := ?_) (by simp only [List.getElem?_toArray, List.getElem?_cons_zero, List.getElem?_cons_succ]; rfl) (by as_aux_lemma => kernel_rfl) (by as_aux_lemma => kernel_rfl) (by as_aux_lemma => kernel_rfl) (fun _ _ _ h => h) (Or.inl ⟨by rfl, ?_⟩) (by assumption) ?_
  rotate_left
  · intro V hV
    obtain ⟨⟨k0, k1, k2, k3⟩, ⟨k4, k5, k6, k7⟩, k8, k9, k10, _⟩ := hV
    first | (go_simp; done) | (go_simp; with_reducible rfl)
  try simp only [Act.put, List.setIfInBounds_toArray, List.set_cons_zero, List.set_cons_succ]
  refine wpAnyH_take (i := 74) (v := ?_) (by simp only [List.getElem?_toArray, List.getElem?_cons_zero, List.getElem?_cons_succ]; rfl) (by as_aux_lemma => kernel_rfl) (by as_aux_lemma => kernel_rfl) (by as_aux_lemma => kernel_rfl) (fun _ _ _ h => h) (Or.inl ⟨by rfl, ?_⟩) (by assumption) ?_
  rotate_left
  · intro V hV
    obtain ⟨⟨k0, k1, k2, k3⟩, ⟨k4, k5, k6, k7⟩, k8, k9, k10, _⟩ := hV
    first | (go_simp; done) | (go_simp; with_reducible rfl)
  try simp only [Act.put, List.setIfInBounds_toArray, List.set_cons_zero, List.set_cons_succ]
  refine wpAnyH_take (i := 76) (v := ?_) (by simp only [List.getElem?_toArray, List.getElem?_cons_zero, List.getElem?_cons_succ]; rfl) (by as_aux_lemma => kernel_rfl) (by as_aux_lemma => kernel_rfl) (by as_aux_lemma => kernel_rfl) (fun _ _ _ h => h) (Or.inl ⟨by rfl, ?_⟩) (by assumption) ?_
  rotate_left
  · intro V hV
    obtain ⟨⟨k0, k1, k2, k3⟩, ⟨k4, k5, k6, k7⟩, k8, k9, k10, _⟩ := hV
    first | (go_simp; done) | (go_simp; with_reducible rfl)
  try simp only [Act.put, List.setIfInBounds_toArray, List.set_cons_zero, List.set_cons_succ]
  refine wpAnyH_ready (rs := [75]) (by as_aux_lemma => kernel_rfl) (by simp) ?_
  refine AllReadyH.cons (by simp only [List.getElem?_toArray, List.getElem?_cons_zero, List.getElem?_cons_succ]; rfl) (fun K hK => ?_) AllReadyH.nil
  have hOld := hHeld
  go_simp
  go_at_call 27; (with_reducible refine (H7.out _ (by assumption)).mono ?_); rintro e w' ⟨⟨oua, oun, ouc, oda, odn, odc, oxa, oxn, oxc, oba, obn, obc⟩, rfl, hou, hbw⟩
  refine hK.out _ _ ?_ (fun hNew => ?_)
  · exact HSK.out _ (by assumption)
  clear hK K hHeld hOld
  have hHeld := hNew
  clear hNew
  try simp only [Act.put, List.setIfInBounds_toArray, List.set_cons_zero, List.set_cons_succ]
  refine wpAnyH_ready (rs := [77]) (by as_aux_lemma => kernel_rfl) (by simp) ?_
  refine AllReadyH.cons (by simp only [List.getElem?_toArray, List.getElem?_cons_zero, List.getElem?_cons_succ]; rfl) (fun K hK => ?_) AllReadyH.nil
  have hOld := hHeld
  go_simp
  go_at_call 26; (with_reducible refine (H8.out _ ⟨oua, oun, ouc, oda, odn, odc, oxa, oxn, oxc, oba, obn, obc⟩ (by assumption) hou).mono ?_); rintro e w' ⟨rfl, hbw⟩
  refine hK.out _ _ ?_ (fun hNew => ?_)
  · exact HSK.out _ (by assumption)
  clear hK K hHeld hOld
  have hHeld := hNew
  clear hNew
  try simp only [Act.put, List.setIfInBounds_toArray, List.set_cons_zero, List.set_cons_succ]
  refine wpAnyH_take (i := 78) (v := ?_) (by simp only [List.getElem?_toArray, List.getElem?_cons_zero, List.getElem?_cons_succ]; rfl) (by as_aux_lemma => kernel_rfl) (by as_aux_lemma => kernel_rfl) (by as_aux_lemma => kernel_rfl) (fun _ _ _ h => h) (Or.inl ⟨by rfl, ?_⟩) (by assumption) ?_
  rotate_left
  · intro V hV
    obtain ⟨⟨k0, k1, k2, k3⟩, ⟨k4, k5, k6, k7⟩, k8, k9, k10, _⟩ := hV
    first | (go_simp; done) | (go_simp; with_reducible rfl)
  try simp only [Act.put, List.setIfInBounds_toArray, List.set_cons_zero, List.set_cons_succ]
  refine wpAnyH_take (i := 79) (v := ?_) (by simp only [List.getElem?_toArray, List.getElem?_cons_zero, List.getElem?_cons_succ]; rfl) (by as_aux_lemma => kernel_rfl) (by as_aux_lemma => kernel_rfl) (by as_aux_lemma => kernel_rfl) (fun _ _ _ h => h) (Or.inl ⟨by rfl, ?_⟩) (by assumption) ?_
  rotate_left
  · intro V hV
    obtain ⟨⟨k0, k1, k2, k3⟩, ⟨k4, k5, k6, k7⟩, k8, k9, k10, _⟩ := hV
    first | (go_simp; done) | (go_simp; with_reducible rfl)
  try simp only [Act.put, List.setIfInBounds_toArray, List.set_cons_zero, List.set_cons_succ]
  refine wpAnyH_take (i := 80) (v := ?_) (by simp only [List.getElem?_toArray, List.getElem?_cons_zero, List.getElem?_cons_succ]; rfl) (by as_aux_lemma => kernel_rfl) (by as_aux_lemma => kernel_rfl) (by as_aux_lemma => kernel_rfl) (fun _ _ _ h => h) (Or.inl ⟨by rfl, ?_⟩) (by assumption) ?_
  rotate_left
  · intro V hV
    obtain ⟨⟨k0, k1, k2, k3⟩, ⟨k4, k5, k6, k7⟩, k8, k9, k10, _⟩ := hV
    first | (go_simp; done) | (go_simp; with_reducible rfl)
  try simp only [Act.put, List.setIfInBounds_toArray, List.set_cons_zero, List.set_cons_succ]
  refine wpAnyH_take (i := 81) (v := ?_) (by simp only [List.getElem?_toArray, List.getElem?_cons_zero, List.getElem?_cons_succ]; rfl) (by as_aux_lemma => kernel_rfl) (by as_aux_lemma => kernel_rfl) (by as_aux_lemma => kernel_rfl) (fun _ _ _ h => h) (Or.inl ⟨by rfl, ?_⟩) (by assumption) ?_
  rotate_left
  · intro V hV
    obtain ⟨⟨k0, k1, k2, k3⟩, ⟨k4, k5, k6, k7⟩, k8, k9, k10, _⟩ := hV
    first | (go_simp; done) | (go_simp; with_reducible rfl)
  try simp only [Act.put, List.setIfInBounds_toArray, List.set_cons_zero, List.set_cons_succ]
  refine wpAnyH_ready (rs := [82]) (by as_aux_lemma => kernel_rfl) (by simp) ?_
  refine AllReadyH.cons (by simp only [List.getElem?_toArray, List.getElem?_cons_zero, List.getElem?_cons_succ]; rfl) (fun K hK => ?_) AllReadyH.nil
  have hOld := hHeld
  go_simp
  go_at_call 26; (with_reducible refine (H6.out _ (by assumption)).mono ?_); rintro e w' ⟨rfl, hbw⟩
  refine hK.out _ _ ?_ (fun hNew => ?_)
  · exact HSK.out _ (by assumption)
  clear hK K hHeld hOld
  have hHeld := hNew
  clear hNew
  try simp only [Act.put, List.setIfInBounds_toArray, List.set_cons_zero, List.set_cons_succ]
  refine wpAnyH_take (i := 83) (v := ?_) (by simp only [List.getElem?_toArray, List.getElem?_cons_zero, List.getElem?_cons_succ]; rfl) (by as_aux_lemma => kernel_rfl) (by as_aux_lemma => kernel_rfl) (by as_aux_lemma => kernel_rfl) (fun _ _ _ h => h) (Or.inl ⟨by rfl, ?_⟩) (by assumption) ?_
  rotate_left
  · intro V hV
    obtain ⟨⟨k0, k1, k2, k3⟩, ⟨k4, k5, k6, k7⟩, k8, k9, k10, _⟩ := hV
    first | (go_simp; done) | (go_simp; with_reducible rfl)
  try simp only [Act.put, List.setIfInBounds_toArray, List.set_cons_zero, List.set_cons_succ]
  refine wpAnyH_take (i := 84) (v := ?_) (by simp only [List.getElem?_toArray, List.getElem?_cons_zero, List.getElem?_cons_succ]; rfl) (by as_aux_lemma => kernel_rfl) (by as_aux_lemma => kernel_rfl) (by as_aux_lemma => kernel_rfl) (fun _ _ _ h => h) (Or.inl ⟨by rfl, ?_⟩) (by assumption) ?_
  rotate_left
  · intro V hV
    obtain ⟨⟨k0, k1, k2, k3⟩, ⟨k4, k5, k6, k7⟩, k8, k9, k10, _⟩ := hV
    first | (go_simp; done) | (go_simp; with_reducible rfl)
  try simp only [Act.put, List.setIfInBounds_toArray, List.set_cons_zero, List.set_cons_succ]
  refine wpAnyH_take (i := 85) (v := ?_) (by simp only [List.getElem?_toArray, List.getElem?_cons_zero, List.getElem?_cons_succ]; rfl) (by as_aux_lemma => kernel_rfl) (by as_aux_lemma => kernel_rfl) (by as_aux_lemma => kernel_rfl) (fun _ _ _ h => h) (Or.inl ⟨by rfl, ?_⟩) (by assumption) ?_
  rotate_left
  · intro V hV
    obtain ⟨⟨k0, k1, k2, k3⟩, ⟨k4, k5, k6, k7⟩, k8, k9, k10, _⟩ := hV
    first | (go_simp; done) | (go_simp; with_reducible rfl)
  try simp only [Act.put, List.setIfInBounds_toArray, List.set_cons_zero, List.set_cons_succ]
  refine wpAnyH_take (i := 86) (v := ?_) (by simp only [List.getElem?_toArray, List.getElem?_cons_zero, List.getElem?_cons_succ]; rfl) (by as_aux_lemma => kernel_rfl) (by as_aux_lemma => kernel_rfl) (by as_aux_lemma => kernel_rfl) (fun _ _ _ h => h) (Or.inl ⟨by rfl, ?_⟩) (by assumption) ?_
  rotate_left
  · intro V hV
    obtain ⟨⟨k0, k1, k2, k3⟩, ⟨k4, k5, k6, k7⟩, k8, k9, k10, _⟩ := hV
    first | (go_simp; done) | (go_simp; with_reducible rfl)
  try simp only [Act.put, List.setIfInBounds_toArray, List.set_cons_zero, List.set_cons_succ]
  refine wpAnyH_ready (rs := [87]) (by as_aux_lemma => kernel_rfl) (by simp) ?_
  refine AllReadyH.cons (by simp only [List.getElem?_toArray, List.getElem?_cons_zero, List.getElem?_cons_succ]; rfl) (fun K hK => ?_) AllReadyH.nil
  have hOld := hHeld
  go_simp
  go_at_call 24; (with_reducible refine (H5.out _ (by assumption)).mono ?_); rintro e w' ⟨rfl, hbw⟩
  refine hK.out _ _ ?_ (fun hNew => ?_)
  · exact HSK.out _ (by assumption)
  clear hK K hHeld hOld
  have hHeld := hNew
  clear hNew
  try simp only [Act.put, List.setIfInBounds_toArray, List.set_cons_zero, List.set_cons_succ]
  refine wpAnyH_take (i := 88) (v := ?_) (by simp only [List.getElem?_toArray, List.getElem?_cons_zero, List.getElem?_cons_succ]; rfl) (by as_aux_lemma => kernel_rfl) (by as_aux_lemma => kernel_rfl) (by as_aux_lemma => kernel_rfl) (fun _ _ _ h => h) (Or.inl ⟨by rfl, ?_⟩) (by assumption) ?_
  rotate_left
  · intro V hV
    obtain ⟨⟨k0, k1, k2, k3⟩, ⟨k4, k5, k6, k7⟩, k8, k9, k10, _⟩ := hV
    first | (go_simp; done) | (go_simp; with_reducible rfl)
  try simp only [Act.put, List.setIfInBounds_toArray, List.set_cons_zero, List.set_cons_succ]
  refine wpAnyH_take (i := 89) (v := ?_) (by simp only [List.getElem?_toArray, List.getElem?_cons_zero, List.getElem?_cons_succ]; rfl) (by as_aux_lemma => kernel_rfl) (by as_aux_lemma => kernel_rfl) (by as_aux_lemma => kernel_rfl) (fun _ _ _ h => h) (Or.inl ⟨by rfl, ?_⟩) (by assumption) ?_
  rotate_left
  · intro V hV
    obtain ⟨⟨k0, k1, k2, k3⟩, ⟨k4, k5, k6, k7⟩, k8, k9, k10, _⟩ := hV
    first | (go_simp; done) | (go_simp; with_reducible rfl)
  try simp only [Act.put, List.setIfInBounds_toArray, List.set_cons_zero, List.set_cons_succ]
  refine wpAnyH_take (i := 90) (v := ?_) (by simp only [List.getElem?_toArray, List.getElem?_cons_zero, List.getElem?_cons_succ]; rfl) (by as_aux_lemma => kernel_rfl) (by as_aux_lemma => kernel_rfl) (by as_aux_lemma => kernel_rfl) (fun _ _ _ h => h) (Or.inl ⟨by rfl, ?_⟩) (by assumption) ?_
  rotate_left
  · intro V hV
    obtain ⟨⟨k0, k1, k2, k3⟩, ⟨k4, k5, k6, k7⟩, k8, k9, k10, _⟩ := hV
    first | (go_simp; done) | (go_simp; with_reducible rfl)
  try simp only [Act.put, List.setIfInBounds_toArray, List.set_cons_zero, List.set_cons_succ]
  refine wpAnyH_done (by as_aux_lemma => kernel_rfl) ?_ _
  refine NoPanic.normal ?_
  go_wp2
  go_ret
  exact ⟨rfl, HFIN.out.trans (hbw.mono HFIN.out.size)⟩

end Go.Proofs.YtifcoalhkcflnaaGreat

/- The document's tries (layer 7): a node's bytes, by what is told above it; walked. -/


namespace Go.Proofs.YtifcoalhkcflnaaGreat
open Go.RowKit Go.Sort
set_option linter.unusedVariables false
set_option linter.unusedSimpArgs false

theorem spR_zero (T : TrieT) (z : Int) (out : List Int) : spR T 0 z out = out := rfl
theorem spR_stop {T : TrieT} {z : Int} {out : List Int} (h : ¬ (0 < z ∧ z < (T.up.length : Int) ∧ z < (T.byt.length : Int))) (k : Nat) : spR T k z out = out := by
  cases k with
  | zero => rfl
  | succ k => unfold spR; rw [if_neg h]
theorem spR_go {T : TrieT} {z u c : Int} {out : List Int} (h : 0 < z ∧ z < (T.up.length : Int) ∧ z < (T.byt.length : Int)) (hu : T.up[z.toNat]? = some u) (hc : T.byt[z.toNat]? = some c) (k : Nat) : spR T (k + 1) z out = spR T k u (c :: out) := by
  conv => lhs; unfold spR
  rw [if_pos h, hu, hc]
  rfl
theorem spR_all {T : TrieT} {P : Int → Prop} (h0 : P 0) (hb : ∀ x ∈ T.byt, P x) : ∀ (k : Nat) (z : Int) (out : List Int), (∀ x ∈ out, P x) → ∀ x ∈ spR T k z out, P x
  | 0, z, out, h => h
  | k + 1, z, out, h => by
    unfold spR
    split
    · refine spR_all h0 hb k _ _ (fun x hx => ?_)
      rw [List.mem_cons] at hx
      rcases hx with rfl | hx
      · cases e : T.byt[z.toNat]? with
        | none => exact h0
        | some c => exact hb c (List.mem_of_getElem? e)
      · exact h x hx
    · exact h
theorem spR_len (T : TrieT) : ∀ (k : Nat) (z : Int) (out : List Int), (spR T k z out).length ≤ k + out.length
  | 0, z, out => by simp [spR]
  | k + 1, z, out => by
    unfold spR
    split
    · have := spR_len T k (T.up[z.toNat]?.getD 0) (T.byt[z.toNat]?.getD 0 :: out)
      rw [List.length_cons] at this
      omega
    · omega
theorem spellR_len (T : TrieT) (z : Int) : (spellR T z).length ≤ 32 := by
  have := spR_len T 32 z []
  simpa [spellR] using this
theorem spellR_bd {w : World} {a : Option Addr} {n : Nat} {T : TrieT} (h : Bys w a n T.byt) (z : Int) : ∀ x ∈ spellR T z, 0 ≤ x ∧ x ≤ 255 := spR_all ⟨by omega, by omega⟩ h.2 32 z [] (by simp)
def lenV : Value → Nat
  | .slice _ n _ => n
  | _ => 0

set_option maxRecDepth 100000 in
set_option maxHeartbeats 4000000 in
theorem rspell7_any (t : TV) (T : TrieT) (node : Int) (w : World) (hT : Tri w t T) :
    Calls Tryz.prog 62 #[.agg t.cells, .int .i64 node] w fun e w' => ∃ v, e = .returned v ∧ OwnU w' w.heap.size v (spellR T node) ∧ Below w.heap.size w w' := by
  obtain ⟨iU, hj, hy0, hy1, hy2⟩ := info_parts u8_info7
  obtain ⟨ua, un, uc, da, dn, dc, xa, xn, xc, ba, bn, bc⟩ := t
  obtain ⟨W, hW⟩ : ∃ W, W = w.alloc (.cells #[.slice ua un uc, .slice da dn dc, .slice xa xn xc, .slice ba bn bc] 28) := ⟨_, rfl⟩
  have hB : Below w.heap.size w W := by rw [hW]; exact below_alloc _ _
  have hQ : W.heap[w.heap.size]? = some (.cells #[.slice ua un uc, .slice da dn dc, .slice xa xn xc, .slice ba bn bc] 28 (0, 0)) := by rw [hW]; exact World.alloc_heap_new _ _
  obtain ⟨Q, hQe⟩ : ∃ Q, w.heap.size = Q := ⟨_, rfl⟩
  have HB := Lib.hid hB
  have hbQ : W.heap.size = Q + 1 := by rw [hW, ← hQe]; simp
  have HT := Lib.hid (hT.below hB)
  have HU := Lib.hid hT.up.1
  have HBL := Lib.hid hT.byt.len
  have HBD := Lib.hid (spellR_bd hT.byt)
  clear hT
  go_enter Tryz.func62, Tryz.ntmps62
  go_upto_region 1 with fail
  rw [← hW]
  rw [hQe] at hQ
  clear hW
  have HQ := Lib.hid hQ
  have HQe := Lib.hid hQe
  have HbQ := Lib.hid hbQ
  clear hQ hB hQe hbQ
  go_wp2
  go_loopw [1, 5] (fun s1 s5 wr => ∃ (z : Int) (out : List Int) (k : Nat) (av : Option Addr) (cv : Nat), s1 = .int .i64 z ∧ s5 = .slice av k cv ∧ k ≤ 32 ∧ out.length = k ∧ Hid (spellR T node = spR T (32 - k) z out) ∧ wr.ownsRow W.heap.size 5 1 (.slice av k cv) k (out.map (Value.int .u8)) ∧ RowKit.Below W.heap.size W wr) (fun _ s5 _ => 32 - lenV s5)
  case atStart => exact ⟨node, [], 0, none, 0, rfl, rfl, Nat.zero_le _, rfl, rfl, World.ownsRow_nil _ _ _ _, RowKit.Below.refl _ _⟩
  case round =>
    obtain ⟨z, out, k, av, cv, rfl, rfl, hk, hl, HS, hOW, hBe⟩ := hrel
    have hQr : wr.heap[Q]? = _ := (hBe.block Q (by rw [HbQ.out]; omega)).trans HQ.out
    have c0 : wr.cell? ⟨Q, 0, none⟩ = some (.slice ua un uc) := by simp [World.cell?, hQr]
    have c1 : wr.cell? ⟨Q, 1, none⟩ = some (.slice da dn dc) := by simp [World.cell?, hQr]
    have c2 : wr.cell? ⟨Q, 2, none⟩ = some (.slice xa xn xc) := by simp [World.cell?, hQr]
    have c3 : wr.cell? ⟨Q, 3, none⟩ = some (.slice ba bn bc) := by simp [World.cell?, hQr]
    have HOW := Lib.hid hOW
    have HBE := Lib.hid hBe
    have HLL := Lib.hid hl
    have hstop : ¬ (0 < z ∧ z < (un : Int) ∧ z < (bn : Int) ∧ k < 32) → spellR T node = out := fun hn => by
      rw [HS.out]
      by_cases hk2 : k < 32
      · exact spR_stop (fun h => hn ⟨h.1, by have := HU.out; omega, by have := HBL.out; omega, hk2⟩) _
      · rw [show 32 - k = 0 by omega, spR_zero]
    have HST := Lib.hid hstop
    clear hOW hBe hl hstop hQr
    by_cases h1 : 0 < z
    · have e1 : decide ((0 : Int) < z) = true := by simpa using h1
      by_cases h2 : z < (un : Int)
      · have e2 : decide (z < (un : Int)) = true := by simpa using h2
        by_cases h3 : z < (bn : Int)
        · have e3 : decide (z < (bn : Int)) = true := by simpa using h3
          by_cases h4 : k < 32
          · have e4 : decide ((k : Int) < 32) = true := by simp; omega
            have e4' : decide (k < 32) = true := by simp; omega
            obtain ⟨p, rfl⟩ := Int.eq_ofNat_of_zero_le (show 0 ≤ z by omega)
            have hTr := HT.out.below HBE.out
            obtain ⟨b1, o1, u, f1, hb1, g1, hu⟩ := sl1_at hTr.up (k := p) (by show p < un; omega)
            obtain ⟨b2, o2, c, f2, hb2, g2, hc⟩ := sl1_at hTr.byt.1 (k := p) (by show p < bn; omega)
            dsimp only at f1 f2
            subst f1 f2
            have hgo := spR_go (T := T) (z := (p : Int)) (u := u) (c := c) (out := out) ⟨h1, by have := HU.out; omega, by have := HBL.out; omega⟩ (by simpa using hu) (by simpa using hc) (32 - (k + 1))
            rw [show 32 - (k + 1) + 1 = 32 - k by omega] at hgo
            have HS2 : Hid (spellR T node = spR T (32 - (k + 1)) u (c :: out)) := by rw [Hid, HS.out]; exact hgo
            have hrow := (HOW.out.alloc (.cells #[.int .u8 c] 5))
            have hsz := HBE.out.size
            have hlit := World.ownsRow_lit (base := W.heap.size) (size := 1) (e := 5) wr #[.int .u8 c] 1 hsz (by unfold maxLen; omega) (by simp)
            have g1' : (wr.alloc (.cells #[.int .u8 c] 5)).cell? ⟨b1, o1 + p, none⟩ = some (.int .i64 u) := by rw [World.cell?_alloc_lt _ _ _ hb1]; exact g1
            have hbl : RowKit.Below wr.heap.size wr (wr.alloc (.cells #[.int .u8 c] 5)) := below_alloc _ _
            have p1 : (0 : Int) ≤ (p : Int) := by omega
            have HG1 := Lib.hid g1
            have HB1 := Lib.hid hb1
            clear hgo hu hc hTr
            go_upto_region 4 with (at_builtin; refine wpList_append_sl1 rfl _ _ 26 rfl u8_one W.heap.size 5 iU (.int .u8 0) 1 Tryz.underlying26 hj hy0 hy1 hy2 rfl _ _ _ rfl hlit av k cv out rfl (own_sl hrow) (by unfold maxLen; omega) (by omega) (by simp; omega) ?_; intro v' w9 hown' hgrow hat)
            have hB9 := (HBE.out.alloc hsz (.cells #[.int .u8 c] 5)).grown hgrow (by simp; omega) (fun j hj => by injection hj with hj; subst hj; exact hsz)
            have g9 : w9.cell? ⟨b1, o1 + p, none⟩ = some (.int .i64 u) := (World.cell?_of_block (a := ⟨b1, o1 + p, none⟩) (hgrow.block b1 (by simp; have := HB1.out; omega) (fun e => by have e2 : some b1 = some wr.heap.size := e; injection e2 with e2; have := HB1.out; omega))).trans g1'
            have hQ9 : w9.heap[Q]? = _ := (hB9.block Q (by rw [HbQ.out]; omega)).trans HQ.out
            have c0 : w9.cell? ⟨Q, 0, none⟩ = some (.slice (some ⟨b1, o1, none⟩) un uc) := by simp [World.cell?, hQ9]
            have c3 : w9.cell? ⟨Q, 3, none⟩ = some (.slice (some ⟨b2, o2, none⟩) bn bc) := by simp [World.cell?, hQ9]
            have hO9 : w9.ownsRow W.heap.size 5 1 v' (k + 1) ((c :: out).map (Value.int .u8)) := by
              rw [Nat.add_comm, List.map_cons]
              exact hown'
            obtain ⟨a9, c9, rfl, _, _⟩ := own_sl1 hO9
            clear g1' hQ9 hrow hlit
            go_wp2
            go_roundw
            case rel => exact ⟨u, c :: out, k + 1, a9, c9, rfl, by go_num, by omega, by rw [List.length_cons, HLL.out], HS2, hO9, hB9⟩
            case measure => simp [lenV]; omega
          · have e4 : decide ((k : Int) < 32) = false := by simp; omega
            have e4' : decide (k < 32) = false := by simp; omega
            have hend := Lib.hid (HST.out (fun h => h4 h.2.2.2))
            go_wp2
            go_ret
            refine ⟨.slice av k cv, rfl, ?_, ?_⟩
            · rw [hend.out]; unfold OwnU; rw [HLL.out]; exact row_mono HOW.out (by rw [HbQ.out, HQe.out]; omega)
            · exact HB.out.trans (HBE.out.mono HB.out.size)
        · have e3 : decide (z < (bn : Int)) = false := by simpa using h3
          have hend := Lib.hid (HST.out (fun h => h3 h.2.2.1))
          go_wp2
          go_ret
          refine ⟨.slice av k cv, rfl, ?_, ?_⟩
          · rw [hend.out]; unfold OwnU; rw [HLL.out]; exact row_mono HOW.out (by rw [HbQ.out, HQe.out]; omega)
          · exact HB.out.trans (HBE.out.mono HB.out.size)
      · have e2 : decide (z < (un : Int)) = false := by simpa using h2
        have hend := Lib.hid (HST.out (fun h => h2 h.2.1))
        go_wp2
        go_ret
        refine ⟨.slice av k cv, rfl, ?_, ?_⟩
        · rw [hend.out]; unfold OwnU; rw [HLL.out]; exact row_mono HOW.out (by rw [HbQ.out, HQe.out]; omega)
        · exact HB.out.trans (HBE.out.mono HB.out.size)
    · have e1 : decide ((0 : Int) < z) = false := by simpa using h1
      have hend := Lib.hid (HST.out (fun h => h1 h.1))
      go_wp2
      go_ret
      refine ⟨.slice av k cv, rfl, ?_, ?_⟩
      · rw [hend.out]; unfold OwnU; rw [HLL.out]; exact row_mono HOW.out (by rw [HbQ.out, HQe.out]; omega)
      · exact HB.out.trans (HBE.out.mono HB.out.size)
end Go.Proofs.YtifcoalhkcflnaaGreat

/- The document's tries (layer 7): the words that a trie tells; walked. -/

namespace Go.Proofs.YtifcoalhkcflnaaGreat
open Go.RowKit Go.Sort
set_option linter.unusedVariables false
set_option linter.unusedSimpArgs false

theorem words_hit {T : TrieT} {q i : Nat} (h : T.wrd[i]? = some (q : Int)) (hn : ∀ j < i, T.wrd[j]? ≠ some (q : Int)) (f : Nat) : wordsFrom T (f + 1) q = spellR T i :: wordsFrom T f (q + 1) := by
  have hi := (List.getElem?_eq_some_iff.1 h)
  have e : T.wrd.findIdx? (fun v => decide (v = (q : Int))) = some i := by
    rw [List.findIdx?_eq_some_iff_getElem]
    refine ⟨hi.1, by rw [hi.2]; exact decide_eq_true rfl, fun j hj => ?_⟩
    intro hc
    exact hn j hj (by rw [List.getElem?_eq_getElem (by have := hi.1; omega)]; exact congrArg some (of_decide_eq_true hc))
  conv => lhs; unfold wordsFrom
  rw [e]
theorem words_no {T : TrieT} {q : Nat} (hn : ∀ j < T.wrd.length, T.wrd[j]? ≠ some (q : Int)) (f : Nat) : wordsFrom T f q = [] := by
  cases f with
  | zero => rfl
  | succ f =>
    have e : T.wrd.findIdx? (fun v => decide (v = (q : Int))) = none := by
      rw [List.findIdx?_eq_none_iff]
      intro v hv
      obtain ⟨i, hi⟩ := List.getElem?_of_mem hv
      refine decide_eq_false (fun e => ?_)
      rw [e] at hi
      exact hn i (List.getElem?_eq_some_iff.1 hi).1 hi
    unfold wordsFrom
    rw [e]
theorem wordsR_mem {T : TrieT} : ∀ (f q : Nat), ∀ x ∈ wordsFrom T f q, ∃ z, x = spellR T z
  | 0, q, x, h => by simp [wordsFrom] at h
  | f + 1, q, x, h => by
    unfold wordsFrom at h
    split at h
    · simp at h
    · rename_i i _
      rw [List.mem_cons] at h
      rcases h with h | h
      · exact ⟨_, h⟩
      · exact wordsR_mem f _ x h
theorem wordsFrom_len (T : TrieT) : ∀ (f q : Nat), (wordsFrom T f q).length ≤ f
  | 0, q => by simp [wordsFrom]
  | f + 1, q => by
    unfold wordsFrom
    split
    · simp
    · have := wordsFrom_len T f (q + 1)
      simp
      omega
theorem wordsR_bd (T : TrieT) : (wordsR T).length ≤ 64 ∧ ∀ x ∈ wordsR T, x.length ≤ 32 :=
  ⟨wordsFrom_len T 64 0, fun x hx => by obtain ⟨z, rfl⟩ := wordsR_mem 64 0 x hx; exact spellR_len T z⟩

theorem OwnW.mono {w : World} {b b' : Nat} {v : Value} {wss : List (List Int)} (h : OwnW w b v wss) (hb : b' ≤ b) : OwnW w b' v wss := by
  obtain ⟨es, h1, h2, h3⟩ := h
  exact ⟨es, row_mono h1 hb, h2, fun i e xs he hx => ⟨row_mono (h3 i e xs he hx).1 hb, (h3 i e xs he hx).2⟩⟩

set_option maxRecDepth 100000 in
set_option maxHeartbeats 4000000 in
theorem rwords7_any (t : TV) (T : TrieT) (w : World) (hT : Tri w t T) (hb : t.xn ≤ 140737488351232) :
    Calls Tryz.prog 61 #[.agg t.cells] w fun e w' => ∃ v, e = .returned v ∧ OwnW w' w.heap.size v (wordsR T) ∧ Below w.heap.size w w' := by
  obtain ⟨i0, hi, hz0, hz1, hz2⟩ := info_parts sl_info
  obtain ⟨ua, un, uc, da, dn, dc, xa, xn, xc, ba, bn, bc⟩ := t
  obtain ⟨W, hW⟩ : ∃ W, W = w.alloc (.cells #[.slice ua un uc, .slice da dn dc, .slice xa xn xc, .slice ba bn bc] 28) := ⟨_, rfl⟩
  have hB : Below w.heap.size w W := by rw [hW]; exact below_alloc _ _
  have hQ : W.heap[w.heap.size]? = some (.cells #[.slice ua un uc, .slice da dn dc, .slice xa xn xc, .slice ba bn bc] 28 (0, 0)) := by rw [hW]; exact World.alloc_heap_new _ _
  obtain ⟨Q, hQe⟩ : ∃ Q, w.heap.size = Q := ⟨_, rfl⟩
  have HB := Lib.hid hB
  have hbQ : W.heap.size = Q + 1 := by rw [hW, ← hQe]; simp
  have HT := Lib.hid (hT.below hB)
  have HXL := Lib.hid hT.wrd.1
  have HBD := Lib.hid (spellR_bd hT.byt)
  have hbx : xn ≤ 140737488351232 := hb
  clear hT hb
  go_enter Tryz.func61, Tryz.ntmps61
  go_upto_region 1 with fail
  rw [← hW]
  rw [hQe] at hQ
  clear hW
  have HQ := Lib.hid hQ
  have HQe := Lib.hid hQe
  have HbQ := Lib.hid hbQ
  clear hQ hB hQe hbQ
  go_wp2
  go_loopw [3, 4] (fun s3 s4 wr => ∃ (q : Nat) (L : List (List Int)) (v3 : Value), q ≤ 64 ∧ v3 = s3 ∧ s4 = .int .i64 q ∧ L.length = q ∧ Hid (wordsR T = L ++ wordsFrom T (64 - q) q) ∧ OwnW wr W.heap.size v3 L ∧ RowKit.Below W.heap.size W wr) (fun _ s4 _ => 64 - (intOf s4).toNat)
  case atStart => exact ⟨0, [], _, Nat.zero_le _, rfl, rfl, rfl, rfl, OwnW.nil _ _, RowKit.Below.refl _ _⟩
  case round =>
    obtain ⟨q, L, v3, hq, rfl, rfl, hl, HS, hOW, hBe⟩ := hrel
    have hQr : wr.heap[Q]? = _ := (hBe.block Q (by rw [HbQ.out]; omega)).trans HQ.out
    have HOW := Lib.hid hOW
    have HBE := Lib.hid hBe
    have HLL := Lib.hid hl
    have HQR := Lib.hid hQr
    clear hOW hBe hl hQr
    by_cases hq2 : q < 64
    · have e4 : decide ((q : Int) < 64) = true := by simp; omega
      have e4' : decide (q < 64) = true := by simp; omega
      go_wp2
      go_loopw [5] (fun s5 wi => ∃ i : Nat, i ≤ xn ∧ s5 = .int .i64 i ∧ Hid (∀ j < i, T.wrd[j]? ≠ some (q : Int)) ∧ RowKit.Below wr.heap.size wr wi) (fun s5 _ => xn - (intOf s5).toNat)
      case atStart => exact ⟨0, Nat.zero_le _, rfl, (fun j hj => absurd hj (Nat.not_lt_zero _)), RowKit.Below.refl _ _⟩
      case round =>
        obtain ⟨i, hin, rfl, HN, hBi⟩ := hrel
        have hTi := HT.out.below (HBE.out.trans (hBi.mono HBE.out.size))
        have hQi : wr.heap[Q]? = some (.cells #[.slice ua un uc, .slice da dn dc, .slice xa xn xc, .slice ba bn bc] 28 (0, 0)) := (hBi.block Q (Array.getElem?_eq_some_iff.1 HQR.out).1).trans HQR.out
        have c0 : wr.cell? ⟨Q, 0, none⟩ = some (.slice ua un uc) := by simp [World.cell?, hQi]
        have c1 : wr.cell? ⟨Q, 1, none⟩ = some (.slice da dn dc) := by simp [World.cell?, hQi]
        have c2 : wr.cell? ⟨Q, 2, none⟩ = some (.slice xa xn xc) := by simp [World.cell?, hQi]
        have c3 : wr.cell? ⟨Q, 3, none⟩ = some (.slice ba bn bc) := by simp [World.cell?, hQi]
        have HTI := Lib.hid hTi
        have HBI := Lib.hid hBi
        clear hQi hTi hBi
        by_cases hil : i < xn
        · have hd : decide ((i : Int) < xn) = true := by simp; omega
          obtain ⟨b1, o1, u, f1, hb1, g1, hu⟩ := sl1_at HTI.out.wrd (k := i) hil
          dsimp only at f1
          subst f1
          have i1 : (0 : Int) ≤ (i : Int) := by omega
          have i2 : (i : Int) < (xn : Int) := by omega
          have HU := Lib.hid hu
          clear hu
          by_cases huq : u = (q : Int)
          · have e6 : ((u : Int) != (q : Int)) = false := by simp [huq]
            have HS2 := Lib.hid (words_hit (T := T) (q := q) (i := i) (by rw [HU.out, huq]) HN.out (64 - (q + 1)))
            rw [show 64 - (q + 1) + 1 = 64 - q by omega] at HS2
            clear huq
            have e7 : ((i : Int) == (xn : Int)) = false := by simp; omega
            have HC := Lib.hid (rspell7_any _ T (i : Int) wr HTI.out)
            go_wp2_with fail
            refine HC.out.mono ?_
            rintro e w5 ⟨v8, rfl, hv8, hb5⟩
            obtain ⟨a8, c8, rfl, hc8, _⟩ := own_sl1 hv8
            obtain ⟨es, e1, e2, e3⟩ := HOW.out
            have hB05 := HBI.out.trans (hb5.mono HBI.out.size)
            have hsz0 := HBE.out.size
            have hsz1 := hB05.size
            have r1 := row_below e1 hB05
            have hLL := HLL.out
            rw [hLL] at r1
            clear c0 c1 c2 c3 g1
            go_wp2_with (at_builtin; refine wpList_append_own _ rfl _ _ 22 rfl W.heap.size 26 i0 (.slice none 0 0) 1 24 Tryz.underlying22 hi hz0 hz1 hz2 rfl (by decide) _ _ _ rfl (r1.alloc _) ⟨w5.heap.size, 0, none⟩ 1 1 [.slice a8 (spellR T (i : Int)).length c8] rfl rfl (cells_new _ _ (by simp)) (by simp [Value.oneCell']) (by unfold maxLen; omega) (by omega) (by simp; omega) ?_; intro v' w9 hown' hgrow hat)
            have hB9 := ((HBE.out.trans (hB05.mono hsz0)).alloc (by omega) (.cells #[.slice a8 (spellR T (i : Int)).length c8] 26)).grown hgrow (by simp; omega) (fun j hj => (row_lt r1 j hj).1)
            have hst := OwnW.step (W := w5.alloc (.cells #[.slice a8 (spellR T (i : Int)).length c8] 26)) (base := W.heap.size) (v := v3) (wss := L) (xs := spellR T (i : Int)) (e := .slice a8 (spellR T (i : Int)).length c8) (es := es) (by rw [hLL]; exact r1.alloc _) e2
              (fun k e xs he hx => ⟨World.ownsRow.alloc (own_below_ (e3 k e xs he hx).1 hB05) _, (e3 k e xs he hx).2⟩) (World.ownsRow.alloc (row_mono hv8 (by have := HBI.out.size; omega)) _) (HBD.out _) (by rw [hLL]; exact hown') hgrow
            have HS3 : Hid (wordsR T = (L ++ [spellR T (i : Int)]) ++ wordsFrom T (64 - (q + 1)) (q + 1)) := by
              rw [Hid, HS.out, HS2.out, List.append_assoc]
              rfl
            have hl9 : (L ++ [spellR T (i : Int)]).length = q + 1 := by rw [List.length_append, hLL]; rfl
            have HL9 := Lib.hid hl9
            have HST := Lib.hid hst
            clear hl9 hst hLL hown' r1 e1 e2 e3
            go_roundw
            case rel => exact ⟨q + 1, _, _, by omega, rfl, by go_num, HL9.out, HS3, HST.out, hB9⟩
            case measure => simp [intOf]; omega
          · have e6 : ((u : Int) != (q : Int)) = true := by simp [huq]
            have HN2 : Hid (∀ j < i + 1, T.wrd[j]? ≠ some (q : Int)) := by
              intro j hj e
              by_cases hji : j < i
              · exact HN.out j hji e
              · obtain rfl : j = i := by omega
                rw [HU.out] at e
                exact huq (Option.some.inj e)
            clear huq
            go_wp2
            go_roundw
            case rel => exact ⟨i + 1, by omega, by go_num, HN2, HBI.out⟩
            case measure => simp [intOf]; omega
        · obtain rfl : i = xn := by omega
          have hd : decide ((i : Int) < i) = false := by simp
          have e7 : ((i : Int) == (i : Int)) = true := by simp
          have HE : Hid (wordsR T = L) := by rw [Hid, HS.out, words_no (fun j hj => HN.out j (by rw [HXL.out] at hj; exact hj)), List.append_nil]
          have HR := Lib.hid (OwnW.below HOW.out HBI.out)
          go_wp2
          go_ret
          refine ⟨v3, rfl, ?_, HB.out.trans ((HBE.out.trans (HBI.out.mono HBE.out.size)).mono HB.out.size)⟩
          rw [HE.out]
          exact OwnW.mono HR.out HB.out.size
    · obtain rfl : q = 64 := by omega
      have e4 : decide (((64 : Nat) : Int) < 64) = false := by decide
      have HE : Hid (wordsR T = L) := by rw [Hid, HS.out, Nat.sub_self]; simp [wordsFrom]
      go_wp2
      go_ret
      refine ⟨v3, rfl, ?_, HB.out.trans (HBE.out.mono HB.out.size)⟩
      rw [HE.out]
      exact OwnW.mono HOW.out HB.out.size
end Go.Proofs.YtifcoalhkcflnaaGreat

/- The document's tries (layer 7): which may be; how many nodes; words; a node's bytes; where bytes are found; which are too great; walked. -/


namespace Go.Proofs.YtifcoalhkcflnaaGreat
open Go.RowKit Go.Sort
set_option linter.unusedVariables false
set_option linter.unusedSimpArgs false

theorem nil4_tri (w : World) : Tri w ⟨none, 0, 0, none, 0, 0, none, 0, 0, none, 0, 0⟩ ⟨[], [], [], []⟩ := ⟨⟨rfl, .inl rfl⟩, ⟨rfl, .inl rfl⟩, ⟨rfl, .inl rfl⟩, Bys.nil _ _, ⟨Nat.le_refl _, Nat.le_refl _, Nat.le_refl _, Nat.le_refl _⟩⟩

set_option maxRecDepth 100000 in
set_option maxHeartbeats 4000000 in
theorem rright7_any (t : TV) (T : TrieT) (w : World) (hT : Tri w t T) (hb : t.un ≤ 140737488351232 ∧ t.dn ≤ 140737488351232 ∧ t.xn ≤ 140737488351232 ∧ t.bn ≤ 140737488351232) :
    Calls Tryz.prog 23 #[.agg t.cells] w fun e w' => e = .returned (.bool (rightT T)) ∧ Below w.heap.size w w' := by
  have HE : Hid (rightT T = rightR7 T) := (rightR7_eq T).symm
  obtain ⟨ua, un, uc, da, dn, dc, xa, xn, xc, ba, bn, bc⟩ := t
  obtain ⟨hb1, hb2, hb3, hb4⟩ := hb
  dsimp only at hb1 hb2 hb3 hb4
  obtain ⟨W, hW⟩ : ∃ W, W = w.alloc (.cells #[.slice ua un uc, .slice da dn dc, .slice xa xn xc, .slice ba bn bc] 28) := ⟨_, rfl⟩
  have hB : Below w.heap.size w W := by rw [hW]; exact below_alloc _ _
  have hO : Bx w.heap.size [.cells #[.slice ua un uc, .slice da dn dc, .slice xa xn xc, .slice ba bn bc] 28] W := by rw [hW]; exact (Bx.nil _ w).snoc _ rfl
  have hT2 := hT.below hB
  have c0 : W.cell? ⟨w.heap.size, 0, none⟩ = some (.slice ua un uc) := hO.cell (i := 0) rfl rfl
  have c1 : W.cell? ⟨w.heap.size, 1, none⟩ = some (.slice da dn dc) := hO.cell (i := 0) rfl rfl
  have c2 : W.cell? ⟨w.heap.size, 2, none⟩ = some (.slice xa xn xc) := hO.cell (i := 0) rfl rfl
  have c3 : W.cell? ⟨w.heap.size, 3, none⟩ = some (.slice ba bn bc) := hO.cell (i := 0) rfl rfl
  have HUL := Lib.hid hT.up.1
  have HXL := Lib.hid hT.wrd.1
  clear hT
  by_cases hs : un ≤ 400 ∧ xn ≤ 400
  · obtain ⟨hs1, hs2⟩ := hs
    have e1 : decide ((400 : Int) < (un : Int)) = false := by simp; omega
    have e1' : decide (400 < un) = false := by simp; omega
    have e2 : decide ((400 : Int) < (xn : Int)) = false := by simp; omega
    have e2' : decide (400 < xn) = false := by simp; omega
    have HZ : Hid (rightT T = (rightP false (wordsR T) && eqT (trieP (wordsR T)) T)) := by
      rw [Hid, HE.out]
      unfold rightR7
      rw [decide_eq_true (show T.up.length ≤ 400 ∧ T.wrd.length ≤ 400 by rw [HUL.out, HXL.out]; exact ⟨hs1, hs2⟩), Bool.true_and]
    have HC := Lib.hid (rwords7_any _ T W hT2 (by show xn ≤ _; omega))
    have HT2 := Lib.hid hT2
    clear hT2 HE
    go_enter Tryz.func23, Tryz.ntmps23
    go_upto_region 1 with fail
    rw [← hW]
    clear hW
    go_wp2_with fail
    refine HC.out.mono ?_
    rintro e w1 ⟨v, rfl, hv, hb1⟩
    obtain ⟨av, cv, rfl, hcv, hwd⟩ := hv.wds
    have hO1 := hO.below hb1
    have hB1 := hB.trans (hb1.mono hB.size)
    have hT1 := HT2.out.below hb1
    clear c0 c1 c2 c3 hO hB hb1 HC hv e1 e1' e2 e2'
    obtain ⟨m, hm⟩ : ∃ m, (wordsR T).length = m := ⟨_, rfl⟩
    have hm64 : m ≤ 64 := by rw [← hm]; exact (wordsR_bd T).1
    rw [hm] at hwd hcv ⊢
    clear hm
    cases hr : rightP false (wordsR T) with
    | false =>
      have HZ2 : Hid (rightT T = false) := by rw [Hid, HZ.out, hr]; rfl
      have HM := Lib.hid (rmake7_no false av m cv (wordsR T) w1 hwd (by omega) (fun x hx => by have := (wordsR_bd T).2 x hx; omega) hr)
      clear hr HZ
      go_wp2_with fail
      refine HM.out.mono ?_
      rintro e w2 ⟨rfl, hb2⟩
      have hB2 := hB1.trans (hb2.mono hB1.size)
      go_wp2
      go_ret
      exact ⟨by rw [HZ2.out]; rfl, hB2.alloc hB2.size _⟩
    | true =>
      have HZ2 : Hid (rightT T = eqT (trieP (wordsR T)) T) := by rw [Hid, HZ.out, hr, Bool.true_and]
      have HM := Lib.hid (rmake7_yes false av m cv (wordsR T) w1 hwd hr)
      have HNL : Hid ((nodesL (wordsR T)).length ≤ 400) := (right_nodes hr).2
      clear hr HZ
      go_wp2_with fail
      refine HM.out.mono ?_
      rintro e w2 ⟨t2, rfl, hT3, hb2⟩
      have hB2 := hB1.trans (hb2.mono hB1.size)
      have hO2 := hO1.below hb2
      have hT4 := hT1.below hb2
      obtain ⟨ua2, un2, uc2, da2, dn2, dc2, xa2, xn2, xc2, ba2, bn2, bc2⟩ := t2
      have hl1 : (nodesL (wordsR T)).length = un2 := by have := hT3.up.1; rw [trie_lens.1] at this; exact this
      have hl2 : (nodesL (wordsR T)).length = dn2 := by have := hT3.dep.1; rw [(trie_lens (ws := wordsR T)).2.1] at this; exact this
      have hl3 : (nodesL (wordsR T)).length = xn2 := by have := hT3.wrd.1; rw [trie_lens.2.2.1] at this; exact this
      have hl4 : (nodesL (wordsR T)).length = bn2 := by have := hT3.byt.1.1; rw [(trie_lens (ws := wordsR T)).2.2.2] at this; exact this
      have hn4 := HNL.out
      have hbd : un2 ≤ 4611686018427387904 ∧ dn2 ≤ 4611686018427387904 ∧ xn2 ≤ 4611686018427387904 ∧ bn2 ≤ 4611686018427387904 := by omega
      clear hl1 hl2 hl3 hl4 hn4
      obtain ⟨W4, hW4⟩ : ∃ W, W = w2.alloc (.cells #[.slice ua2 un2 uc2, .slice da2 dn2 dc2, .slice xa2 xn2 xc2, .slice ba2 bn2 bc2] 28) := ⟨_, rfl⟩
      have hb4 : Below w2.heap.size w2 W4 := by rw [hW4]; exact below_alloc _ _
      have hQ : W4.heap[w2.heap.size]? = some (.cells #[.slice ua2 un2 uc2, .slice da2 dn2 dc2, .slice xa2 xn2 xc2, .slice ba2 bn2 bc2] 28 (0, 0)) := by rw [hW4]; exact World.alloc_heap_new _ _
      go_upto_region 4 with fail
      rw [← hW4]
      clear hW4
      have hO4 := hO2.below hb4
      have c0 : W4.cell? ⟨w.heap.size, 0, none⟩ = some (.slice ua un uc) := hO4.cell (i := 0) rfl rfl
      have c1 : W4.cell? ⟨w.heap.size, 1, none⟩ = some (.slice da dn dc) := hO4.cell (i := 0) rfl rfl
      have c2 : W4.cell? ⟨w.heap.size, 2, none⟩ = some (.slice xa xn xc) := hO4.cell (i := 0) rfl rfl
      have c3 : W4.cell? ⟨w.heap.size, 3, none⟩ = some (.slice ba bn bc) := hO4.cell (i := 0) rfl rfl
      have k0 : W4.cell? ⟨w2.heap.size, 0, none⟩ = some (.slice ua2 un2 uc2) := by simp [World.cell?, hQ]
      have k1 : W4.cell? ⟨w2.heap.size, 1, none⟩ = some (.slice da2 dn2 dc2) := by simp [World.cell?, hQ]
      have k2 : W4.cell? ⟨w2.heap.size, 2, none⟩ = some (.slice xa2 xn2 xc2) := by simp [World.cell?, hQ]
      have k3 : W4.cell? ⟨w2.heap.size, 3, none⟩ = some (.slice ba2 bn2 bc2) := by simp [World.cell?, hQ]
      have HSM := Lib.hid (rsame7_any _ _ _ _ W4 (hT3.below hb4) (hT4.below hb4) hbd)
      have hB4 := hB2.trans (hb4.mono hB2.size)
      clear hT3 hT4 hO4 hO2 hO1 hQ hb4 hb2
      go_wp2_with fail
      refine HSM.out.mono ?_
      rintro e w5 ⟨rfl, hb5⟩
      have hB5 := hB4.trans (hb5.mono hB4.size)
      clear c0 c1 c2 c3 k0 k1 k2 k3
      obtain ⟨B, hBB⟩ : ∃ B, eqT (trieP (wordsR T)) T = B := ⟨_, rfl⟩
      have HZ3 : Hid (rightT T = B) := by rw [Hid, HZ2.out, hBB]
      rw [hBB]
      clear hBB
      cases B
      all_goals
        go_wp2
        go_ret
        exact ⟨by rw [HZ3.out]; rfl, hB5⟩
  · have HZ : Hid (rightT T = false) := by
      rw [Hid, HE.out]
      unfold rightR7
      rw [decide_eq_false (show ¬ (T.up.length ≤ 400 ∧ T.wrd.length ≤ 400) by rw [HUL.out, HXL.out]; exact hs), Bool.false_and]
    clear hT2 HE
    have e0 : (decide ((400 : Int) < (un : Int)) = true ∧ decide (400 < un) = true) ∨ ((decide ((400 : Int) < (un : Int)) = false ∧ decide (400 < un) = false) ∧ (decide ((400 : Int) < (xn : Int)) = true ∧ decide (400 < xn) = true)) := by
      by_cases h : un ≤ 400
      · exact .inr ⟨⟨by simp; omega, by simp; omega⟩, by simp; omega, by simp; omega⟩
      · exact .inl ⟨by simp; omega, by simp; omega⟩
    clear hs
    rcases e0 with ⟨e1, e1'⟩ | ⟨⟨e1, e1'⟩, e2, e2'⟩
    all_goals
      go_enter Tryz.func23, Tryz.ntmps23
      go_upto_region 1 with fail
      rw [← hW]
      clear hW
      go_wp2
      go_ret
      exact ⟨by rw [HZ.out]; rfl, hB⟩

set_option maxHeartbeats 2000000 in
theorem rmany7_any (t : TV) (T : TrieT) (w : World) (hT : Tri w t T) (hb : t.un ≤ 140737488351232 ∧ t.dn ≤ 140737488351232 ∧ t.xn ≤ 140737488351232 ∧ t.bn ≤ 140737488351232) :
    Calls Tryz.prog 25 #[.agg t.cells] w fun e w' => e = .returned (.int .i64 (manyT T)) ∧ Below w.heap.size w w' := by
  obtain ⟨ua, un, uc, da, dn, dc, xa, xn, xc, ba, bn, bc⟩ := t
  obtain ⟨W, hW⟩ : ∃ W, W = w.alloc (.cells #[.slice ua un uc, .slice da dn dc, .slice xa xn xc, .slice ba bn bc] 28) := ⟨_, rfl⟩
  have hB : Below w.heap.size w W := by rw [hW]; exact below_alloc _ _
  have hO : Bx w.heap.size [.cells #[.slice ua un uc, .slice da dn dc, .slice xa xn xc, .slice ba bn bc] 28] W := by rw [hW]; exact (Bx.nil _ w).snoc _ rfl
  have c0 : W.cell? ⟨w.heap.size, 0, none⟩ = some (.slice ua un uc) := hO.cell (i := 0) rfl rfl
  have c1 : W.cell? ⟨w.heap.size, 1, none⟩ = some (.slice da dn dc) := hO.cell (i := 0) rfl rfl
  have c2 : W.cell? ⟨w.heap.size, 2, none⟩ = some (.slice xa xn xc) := hO.cell (i := 0) rfl rfl
  have c3 : W.cell? ⟨w.heap.size, 3, none⟩ = some (.slice ba bn bc) := hO.cell (i := 0) rfl rfl
  have HC := Lib.hid (rright7_any _ T W (hT.below hB) hb)
  have HUL := Lib.hid hT.up.1
  clear hT hb
  cases hr : readP T with
  | none =>
    have HZ : Hid (manyT T = 0) := by unfold Hid manyT; rw [hr]
    have HR : rightT T = false := by unfold rightT; rw [hr]; rfl
    rw [HR] at HC
    clear hr HR
    go_enter Tryz.func25, Tryz.ntmps25
    go_upto_region 1 with fail
    rw [← hW]
    clear hW
    go_wp2_with fail
    refine HC.out.mono ?_
    rintro e w1 ⟨rfl, hb1⟩
    go_wp2
    go_ret
    exact ⟨by rw [HZ.out]; rfl, hB.trans (hb1.mono hB.size)⟩
  | some r =>
    have HZ : Hid (manyT T = (un : Int)) := by unfold Hid manyT; rw [hr]; have := HUL.out; dsimp only at this ⊢; omega
    have HR : rightT T = true := by unfold rightT; rw [hr]; rfl
    rw [HR] at HC
    clear hr HR
    go_enter Tryz.func25, Tryz.ntmps25
    go_upto_region 1 with fail
    rw [← hW]
    clear hW
    go_wp2_with fail
    refine HC.out.mono ?_
    rintro e w1 ⟨rfl, hb1⟩
    have hO1 := hO.below hb1
    clear c0 c1 c2 c3
    have c0 : w1.cell? ⟨w.heap.size, 0, none⟩ = some (.slice ua un uc) := hO1.cell (i := 0) rfl rfl
    go_wp2
    go_ret
    exact ⟨by rw [HZ.out]; rfl, hB.trans (hb1.mono hB.size)⟩

set_option maxHeartbeats 2000000 in
theorem rWords7_any (t : TV) (T : TrieT) (w : World) (hT : Tri w t T) (hb : t.un ≤ 140737488351232 ∧ t.dn ≤ 140737488351232 ∧ t.xn ≤ 140737488351232 ∧ t.bn ≤ 140737488351232) :
    Calls Tryz.prog 20 #[.agg t.cells] w fun e w' => ∃ v, e = .returned v ∧ OwnW w' w.heap.size v (wordsT T) ∧ Below w.heap.size w w' := by
  obtain ⟨ua, un, uc, da, dn, dc, xa, xn, xc, ba, bn, bc⟩ := t
  obtain ⟨W, hW⟩ : ∃ W, W = w.alloc (.cells #[.slice ua un uc, .slice da dn dc, .slice xa xn xc, .slice ba bn bc] 28) := ⟨_, rfl⟩
  have hB : Below w.heap.size w W := by rw [hW]; exact below_alloc _ _
  have hO : Bx w.heap.size [.cells #[.slice ua un uc, .slice da dn dc, .slice xa xn xc, .slice ba bn bc] 28] W := by rw [hW]; exact (Bx.nil _ w).snoc _ rfl
  have c0 : W.cell? ⟨w.heap.size, 0, none⟩ = some (.slice ua un uc) := hO.cell (i := 0) rfl rfl
  have c1 : W.cell? ⟨w.heap.size, 1, none⟩ = some (.slice da dn dc) := hO.cell (i := 0) rfl rfl
  have c2 : W.cell? ⟨w.heap.size, 2, none⟩ = some (.slice xa xn xc) := hO.cell (i := 0) rfl rfl
  have c3 : W.cell? ⟨w.heap.size, 3, none⟩ = some (.slice ba bn bc) := hO.cell (i := 0) rfl rfl
  have HC := Lib.hid (rright7_any _ T W (hT.below hB) hb)
  have HT := Lib.hid (hT.below hB)
  have HB3 := Lib.hid hb.2.2.1
  clear hT hb
  cases hr : readP T with
  | none =>
    have HZ : Hid (wordsT T = []) := by unfold Hid wordsT; rw [hr]
    have HR : rightT T = false := by unfold rightT; rw [hr]; rfl
    rw [HR] at HC
    clear hr HR
    go_enter Tryz.func20, Tryz.ntmps20
    go_upto_region 1 with fail
    rw [← hW]
    clear hW
    go_wp2_with fail
    refine HC.out.mono ?_
    rintro e w1 ⟨rfl, hb1⟩
    go_wp2
    go_ret
    exact ⟨_, rfl, by rw [HZ.out]; exact OwnW.nil _ _, hB.trans (hb1.mono hB.size)⟩
  | some r =>
    have HZ : Hid (wordsT T = wordsR T) := by
      unfold Hid wordsT
      rw [hr]
      exact (readR7 (sp := r.1) (ws := r.2) hr).1.symm
    have HR : rightT T = true := by unfold rightT; rw [hr]; rfl
    rw [HR] at HC
    clear hr HR
    go_enter Tryz.func20, Tryz.ntmps20
    go_upto_region 1 with fail
    rw [← hW]
    clear hW
    go_wp2_with fail
    refine HC.out.mono ?_
    rintro e w1 ⟨rfl, hb1⟩
    have hO1 := hO.below hb1
    clear c0 c1 c2 c3
    have c0 : w1.cell? ⟨w.heap.size, 0, none⟩ = some (.slice ua un uc) := hO1.cell (i := 0) rfl rfl
    have c1 : w1.cell? ⟨w.heap.size, 1, none⟩ = some (.slice da dn dc) := hO1.cell (i := 0) rfl rfl
    have c2 : w1.cell? ⟨w.heap.size, 2, none⟩ = some (.slice xa xn xc) := hO1.cell (i := 0) rfl rfl
    have c3 : w1.cell? ⟨w.heap.size, 3, none⟩ = some (.slice ba bn bc) := hO1.cell (i := 0) rfl rfl
    have HW := Lib.hid (rwords7_any _ T w1 (HT.out.below hb1) HB3.out)
    go_wp2_with fail
    refine HW.out.mono ?_
    rintro e w2 ⟨v, rfl, hv, hb2⟩
    have hB1 := hB.trans (hb1.mono hB.size)
    go_wp2
    go_ret
    exact ⟨v, rfl, by rw [HZ.out]; exact hv.mono hB1.size, hB1.trans (hb2.mono hB1.size)⟩

set_option maxHeartbeats 2000000 in
theorem rspell7_no (t : TV) (T : TrieT) (node : Int) (w : World) (hT : Tri w t T) (hb : t.un ≤ 140737488351232 ∧ t.dn ≤ 140737488351232 ∧ t.xn ≤ 140737488351232 ∧ t.bn ≤ 140737488351232) (hs : spellT T node = none) :
    Calls Tryz.prog 18 #[.agg t.cells, .int .i64 node] w fun e w' => e = .returned (.tuple #[.slice none 0 0, .bool false]) ∧ Below w.heap.size w w' := by
  obtain ⟨ua, un, uc, da, dn, dc, xa, xn, xc, ba, bn, bc⟩ := t
  obtain ⟨W, hW⟩ : ∃ W, W = w.alloc (.cells #[.slice ua un uc, .slice da dn dc, .slice xa xn xc, .slice ba bn bc] 28) := ⟨_, rfl⟩
  have hB : Below w.heap.size w W := by rw [hW]; exact below_alloc _ _
  have hO : Bx w.heap.size [.cells #[.slice ua un uc, .slice da dn dc, .slice xa xn xc, .slice ba bn bc] 28] W := by rw [hW]; exact (Bx.nil _ w).snoc _ rfl
  have c0 : W.cell? ⟨w.heap.size, 0, none⟩ = some (.slice ua un uc) := hO.cell (i := 0) rfl rfl
  have c1 : W.cell? ⟨w.heap.size, 1, none⟩ = some (.slice da dn dc) := hO.cell (i := 0) rfl rfl
  have c2 : W.cell? ⟨w.heap.size, 2, none⟩ = some (.slice xa xn xc) := hO.cell (i := 0) rfl rfl
  have c3 : W.cell? ⟨w.heap.size, 3, none⟩ = some (.slice ba bn bc) := hO.cell (i := 0) rfl rfl
  have HC := Lib.hid (rright7_any _ T W (hT.below hB) hb)
  have hul : T.up.length = un := hT.up.1
  clear hT hb
  have e0 : rightT T = false ∨ (rightT T = true ∧ (decide (node < 0) = true ∨ (decide (node < 0) = false ∧ decide ((un : Int) ≤ node) = true))) := by
    unfold spellT at hs
    unfold rightT
    cases hr : readP T with
    | none => exact .inl rfl
    | some r =>
      rw [hr] at hs
      refine .inr ⟨rfl, ?_⟩
      dsimp only at hs
      by_cases h0 : node < 0
      · exact .inl (by simpa using h0)
      · rw [if_neg h0] at hs
        refine .inr ⟨by simpa using h0, ?_⟩
        have h1 := List.getElem?_eq_none_iff.1 hs
        have h2 := (readP_len (sp := r.1) (ws := r.2) hr).2.2
        simp
        omega
  clear hs hul
  rcases e0 with e1 | ⟨e1, e2 | ⟨e2, e3⟩⟩
  all_goals
    rw [e1] at HC
    clear e1
    go_enter Tryz.func18, Tryz.ntmps18
    go_upto_region 1 with fail
    rw [← hW]
    clear hW
    go_wp2_with fail
    refine HC.out.mono ?_
    rintro e w1 ⟨rfl, hb1⟩
    have hO1 := hO.below hb1
    clear c0 c1 c2 c3
    have c0 : w1.cell? ⟨w.heap.size, 0, none⟩ = some (.slice ua un uc) := hO1.cell (i := 0) rfl rfl
    go_wp2
    go_ret2
    exact ⟨rfl, hB.trans (hb1.mono hB.size)⟩

set_option maxHeartbeats 2000000 in
theorem rspell7_yes (t : TV) (T : TrieT) (node : Int) (x : List Int) (w : World) (hT : Tri w t T) (hb : t.un ≤ 140737488351232 ∧ t.dn ≤ 140737488351232 ∧ t.xn ≤ 140737488351232 ∧ t.bn ≤ 140737488351232) (hs : spellT T node = some x) :
    Calls Tryz.prog 18 #[.agg t.cells, .int .i64 node] w fun e w' => ∃ v, e = .returned (.tuple #[v, .bool true]) ∧ OwnU w' w.heap.size v x ∧ Below w.heap.size w w' := by
  obtain ⟨ua, un, uc, da, dn, dc, xa, xn, xc, ba, bn, bc⟩ := t
  obtain ⟨W, hW⟩ : ∃ W, W = w.alloc (.cells #[.slice ua un uc, .slice da dn dc, .slice xa xn xc, .slice ba bn bc] 28) := ⟨_, rfl⟩
  have hB : Below w.heap.size w W := by rw [hW]; exact below_alloc _ _
  have hO : Bx w.heap.size [.cells #[.slice ua un uc, .slice da dn dc, .slice xa xn xc, .slice ba bn bc] 28] W := by rw [hW]; exact (Bx.nil _ w).snoc _ rfl
  have c0 : W.cell? ⟨w.heap.size, 0, none⟩ = some (.slice ua un uc) := hO.cell (i := 0) rfl rfl
  have c1 : W.cell? ⟨w.heap.size, 1, none⟩ = some (.slice da dn dc) := hO.cell (i := 0) rfl rfl
  have c2 : W.cell? ⟨w.heap.size, 2, none⟩ = some (.slice xa xn xc) := hO.cell (i := 0) rfl rfl
  have c3 : W.cell? ⟨w.heap.size, 3, none⟩ = some (.slice ba bn bc) := hO.cell (i := 0) rfl rfl
  have HC := Lib.hid (rright7_any _ T W (hT.below hB) hb)
  have HT := Lib.hid (hT.below hB)
  have hul : T.up.length = un := hT.up.1
  clear hT hb
  have e0 : rightT T = true ∧ decide (node < 0) = false ∧ decide ((un : Int) ≤ node) = false ∧ spellR T node = x := by
    unfold spellT at hs
    unfold rightT
    cases hr : readP T with
    | none => rw [hr] at hs; cases hs
    | some r =>
      rw [hr] at hs
      dsimp only at hs
      by_cases h0 : node < 0
      · rw [if_pos h0] at hs; cases hs
      · rw [if_neg h0] at hs
        obtain ⟨j, rfl⟩ := Int.eq_ofNat_of_zero_le (show 0 ≤ node by omega)
        rw [Int.toNat_natCast] at hs
        have h1 := (List.getElem?_eq_some_iff.1 hs).1
        have h2 := (readP_len (sp := r.1) (ws := r.2) hr).2.2
        refine ⟨rfl, by simp, by simp; omega, (readR7 (sp := r.1) (ws := r.2) hr).2 j x hs⟩
  clear hs hul
  obtain ⟨e1, e2, e3, e4⟩ := e0
  have HS := Lib.hid e4
  rw [e1] at HC
  clear e1 e4
  go_enter Tryz.func18, Tryz.ntmps18
  go_upto_region 1 with fail
  rw [← hW]
  clear hW
  go_wp2_with fail
  refine HC.out.mono ?_
  rintro e w1 ⟨rfl, hb1⟩
  have hO1 := hO.below hb1
  clear c0 c1 c2 c3
  have c0 : w1.cell? ⟨w.heap.size, 0, none⟩ = some (.slice ua un uc) := hO1.cell (i := 0) rfl rfl
  have c1 : w1.cell? ⟨w.heap.size, 1, none⟩ = some (.slice da dn dc) := hO1.cell (i := 0) rfl rfl
  have c2 : w1.cell? ⟨w.heap.size, 2, none⟩ = some (.slice xa xn xc) := hO1.cell (i := 0) rfl rfl
  have c3 : w1.cell? ⟨w.heap.size, 3, none⟩ = some (.slice ba bn bc) := hO1.cell (i := 0) rfl rfl
  have HW := Lib.hid (rspell7_any _ T node w1 (HT.out.below hb1))
  go_wp2_with fail
  refine HW.out.mono ?_
  rintro e w2 ⟨v, rfl, hv, hb2⟩
  have hB1 := hB.trans (hb1.mono hB.size)
  rw [HS.out] at hv
  go_wp2
  go_ret2
  exact ⟨v, rfl, row_mono hv hB1.size, hB1.trans (hb2.mono hB1.size)⟩
end Go.Proofs.YtifcoalhkcflnaaGreat

/- The document's tries (layer 7): where bytes are found, kids, which are too great; walked. Printed by exp.py. -/


namespace Go.Proofs.YtifcoalhkcflnaaGreat
open Go.RowKit Go.Sort
set_option linter.unusedVariables false
set_option linter.unusedSimpArgs false

abbrev Bd4 (t : TV) : Prop := t.un ≤ 140737488351232 ∧ t.dn ≤ 140737488351232 ∧ t.xn ≤ 140737488351232 ∧ t.bn ≤ 140737488351232
theorem findP_place (sp : List (List Int)) (b : List Int) : findP sp b = if placeS sp b < 0 then (0, false) else (placeS sp b, true) := by
  unfold findP placeS
  by_cases h : b ∈ sp
  · rw [if_pos h, if_pos h, if_neg (by omega)]
  · rw [if_neg h, if_neg h, if_pos (by decide)]

set_option maxRecDepth 100000 in
set_option maxHeartbeats 4000000 in
theorem rfind7_any (t : TV) (T : TrieT) (a : Option Addr) (n c : Nat) (x : List Int) (w : World) (hT : Tri w t T) (hb : Bd4 t) (hX : Bys w a n x) :
    Calls Tryz.prog 15 #[.agg t.cells, .slice a n c] w fun e w' => e = .returned (.tuple #[.int .i64 (findT T x).1, .bool (findT T x).2]) ∧ Below w.heap.size w w' := by
  obtain ⟨ua, un, uc, da, dn, dc, xa, xn, xc, ba, bn, bc⟩ := t
  obtain ⟨W, hW⟩ : ∃ W, W = w.alloc (.cells #[.slice ua un uc, .slice da dn dc, .slice xa xn xc, .slice ba bn bc] 28) := ⟨_, rfl⟩
  have hB : Below w.heap.size w W := by rw [hW]; exact below_alloc _ _
  have hO : Bx w.heap.size [.cells #[.slice ua un uc, .slice da dn dc, .slice xa xn xc, .slice ba bn bc] 28] W := by rw [hW]; exact (Bx.nil _ w).snoc _ rfl
  have c0 : W.cell? ⟨w.heap.size, 0, none⟩ = some (.slice ua un uc) := hO.cell (i := 0) rfl rfl
  have c1 : W.cell? ⟨w.heap.size, 1, none⟩ = some (.slice da dn dc) := hO.cell (i := 0) rfl rfl
  have c2 : W.cell? ⟨w.heap.size, 2, none⟩ = some (.slice xa xn xc) := hO.cell (i := 0) rfl rfl
  have c3 : W.cell? ⟨w.heap.size, 3, none⟩ = some (.slice ba bn bc) := hO.cell (i := 0) rfl rfl
  have HC := Lib.hid (rright7_any _ T W (hT.below hB) hb)
  have HT := Lib.hid (hT.below hB)
  have HB3 := Lib.hid hb.2.2.1
  have HX := Lib.hid hX
  clear hT hb hX
  cases hr : readP T with
  | none =>
    have HZ : Hid (findT T x = (0, false)) := by unfold Hid findT; rw [hr]
    have HR : rightT T = false := by unfold rightT; rw [hr]; rfl
    rw [HR] at HC
    clear hr HR
    go_enter Tryz.func15, Tryz.ntmps15
    go_upto_region 1 with fail
    rw [← hW]
    clear hW
    go_wp2_with fail
    refine HC.out.mono ?_
    rintro e w1 ⟨rfl, hb1⟩
    go_wp2
    go_ret2
    exact ⟨by rw [HZ.out]; rfl, hB.trans (hb1.mono hB.size)⟩
  | some r =>
    obtain ⟨hr1, hr2, hr3⟩ := readP_iff.1 (show readP T = some (r.1, r.2) from hr)
    have HZ : Hid (findT T x = findP (nodesL (wordsR T)) x) := by
      unfold Hid findT
      rw [hr]
      dsimp only
      rw [hr3, (readR7 (sp := r.1) (ws := r.2) hr).1]
    have HWL := Lib.hid (wordsR_bd T)
    have HNL : Hid ((nodesL (wordsR T)).length ≤ 400) := by
      rw [Hid, (readR7 (sp := r.1) (ws := r.2) hr).1]
      exact (right_nodes hr1).2
    have HR : rightT T = true := by unfold rightT; rw [hr]; rfl
    rw [HR] at HC
    clear hr HR hr1 hr2 hr3
    go_enter Tryz.func15, Tryz.ntmps15
    go_upto_region 1 with fail
    rw [← hW]
    clear hW
    go_wp2_with fail
    refine HC.out.mono ?_
    rintro e w1 ⟨rfl, hb1⟩
    have hO1 := hO.below hb1
    clear c0 c1 c2 c3
    have c0 : w1.cell? ⟨w.heap.size, 0, none⟩ = some (.slice ua un uc) := hO1.cell (i := 0) rfl rfl
    have c1 : w1.cell? ⟨w.heap.size, 1, none⟩ = some (.slice da dn dc) := hO1.cell (i := 0) rfl rfl
    have c2 : w1.cell? ⟨w.heap.size, 2, none⟩ = some (.slice xa xn xc) := hO1.cell (i := 0) rfl rfl
    have c3 : w1.cell? ⟨w.heap.size, 3, none⟩ = some (.slice ba bn bc) := hO1.cell (i := 0) rfl rfl
    have HW := Lib.hid (rwords7_any _ T w1 (HT.out.below hb1) HB3.out)
    have hB1 := hB.trans (hb1.mono hB.size)
    go_wp2_with fail
    refine HW.out.mono ?_
    rintro e w2 ⟨v, rfl, hv, hb2⟩
    obtain ⟨av, cv, rfl, hcv, hwd⟩ := hv.wds
    have hB2 := hB1.trans (hb2.mono hB1.size)
    have hlw := HWL.out.1
    have HN := Lib.hid (rnodes7_any av _ cv (wordsR T) w2 hwd (by omega) (fun y hy => by have := HWL.out.2 y hy; omega))
    clear hv hwd c0 c1 c2 c3 hO1 hO hb1 hb2 hB hB1
    go_wp2_with fail
    refine HN.out.mono ?_
    rintro e w3 ⟨an, cn, rfl, hcn, hnd, hb3⟩
    have hB3 := hB2.trans (hb3.mono hB2.size)
    have hln := HNL.out
    have HP := Lib.hid (rplace7_any an a _ cn n c _ x w3 hnd (HX.out.below hB3) (by omega))
    clear hnd hb3
    go_wp2_with fail
    refine HP.out.mono ?_
    rintro e w4 ⟨rfl, hb4⟩
    have hB4 := hB3.trans (hb4.mono hB3.size)
    have HF := Lib.hid (findP_place (nodesL (wordsR T)) x)
    obtain ⟨p, hp⟩ : ∃ p, placeS (nodesL (wordsR T)) x = p := ⟨_, rfl⟩
    rw [hp] at HF ⊢
    clear hp
    by_cases hp0 : p < 0
    · have e1 : decide (p < 0) = true := by simpa using hp0
      have HZ2 : Hid (findT T x = (0, false)) := by rw [Hid, HZ.out, HF.out, if_pos hp0]
      go_wp2
      go_ret2
      exact ⟨by rw [HZ2.out]; rfl, hB4⟩
    · have e1 : decide (p < 0) = false := by simpa using hp0
      have HZ2 : Hid (findT T x = (p, true)) := by rw [Hid, HZ.out, HF.out, if_neg hp0]
      go_wp2
      go_ret2
      exact ⟨by rw [HZ2.out]; rfl, hB4⟩

set_option maxHeartbeats 2000000 in
theorem rgreat7_no (t : TV) (w : World) (h : t.un ≤ 500 ∧ t.dn ≤ 500 ∧ t.xn ≤ 500 ∧ t.bn ≤ 500) :
    Calls Tryz.prog 8 #[.agg t.cells] w fun e w' => e = .returned (.bool false) ∧ Below w.heap.size w w' := by
  obtain ⟨ua, un, uc, da, dn, dc, xa, xn, xc, ba, bn, bc⟩ := t
  obtain ⟨h1, h2, h3, h4⟩ := h
  dsimp only at h1 h2 h3 h4
  have e1 : decide ((500 : Int) < (un : Int)) = false := by simp; omega
  have e1' : decide (500 < un) = false := by simp; omega
  have e2 : decide ((500 : Int) < (dn : Int)) = false := by simp; omega
  have e2' : decide (500 < dn) = false := by simp; omega
  have e3 : decide ((500 : Int) < (xn : Int)) = false := by simp; omega
  have e3' : decide (500 < xn) = false := by simp; omega
  have e4 : decide ((500 : Int) < (bn : Int)) = false := by simp; omega
  have e4' : decide (500 < bn) = false := by simp; omega
  clear h1 h2 h3 h4
  go_enter Tryz.func8, Tryz.ntmps8
  go_wp2
  go_ret
  exact ⟨rfl, below_alloc _ _⟩

set_option maxHeartbeats 2000000 in
theorem rgreat7_yes (t : TV) (w : World) (h : ¬ (t.un ≤ 500 ∧ t.dn ≤ 500 ∧ t.xn ≤ 500 ∧ t.bn ≤ 500)) :
    Calls Tryz.prog 8 #[.agg t.cells] w fun e w' => e = .returned (.bool true) ∧ Below w.heap.size w w' := by
  obtain ⟨ua, un, uc, da, dn, dc, xa, xn, xc, ba, bn, bc⟩ := t
  dsimp only at h
  have two : ∀ k : Nat, (decide ((500 : Int) < (k : Int)) = true ∧ decide (500 < k) = true) ∨ (decide ((500 : Int) < (k : Int)) = false ∧ decide (500 < k) = false ∧ k ≤ 500) := fun k => by
    by_cases hk : k ≤ 500
    · exact .inr ⟨by simp; omega, by simp; omega, hk⟩
    · exact .inl ⟨by simp; omega, by simp; omega⟩
  have H := Lib.hid h
  clear h
  rcases two un with ⟨e1, e1'⟩ | ⟨e1, e1', k1⟩
  · go_enter Tryz.func8, Tryz.ntmps8
    go_wp2
    go_ret
    exact ⟨rfl, below_alloc _ _⟩
  rcases two dn with ⟨e2, e2'⟩ | ⟨e2, e2', k2⟩
  · go_enter Tryz.func8, Tryz.ntmps8
    go_wp2
    go_ret
    exact ⟨rfl, below_alloc _ _⟩
  rcases two xn with ⟨e3, e3'⟩ | ⟨e3, e3', k3⟩
  · go_enter Tryz.func8, Tryz.ntmps8
    go_wp2
    go_ret
    exact ⟨rfl, below_alloc _ _⟩
  rcases two bn with ⟨e4, e4'⟩ | ⟨e4, e4', k4⟩
  · go_enter Tryz.func8, Tryz.ntmps8
    go_wp2
    go_ret
    exact ⟨rfl, below_alloc _ _⟩
  exact absurd ⟨k1, k2, k3, k4⟩ H.out

theorem slk_lit (W : World) (z : Int) : SlK 1 (W.alloc (.cells #[.int .u8 z] 5)) (some ⟨W.heap.size, 0, none⟩) 1 [.int .u8 z] :=
  ⟨rfl, .inr ⟨_, _, rfl, by simp, fun i u hu => by
    have := cells_new (w := W) #[.int .u8 z] 5 rfl i u (by simpa using hu)
    rwa [add_plain] at this⟩⟩
/-- The document's kid: the node of a node's bytes and one more. -/
def rkidT (T : TrieT) (node c : Int) : Int × Bool := match spellT T node with
  | none => (0, false)
  | some x => findT T (x ++ [c])
set_option maxHeartbeats 2000000 in
theorem rkid7_no (t : TV) (T : TrieT) (node c : Int) (w : World) (hT : Tri w t T) (hb : Bd4 t) (hs : spellT T node = none) :
    Calls Tryz.prog 13 #[.agg t.cells, .int .i64 node, .int .u8 c] w fun e w' => e = .returned (.tuple #[.int .i64 0, .bool false]) ∧ Below w.heap.size w w' := by
  obtain ⟨ua, un, uc, da, dn, dc, xa, xn, xc, ba, bn, bc⟩ := t
  obtain ⟨W, hW⟩ : ∃ W, W = w.alloc (.cells #[.slice ua un uc, .slice da dn dc, .slice xa xn xc, .slice ba bn bc] 28) := ⟨_, rfl⟩
  have hB : Below w.heap.size w W := by rw [hW]; exact below_alloc _ _
  have hO : Bx w.heap.size [.cells #[.slice ua un uc, .slice da dn dc, .slice xa xn xc, .slice ba bn bc] 28] W := by rw [hW]; exact (Bx.nil _ w).snoc _ rfl
  have c0 : W.cell? ⟨w.heap.size, 0, none⟩ = some (.slice ua un uc) := hO.cell (i := 0) rfl rfl
  have c1 : W.cell? ⟨w.heap.size, 1, none⟩ = some (.slice da dn dc) := hO.cell (i := 0) rfl rfl
  have c2 : W.cell? ⟨w.heap.size, 2, none⟩ = some (.slice xa xn xc) := hO.cell (i := 0) rfl rfl
  have c3 : W.cell? ⟨w.heap.size, 3, none⟩ = some (.slice ba bn bc) := hO.cell (i := 0) rfl rfl
  have HC := Lib.hid (rspell7_no _ T node W (hT.below hB) hb hs)
  clear hT hb hs
  go_enter Tryz.func13, Tryz.ntmps13
  go_upto_region 1 with fail
  rw [← hW]
  clear hW
  go_wp2_with fail
  refine HC.out.mono ?_
  rintro e w1 ⟨rfl, hb1⟩
  go_wp2
  go_ret2
  exact ⟨rfl, hB.trans (hb1.mono hB.size)⟩

set_option maxRecDepth 100000 in
set_option maxHeartbeats 4000000 in
theorem rkid7_yes (t : TV) (T : TrieT) (node c : Int) (x : List Int) (w : World) (hT : Tri w t T) (hb : Bd4 t) (hs : spellT T node = some x) (hx : x.length ≤ 1000 ∧ ∀ y ∈ x, 0 ≤ y ∧ y ≤ 255) (hc : 0 ≤ c ∧ c ≤ 255) :
    Calls Tryz.prog 13 #[.agg t.cells, .int .i64 node, .int .u8 c] w fun e w' => e = .returned (.tuple #[.int .i64 (findT T (x ++ [c])).1, .bool (findT T (x ++ [c])).2]) ∧ Below w.heap.size w w' := by
  obtain ⟨iU, hj, hy0, hy1, hy2⟩ := info_parts u8_info7
  obtain ⟨ua, un, uc, da, dn, dc, xa, xn, xc, ba, bn, bc⟩ := t
  obtain ⟨W, hW⟩ : ∃ W, W = w.alloc (.cells #[.slice ua un uc, .slice da dn dc, .slice xa xn xc, .slice ba bn bc] 28) := ⟨_, rfl⟩
  have hB : Below w.heap.size w W := by rw [hW]; exact below_alloc _ _
  have hO : Bx w.heap.size [.cells #[.slice ua un uc, .slice da dn dc, .slice xa xn xc, .slice ba bn bc] 28] W := by rw [hW]; exact (Bx.nil _ w).snoc _ rfl
  have c0 : W.cell? ⟨w.heap.size, 0, none⟩ = some (.slice ua un uc) := hO.cell (i := 0) rfl rfl
  have c1 : W.cell? ⟨w.heap.size, 1, none⟩ = some (.slice da dn dc) := hO.cell (i := 0) rfl rfl
  have c2 : W.cell? ⟨w.heap.size, 2, none⟩ = some (.slice xa xn xc) := hO.cell (i := 0) rfl rfl
  have c3 : W.cell? ⟨w.heap.size, 3, none⟩ = some (.slice ba bn bc) := hO.cell (i := 0) rfl rfl
  have HC := Lib.hid (rspell7_yes _ T node x W (hT.below hB) hb hs)
  have HT := Lib.hid (hT.below hB)
  have HBB := Lib.hid hb
  have HXB := Lib.hid hx.2
  have HCB := Lib.hid hc
  have hx1 := hx.1
  have HO := Lib.hid hO
  have hW0 : w.heap.size < W.heap.size := by rw [hW]; simp
  clear hT hb hs hx hc hO
  go_enter Tryz.func13, Tryz.ntmps13
  go_upto_region 1 with fail
  rw [← hW]
  clear hW
  go_wp2_with fail
  refine HC.out.mono ?_
  rintro e w1 ⟨v, rfl, hv, hb1⟩
  obtain ⟨n, hn⟩ : ∃ n, x.length = n := ⟨_, rfl⟩
  have hv' : w1.ownsRow W.heap.size 5 1 v n (x.map (Value.int .u8)) := by rw [← hn]; exact hv
  rw [hn] at hx1
  have HN := Lib.hid hn
  obtain ⟨av, cv, rfl, hcv, _⟩ := own_sl1 hv'
  clear c0 c1 c2 c3 hv hn
  have HV := Lib.hid hv'
  have HB1 := Lib.hid hb1
  clear hv' hb1
  have SEE : Hid (∀ V, RowKit.Below W.heap.size W V → V.cell? ⟨w.heap.size, 0, none⟩ = some (.slice ua un uc) ∧ V.cell? ⟨w.heap.size, 1, none⟩ = some (.slice da dn dc) ∧ V.cell? ⟨w.heap.size, 2, none⟩ = some (.slice xa xn xc) ∧ V.cell? ⟨w.heap.size, 3, none⟩ = some (.slice ba bn bc)) := fun V hV =>
    have h := HO.out.below hV
    ⟨h.cell (i := 0) rfl rfl, h.cell (i := 0) rfl rfl, h.cell (i := 0) rfl rfl, h.cell (i := 0) rfl rfl⟩
  have HBD : Hid (RowKit.Below W.heap.size W w1.drew) := HB1.out.trans ((bel_drewN w1 1).mono HB1.out.size)
  go_upto_region 4 with fail
  refine wp_region_noPanic ?_
  refine wp_region_held_drew (S := RowKit.Below W.heap.size W) (by kernel_rfl) HBD.out (fun hHeld => ?_)
  refine wpAnyH_take (i := 0) (v := ?_) (by simp only [List.getElem?_toArray, List.getElem?_cons_zero, List.getElem?_cons_succ]; rfl) (by as_aux_lemma => kernel_rfl) (by as_aux_lemma => kernel_rfl) (by as_aux_lemma => kernel_rfl) (fun _ _ _ h => h) (Or.inl ⟨by rfl, ?_⟩) (by assumption) ?_
  rotate_left
  · intro V hV
    obtain ⟨r0, r1, r2, r3⟩ := SEE.out V hV
    first | (go_simp; done) | (go_simp; with_reducible rfl)
  try simp only [Act.put, List.setIfInBounds_toArray, List.set_cons_zero, List.set_cons_succ]
  refine wpAnyH_take (i := 1) (v := ?_) (by simp only [List.getElem?_toArray, List.getElem?_cons_zero, List.getElem?_cons_succ]; rfl) (by as_aux_lemma => kernel_rfl) (by as_aux_lemma => kernel_rfl) (by as_aux_lemma => kernel_rfl) (fun _ _ _ h => h) (Or.inl ⟨by rfl, ?_⟩) (by assumption) ?_
  rotate_left
  · intro V hV
    obtain ⟨r0, r1, r2, r3⟩ := SEE.out V hV
    first | (go_simp; done) | (go_simp; with_reducible rfl)
  try simp only [Act.put, List.setIfInBounds_toArray, List.set_cons_zero, List.set_cons_succ]
  refine wpAnyH_take (i := 2) (v := ?_) (by simp only [List.getElem?_toArray, List.getElem?_cons_zero, List.getElem?_cons_succ]; rfl) (by as_aux_lemma => kernel_rfl) (by as_aux_lemma => kernel_rfl) (by as_aux_lemma => kernel_rfl) (fun _ _ _ h => h) (Or.inl ⟨by rfl, ?_⟩) (by assumption) ?_
  rotate_left
  · intro V hV
    obtain ⟨r0, r1, r2, r3⟩ := SEE.out V hV
    first | (go_simp; done) | (go_simp; with_reducible rfl)
  try simp only [Act.put, List.setIfInBounds_toArray, List.set_cons_zero, List.set_cons_succ]
  refine wpAnyH_ready (rs := [3]) (by as_aux_lemma => kernel_rfl) (by simp) ?_
  refine AllReadyH.cons (by simp only [List.getElem?_toArray, List.getElem?_cons_zero, List.getElem?_cons_succ]; rfl) (fun K hK => ?_) AllReadyH.nil
  go_simp
  refine hK.out _ _ (hHeld.alloc hHeld.size _) (fun hNew => ?_)
  clear hK K hHeld
  have hHeld := hNew
  clear hNew
  try simp only [Act.put, List.setIfInBounds_toArray, List.set_cons_zero, List.set_cons_succ]
  refine wpAnyH_ready (rs := [4]) (by as_aux_lemma => kernel_rfl) (by simp) ?_
  refine AllReadyH.cons (by simp only [List.getElem?_toArray, List.getElem?_cons_zero, List.getElem?_cons_succ]; rfl) (fun K hK => ?_) AllReadyH.nil
  refine wanted_step (by kernel_rfl) ?_
  refine oper_append_slK _ _ _ 26 rfl W.heap.size 5 iU (.int .u8 0) 1 1 Tryz.underlying26 hj hy0 hy1 hy2 rfl (by decide) _ n _ rfl (World.ownsRow.alloc (World.ownsRow.drew HV.out) _) (some ⟨w1.drew.heap.size, 0, none⟩) 1 1 [.int .u8 c] rfl (slk_lit w1.drew c) (by simp [Value.oneCell']) (by unfold maxLen; omega) (by omega) hHeld.size ?_
  intro v' w3 hown' hgrow hat
  have hB3 : RowKit.Below W.heap.size W w3 := hHeld.grown hgrow hHeld.size (fun j hj => (row_lt HV.out j hj).1)
  have hown3 : w3.ownsRow W.heap.size 5 1 v' (n + 1) ((x ++ [c]).map (Value.int .u8)) := by
    rw [List.map_append]
    exact hown'
  obtain ⟨a3, c3, rfl, _, hs3⟩ := own_sl1 hown3
  have HF := Lib.hid (rfind7_any _ T a3 (n + 1) c3 (x ++ [c]) w3 (HT.out.below hB3) HBB.out ⟨hs3, fun y hy => by
    rw [List.mem_append, List.mem_singleton] at hy
    rcases hy with hy | rfl
    · exact HXB.out y hy
    · exact HCB.out⟩)
  refine hK.out _ _ hB3 (fun hNew => ?_)
  clear hK K hHeld
  have hHeld := hNew
  clear hNew hown' hgrow hat hs3 hown3
  try simp only [Act.put, List.setIfInBounds_toArray, List.set_cons_zero, List.set_cons_succ]
  refine wpAnyH_ready (rs := [5]) (by as_aux_lemma => kernel_rfl) (by simp) ?_
  refine AllReadyH.cons (by simp only [List.getElem?_toArray, List.getElem?_cons_zero, List.getElem?_cons_succ]; rfl) (fun K hK => ?_) AllReadyH.nil
  go_simp
  go_at_call 15; refine HF.out.mono ?_; rintro e w4 ⟨rfl, hb4⟩
  refine hK.out _ _ (hB3.trans (hb4.mono hB3.size)) (fun hNew => ?_)
  clear hK K hHeld
  have hHeld := hNew
  clear hNew
  try simp only [Act.put, List.setIfInBounds_toArray, List.set_cons_zero, List.set_cons_succ]
  refine wpAnyH_take (i := 6) (v := ?_) (by simp only [List.getElem?_toArray, List.getElem?_cons_zero, List.getElem?_cons_succ]; rfl) (by as_aux_lemma => kernel_rfl) (by as_aux_lemma => kernel_rfl) (by as_aux_lemma => kernel_rfl) (fun _ _ _ h => h) (Or.inl ⟨by rfl, ?_⟩) (by assumption) ?_
  rotate_left
  · intro V hV
    first | (go_simp; done) | (go_simp; with_reducible rfl)
  try simp only [Act.put, List.setIfInBounds_toArray, List.set_cons_zero, List.set_cons_succ]
  refine wpAnyH_take (i := 7) (v := ?_) (by simp only [List.getElem?_toArray, List.getElem?_cons_zero, List.getElem?_cons_succ]; rfl) (by as_aux_lemma => kernel_rfl) (by as_aux_lemma => kernel_rfl) (by as_aux_lemma => kernel_rfl) (fun _ _ _ h => h) (Or.inl ⟨by rfl, ?_⟩) (by assumption) ?_
  rotate_left
  · intro V hV
    first | (go_simp; done) | (go_simp; with_reducible rfl)
  try simp only [Act.put, List.setIfInBounds_toArray, List.set_cons_zero, List.set_cons_succ]
  refine wpAnyH_take (i := 8) (v := ?_) (by simp only [List.getElem?_toArray, List.getElem?_cons_zero, List.getElem?_cons_succ]; rfl) (by as_aux_lemma => kernel_rfl) (by as_aux_lemma => kernel_rfl) (by as_aux_lemma => kernel_rfl) (fun _ _ _ h => h) (Or.inl ⟨by rfl, ?_⟩) (by assumption) ?_
  rotate_left
  · intro V hV
    first | (go_simp; done) | (go_simp; with_reducible rfl)
  try simp only [Act.put, List.setIfInBounds_toArray, List.set_cons_zero, List.set_cons_succ]
  refine wpAnyH_take (i := 9) (v := ?_) (by simp only [List.getElem?_toArray, List.getElem?_cons_zero, List.getElem?_cons_succ]; rfl) (by as_aux_lemma => kernel_rfl) (by as_aux_lemma => kernel_rfl) (by as_aux_lemma => kernel_rfl) (fun _ _ _ h => h) (Or.inl ⟨by rfl, ?_⟩) (by assumption) ?_
  rotate_left
  · intro V hV
    first | (go_simp; done) | (go_simp; with_reducible rfl)
  try simp only [Act.put, List.setIfInBounds_toArray, List.set_cons_zero, List.set_cons_succ]
  refine wpAnyH_done (by kernel_rfl) ?_ _
  refine NoPanic.normal ?_
  go_wp2
  go_ret2
  exact ⟨rfl, hB.trans (hHeld.mono hB.size)⟩
end Go.Proofs.YtifcoalhkcflnaaGreat

/- Tries (layer 7): what the law with the document's answers leans on: contracts brought together; two calls of which either may come first. -/



namespace Go.Proofs.YtifcoalhkcflnaaGreat
open Go.RowKit Go.Sort
set_option linter.unusedVariables false
set_option linter.unusedSimpArgs false

theorem rkid_same {T : TrieT} {node c r : Int} {ok : Bool} (h1 : rightT T = true → KidR T node c r ok) (h2 : rightT T = false → r = 0 ∧ ok = false) : rkidT T node c = (r, ok) := by
  unfold rightT at h1 h2
  cases hr : readP T with
  | none =>
    obtain ⟨rfl, rfl⟩ := h2 (by rw [hr]; rfl)
    unfold rkidT spellT
    rw [hr]
  | some q =>
    obtain ⟨sp, ws⟩ := q
    have hk := h1 (by rw [hr]; rfl)
    obtain ⟨g1, rfl, rfl⟩ := readP_iff.1 hr
    unfold rkidT spellT
    rw [hr]
    dsimp only
    have none_ : (∀ j : Nat, j < (nodesL ws).length → node ≠ j) → (0, false) = (r, ok) := fun hno => by
      cases ok with
      | false => rw [(hk.2 rfl).1]
      | true =>
        exfalso
        obtain ⟨k, _, k1, k2, k3, k4⟩ := hk.1 rfl
        rw [trie_lens.1] at k2
        obtain ⟨y, hy⟩ : ∃ y, (nodesL ws)[k]? = some y := ⟨(nodesL ws)[k], by simp⟩
        obtain ⟨i, hi, hup, _⟩ := trie_up hy (node_back k1 hy)
        rw [hup] at k3
        exact hno i (by omega) (Option.some.inj k3).symm
    by_cases h0 : node < 0
    · rw [if_pos h0]
      exact none_ (fun j _ e => by omega)
    · rw [if_neg h0]
      obtain ⟨j, rfl⟩ := Int.eq_ofNat_of_zero_le (show 0 ≤ node by omega)
      rw [Int.toNat_natCast]
      cases hx : (nodesL ws)[j]? with
      | none =>
        have := List.getElem?_eq_none_iff.1 hx
        exact none_ (fun i hi e => by omega)
      | some x =>
        dsimp only
        unfold findT
        rw [hr]
        exact kid_find g1 hx hk
theorem spellT_bd {T : TrieT} {w : World} {a : Option Addr} {n : Nat} (hB : Bys w a n T.byt) {node : Int} {x : List Int} (h : spellT T node = some x) : x.length ≤ 1000 ∧ ∀ y ∈ x, 0 ≤ y ∧ y ≤ 255 := by
  unfold spellT at h
  cases hr : readP T with
  | none => rw [hr] at h; cases h
  | some q =>
    rw [hr] at h
    dsimp only at h
    by_cases h0 : node < 0
    · rw [if_pos h0] at h; cases h
    · rw [if_neg h0] at h
      have := (readR7 (sp := q.1) (ws := q.2) hr).2 _ x h
      subst this
      have := spellR_len T (node.toNat : Int)
      exact ⟨by omega, spellR_bd hB _⟩
theorem rkid7_any (t : TV) (T : TrieT) (node c : Int) (w : World) (hT : Tri w t T) (hb : Bd4 t) (hc : 0 ≤ c ∧ c ≤ 255) :
    Calls Tryz.prog 13 #[.agg t.cells, .int .i64 node, .int .u8 c] w fun e w' => e = .returned (.tuple #[.int .i64 (rkidT T node c).1, .bool (rkidT T node c).2]) ∧ Below w.heap.size w w' := by
  cases hs : spellT T node with
  | none =>
    have e : rkidT T node c = (0, false) := by unfold rkidT; rw [hs]
    rw [e]
    exact rkid7_no t T node c w hT hb hs
  | some x =>
    have e : rkidT T node c = findT T (x ++ [c]) := by unfold rkidT; rw [hs]
    rw [e]
    exact rkid7_yes t T node c x w hT hb hs (spellT_bd hT.byt hs) hc
/-- The bytes that Spell tells, and whether it tells any. -/
def spB (T : TrieT) (node : Int) : List Int := (spellT T node).getD []
theorem spell_uni (t : TV) (T : TrieT) (node : Int) (w : World) (hT : Tri w t T) (hb : Bd4 t) :
    Calls Tryz.prog 17 #[.agg t.cells, .int .i64 node] w fun e w' => ∃ a n c, e = .returned (.tuple #[.slice a n c, .bool (spellT T node).isSome]) ∧ Bys w' a n (spB T node) ∧ Below w.heap.size w w' := by
  refine (tspell_any t T node w hT hb.1).mono ?_
  rintro e w' ⟨h1, h2, h3⟩
  unfold spB
  cases hs : spellT T node with
  | none => exact ⟨none, 0, 0, h2 hs, Bys.nil _ _, h3⟩
  | some x =>
    obtain ⟨a, c, e1, e2, _⟩ := h1 x hs
    exact ⟨a, _, c, e1, e2, h3⟩
theorem rspell_uni (t : TV) (T : TrieT) (node : Int) (w : World) (hT : Tri w t T) (hb : Bd4 t) :
    Calls Tryz.prog 18 #[.agg t.cells, .int .i64 node] w fun e w' => ∃ a n c, e = .returned (.tuple #[.slice a n c, .bool (spellT T node).isSome]) ∧ Bys w' a n (spB T node) ∧ Below w.heap.size w w' := by
  unfold spB
  cases hs : spellT T node with
  | none =>
    refine (rspell7_no t T node w hT hb hs).mono ?_
    rintro e w' ⟨rfl, h⟩
    exact ⟨none, 0, 0, rfl, Bys.nil _ _, h⟩
  | some x =>
    refine (rspell7_yes t T node x w hT hb hs).mono ?_
    rintro e w' ⟨v, rfl, hv, h⟩
    obtain ⟨a, c, rfl, _, hB⟩ := own_bys hv (spellT_bd hT.byt hs).2
    exact ⟨a, _, c, rfl, hB, h⟩
/-- The trie that Make tells. -/
def mkT (fold : Bool) (wss : List (List Int)) : TrieT := if rightP fold wss = true then trieP wss else ⟨[], [], [], []⟩
def mkE (fold : Bool) (wss : List (List Int)) : Int := if rightP fold wss = true then 0 else 2
theorem tri_bd {fold : Bool} {wss : List (List Int)} (hr : rightP fold wss = true) {w : World} {t : TV} (hT : Tri w t (trieP wss)) : Bd4 t := by
  have hn := (right_nodes (right_false hr)).2
  have h1 := hT.up.1
  have h2 := hT.dep.1
  have h3 := hT.wrd.1
  have h4 := hT.byt.1.1
  rw [trie_lens.1] at h1
  rw [(trie_lens (ws := wss)).2.1] at h2
  rw [trie_lens.2.2.1] at h3
  rw [(trie_lens (ws := wss)).2.2.2] at h4
  refine ⟨?_, ?_, ?_, ?_⟩ <;> omega
theorem make_uni (fold : Bool) (a : Option Addr) (la ca : Nat) (wss : List (List Int)) (w : World) (hA : Wds w a la wss) (hla : la ≤ 1000000) (hM : ∀ x ∈ wss, x.length ≤ 1000000) (hT : (begL fold wss).length ≤ 1000000) :
    Calls Tryz.prog 10 #[.agg (setV fold a la ca)] w fun e w' => ∃ t : TV, e = .returned (.tuple #[.agg t.cells, .int .i64 (mkE fold wss)]) ∧ Tri w' t (mkT fold wss) ∧ Bd4 t ∧ Below w.heap.size w w' := by
  unfold mkE mkT
  cases hr : rightP fold wss with
  | false =>
    refine (make7_no fold a la ca wss w hA hla hM hT hr).mono ?_
    rintro e w' ⟨rfl, h⟩
    exact ⟨⟨none, 0, 0, none, 0, 0, none, 0, 0, none, 0, 0⟩, rfl, nil4_tri _, ⟨by decide, by decide, by decide, by decide⟩, h⟩
  | true =>
    refine (make7_yes fold a la ca wss w hA hla hM hT hr).mono ?_
    rintro e w' ⟨t, rfl, h, hb⟩
    exact ⟨t, rfl, h, tri_bd hr h, hb⟩
theorem rmake_uni (fold : Bool) (a : Option Addr) (la ca : Nat) (wss : List (List Int)) (w : World) (hA : Wds w a la wss) (hla : la ≤ 1000000) (hM : ∀ x ∈ wss, x.length ≤ 1000000) :
    Calls Tryz.prog 11 #[.agg (setV fold a la ca)] w fun e w' => ∃ t : TV, e = .returned (.tuple #[.agg t.cells, .int .i64 (mkE fold wss)]) ∧ Tri w' t (mkT fold wss) ∧ Bd4 t ∧ Below w.heap.size w w' := by
  unfold mkE mkT
  cases hr : rightP fold wss with
  | false =>
    refine (rmake7_no fold a la ca wss w hA hla hM hr).mono ?_
    rintro e w' ⟨rfl, h⟩
    exact ⟨⟨none, 0, 0, none, 0, 0, none, 0, 0, none, 0, 0⟩, rfl, nil4_tri _, ⟨by decide, by decide, by decide, by decide⟩, h⟩
  | true =>
    refine (rmake7_yes fold a la ca wss w hA hr).mono ?_
    rintro e w' ⟨t, rfl, h, hb⟩
    exact ⟨t, rfl, h, tri_bd hr h, hb⟩

section
variable {P : Program} {md : Region.Mode} {ops : Array Oper} {Q : Exit → Act → World → Prop} {S : World → Prop}
/-- An operation that is carried out in whatever world that meets S tells v, and S holds behind it. -/
def StepsTo (P : Program) (ops : Array Oper) (Q : Exit → Act → World → Prop) (S : World → Prop) (o : Oper) (v : Value) (a : Act) : Prop :=
  ∀ w, S w → ∀ K : Act → World → Prop, (∀ w', S w' → K (a.put o.dst v) w') → if Region.wanted o (yielded ops a.tmps) = true then Oper.wp P o a w K Q else K (a.put o.dst undef) w
theorem wpAnyH_one {i : Nat} {oi : Oper} {vi : Value} {fuel : Nat} {listed : Array Bool} {a : Act} (hi : ops[i]? = some oi) (hr : Region.ready md ops listed = [i]) (yi : StepsTo P ops Q S oi vi a)
    (H : ∀ w, S w → wpAnyH P md ops Q S fuel (listed.setIfInBounds i true) (a.put oi.dst vi) w) : ∀ w, S w → wpAnyH P md ops Q S (fuel + 1) listed a w := by
  intro w hS
  exact wpAnyH_ready hr (by simp) (AllReadyH.cons hi (fun K hK => yi w hS K (fun w' hS' => hK.out _ _ hS' (fun _ => H w' hS'))) AllReadyH.nil)
/-- Two operations that may come up now, each of which tells the same in whatever world: behind both. -/
theorem wpAnyH_two {i j : Nat} {oi oj : Oper} {vi vj : Value} {fuel : Nat} {listed : Array Bool} {a : Act} (hi : ops[i]? = some oi) (hj : ops[j]? = some oj)
    (hr : Region.ready md ops listed = [i, j]) (hr1 : Region.ready md ops (listed.setIfInBounds i true) = [j]) (hr2 : Region.ready md ops (listed.setIfInBounds j true) = [i])
    (hij : i ≠ j) (hne : oi.dst ≠ oj.dst) (yi : StepsTo P ops Q S oi vi a) (yj : StepsTo P ops Q S oj vj a) (yi' : StepsTo P ops Q S oi vi (a.put oj.dst vj)) (yj' : StepsTo P ops Q S oj vj (a.put oi.dst vi))
    (H : ∀ w, S w → wpAnyH P md ops Q S fuel ((listed.setIfInBounds i true).setIfInBounds j true) ((a.put oi.dst vi).put oj.dst vj) w) : ∀ w, S w → wpAnyH P md ops Q S (fuel + 2) listed a w := by
  have hd : ∀ d, oj.dst = some d → oi.dst ≠ some d := fun d h1 h2 => hne (h2.trans h1.symm)
  intro w hS
  refine wpAnyH_ready hr (by simp) (AllReadyH.cons hi (fun K hK => yi w hS K (fun w' hS' => hK.out _ _ hS' (fun _ => ?_))) (AllReadyH.cons hj (fun K hK => yj w hS K (fun w' hS' => hK.out _ _ hS' (fun _ => ?_))) AllReadyH.nil))
  · exact wpAnyH_ready hr1 (by simp) (AllReadyH.cons hj (fun K hK => yj' w' hS' K (fun w'' h'' => hK.out _ _ h'' (fun _ => H w'' h''))) AllReadyH.nil)
  · refine wpAnyH_ready hr2 (by simp) (AllReadyH.cons hi (fun K hK => yi' w' hS' K (fun w'' h'' => hK.out _ _ h'' (fun _ => ?_))) AllReadyH.nil)
    have h := H w'' h''
    rw [Array.setIfInBounds_comm _ _ hij, ← Act.put_comm a vj vi hd] at h
    exact h
end
end Go.Proofs.YtifcoalhkcflnaaGreat

/- Opening the arguments of laws: tries, a byte. -/


namespace Go.Proofs.YtifcoalhkcflnaaGreat
open Go.ChangeShapes Go.WideShapes Go.ChangeAt Go.RowKit Go.Joins Go.Deep
set_option linter.unusedVariables false
set_option linter.unusedSimpArgs false
set_option maxRecDepth 100000

theorem cells_Trie : Tryz.prog.cellsOf 28 = 4 := by kernel_rfl
theorem cells_ints : Tryz.prog.cellsOf 25 = 1 := by kernel_rfl
section
variable {H : Type} {enc : TypeId × Value → H} {W : World} {r : Reach} {base : Nat} {d : DataW H} {p : List MemPlace} {v : Value}

theorem i64_cells {fuel : Nat} {v : Value} {x : DataW H × List MemPlace} (h : DataW.trod enc Tryz.prog W 0 (fun _ => true) true fuel 25 [v] = some x) : ∃ (a : Option Addr) (len cap : Nat) (zs : List Int), v = .slice a len cap ∧ Sl1 (Value.int .i64) W a len zs ∧ len ≤ cap ∧ cap ≤ maxLen := by
  rcases open_ints Tryz.underlying25 Tryz.underlying3 (by kernel_rfl) h with ⟨hcs, _⟩ | ⟨x, len, cap, zs, hcs, _, hl, hm, hz, _, hcell, hwz⟩
  · simp at hcs
    exact ⟨none, 0, 0, [], hcs, ⟨rfl, .inl rfl⟩, Nat.le_refl _, by unfold maxLen; omega⟩
  · simp at hcs
    have hz' : zs.length = cap := by simpa using hz
    refine ⟨some x, len, cap, zs.take len, hcs, ⟨by simp; omega, ?_⟩, hl, hm⟩
    by_cases h0 : len = 0
    · exact .inl h0
    · right
      obtain ⟨b, off, spot⟩ := x
      have hc := hcell 0 (by omega)
      obtain rfl : spot = none := by simpa [Addr.add] using World.cell?_spot hc
      refine ⟨b, off, rfl, ?_, fun i u hu => ?_⟩
      · have := World.block_lt_of_cell? W _ hc
        rwa [add_plain] at this
      · have hi : i < len := by have := (List.getElem?_eq_some_iff.1 hu).1; simp at this; omega
        have h1 := hcell i (by omega)
        rw [add_plain] at h1
        rw [h1]
        rw [List.getElem?_take, if_pos hi] at hu
        simp [hu]
theorem u8s_cells {fuel : Nat} {v : Value} {x : DataW H × List MemPlace} (h : DataW.trod enc Tryz.prog W 0 (fun _ => true) true fuel 26 [v] = some x) : ∃ (a : Option Addr) (len cap : Nat) (zs : List Int), v = .slice a len cap ∧ Bys W a len zs ∧ len ≤ cap ∧ cap ≤ maxLen := by
  rcases open_ints Tryz.underlying26 Tryz.underlying5 (by kernel_rfl) h with ⟨hcs, _⟩ | ⟨x, len, cap, zs, hcs, _, hl, hm, hz, _, hcell, hwz⟩
  · simp at hcs
    exact ⟨none, 0, 0, [], hcs, Bys.nil _ _, Nat.le_refl _, by unfold maxLen; omega⟩
  · simp at hcs
    have hz' : zs.length = cap := by simpa using hz
    refine ⟨some x, len, cap, zs.take len, hcs, ⟨⟨by simp; omega, ?_⟩, fun n hn => wf_u8 (hwz n (List.mem_of_mem_take hn))⟩, hl, hm⟩
    by_cases h0 : len = 0
    · exact .inl h0
    · right
      obtain ⟨b, off, spot⟩ := x
      have hc := hcell 0 (by omega)
      obtain rfl : spot = none := by simpa [Addr.add] using World.cell?_spot hc
      refine ⟨b, off, rfl, ?_, fun i u hu => ?_⟩
      · have := World.block_lt_of_cell? W _ hc
        rwa [add_plain] at this
      · have hi : i < len := by have := (List.getElem?_eq_some_iff.1 hu).1; simp at this; omega
        have h1 := hcell i (by omega)
        rw [add_plain] at h1
        rw [h1]
        rw [List.getElem?_take, if_pos hi] at hu
        simp [hu]
theorem open_trie (hv : Value.okWide Tryz.prog W r base 28 v) (h : DataW.Trod enc Tryz.prog W 0 (fun _ => true) true 28 v d p) :
    ∃ (t : TV) (T : TrieT), v = .agg t.cells ∧ Tri W t T := by
  obtain ⟨cs, rfl, hsz⟩ := okWide_struct Tryz.underlying28 hv
  obtain ⟨l⟩ := cs
  match l, hsz.trans cells_Trie with
  | [c0, c1, c2, c3], _ =>
    obtain ⟨fuel, hf⟩ := h
    obtain ⟨xs, n, _, _, _, hlen, hx⟩ := DataW.trod_struct Tryz.underlying28 hf
    have hlen' : xs.length = 4 := hlen
    obtain ⟨y0, hy0⟩ : ∃ y, xs[0]? = some y := ⟨xs[0]'(by omega), by simp⟩
    obtain ⟨y1, hy1⟩ : ∃ y, xs[1]? = some y := ⟨xs[1]'(by omega), by simp⟩
    obtain ⟨y2, hy2⟩ : ∃ y, xs[2]? = some y := ⟨xs[2]'(by omega), by simp⟩
    obtain ⟨y3, hy3⟩ : ∃ y, xs[3]? = some y := ⟨xs[3]'(by omega), by simp⟩
    have h0 := hx 0
    simp only [List.getElem?_toArray, List.getElem?_cons_zero, List.getElem?_cons_succ, Option.some.injEq, forall_eq', cells_ints, cells_u8s, hy0] at h0
    have h1 := hx 1
    simp only [List.getElem?_toArray, List.getElem?_cons_zero, List.getElem?_cons_succ, Option.some.injEq, forall_eq', cells_ints, cells_u8s, hy1] at h1
    have h2 := hx 2
    simp only [List.getElem?_toArray, List.getElem?_cons_zero, List.getElem?_cons_succ, Option.some.injEq, forall_eq', cells_ints, cells_u8s, hy2] at h2
    have h3 := hx 3
    simp only [List.getElem?_toArray, List.getElem?_cons_zero, List.getElem?_cons_succ, Option.some.injEq, forall_eq', cells_ints, cells_u8s, hy3] at h3
    simp [Value.cells] at h0 h1 h2 h3
    obtain ⟨a0, l0, k0, z0, rfl, i0, j0, _⟩ := i64_cells h0
    obtain ⟨a1, l1, k1, z1, rfl, i1, j1, _⟩ := i64_cells h1
    obtain ⟨a2, l2, k2, z2, rfl, i2, j2, _⟩ := i64_cells h2
    obtain ⟨a3, l3, k3, z3, rfl, i3, j3, _⟩ := u8s_cells h3
    exact ⟨⟨a0, l0, k0, a1, l1, k1, a2, l2, k2, a3, l3, k3⟩, ⟨z0, z1, z2, z3⟩, rfl, ⟨i0, i1, i2, i3, ⟨j0, j1, j2, j3⟩⟩⟩
theorem open_u8 (hv : Value.okWide Tryz.prog W r base 5 v) (h : DataW.Trod enc Tryz.prog W 0 (fun _ => true) true 5 v d p) :
    ∃ n : Int, v = .int .u8 n ∧ (0 ≤ n ∧ n ≤ 255) := by
  obtain ⟨n, rfl, _, _, hw⟩ := open_int Tryz.underlying5 hv h
  exact ⟨n, rfl, wf_u8 hw⟩
end
end Go.Proofs.YtifcoalhkcflnaaGreat

/- The law TrieTells (layer 7): walked. Printed by exp.py. -/




namespace Go.Proofs.YtifcoalhkcflnaaGreat
open Go.RowKit Go.Sort
set_option linter.unusedVariables false
set_option linter.unusedSimpArgs false

theorem eqT_refl (T : TrieT) : eqT T T = true := eqT_iff.2 rfl
theorem sameS_refl (f : Bool) (wss : List (List Int)) : sameS f f wss wss = true := by simp [sameS]

set_option maxRecDepth 100000 in
set_option maxHeartbeats 16000000 in
theorem trieTells_walk (fold : Bool) (a : Option Addr) (la ca : Nat) (wss : List (List Int)) (t o : TV) (T O : TrieT) (node c : Int) (b : Option Addr) (nb cb : Nat) (x : List Int) (w : World) (hA : Wds w a la wss) (hT : Tri w t T) (hO : Tri w o O) (hc : 0 ≤ c ∧ c ≤ 255) (hX : Bys w b nb x) :
    Calls Tryz.prog 3 #[.agg (setV fold a la ca), .agg t.cells, .agg o.cells, .int .i64 node, .int .u8 c, .slice b nb cb] w fun e w' => e = .returned (.bool true) ∧ Below w.heap.size w w' := by
  obtain ⟨ua, un, uc, da, dn, dc, xa, xn, xc, ba, bn, bc⟩ := t
  obtain ⟨ua2, un2, uc2, da2, dn2, dc2, xa2, xn2, xc2, ba2, bn2, bc2⟩ := o
  have HL := Lib.hid hA.len
  obtain ⟨W, hW⟩ : ∃ W, W = ((w.alloc (.cells (setV fold a la ca) 24)).alloc (.cells #[.slice ua un uc, .slice da dn dc, .slice xa xn xc, .slice ba bn bc] 28)).alloc (.cells #[.slice ua2 un2 uc2, .slice da2 dn2 dc2, .slice xa2 xn2 xc2, .slice ba2 bn2 bc2] 28) := ⟨_, rfl⟩
  have hB : Below w.heap.size w W := by rw [hW]; exact (((Below.refl _ _).alloc (Nat.le_refl _) _).alloc (by simp) _).alloc (by simp; omega) _
  have hO3 : Bx w.heap.size [.cells (setV fold a la ca) 24, .cells #[.slice ua un uc, .slice da dn dc, .slice xa xn xc, .slice ba bn bc] 28, .cells #[.slice ua2 un2 uc2, .slice da2 dn2 dc2, .slice xa2 xn2 xc2, .slice ba2 bn2 bc2] 28] W := by rw [hW]; exact (((Bx.nil _ w).snoc _ rfl).snoc _ (by simp)).snoc _ (by simp)
  have CE : Hid (∀ V, RowKit.Below W.heap.size W V → (V.cell? ⟨w.heap.size, 0, none⟩ = some (.bool fold) ∧ V.cell? ⟨w.heap.size, 1, none⟩ = some (.slice a la ca)) ∧ (V.cell? ⟨w.heap.size + 1, 0, none⟩ = some (.slice ua un uc) ∧ V.cell? ⟨w.heap.size + 1, 1, none⟩ = some (.slice da dn dc) ∧ V.cell? ⟨w.heap.size + 1, 2, none⟩ = some (.slice xa xn xc) ∧ V.cell? ⟨w.heap.size + 1, 3, none⟩ = some (.slice ba bn bc)) ∧ (V.cell? ⟨w.heap.size + 1 + 1, 0, none⟩ = some (.slice ua2 un2 uc2) ∧ V.cell? ⟨w.heap.size + 1 + 1, 1, none⟩ = some (.slice da2 dn2 dc2) ∧ V.cell? ⟨w.heap.size + 1 + 1, 2, none⟩ = some (.slice xa2 xn2 xc2) ∧ V.cell? ⟨w.heap.size + 1 + 1, 3, none⟩ = some (.slice ba2 bn2 bc2))) := fun V hV =>
    have h := hO3.below hV
    ⟨⟨h.cell (i := 0) rfl rfl, h.cell (i := 0) rfl rfl⟩, ⟨h.cell (i := 1) rfl rfl, h.cell (i := 1) rfl rfl, h.cell (i := 1) rfl rfl, h.cell (i := 1) rfl rfl⟩, h.cell (i := 2) rfl rfl, h.cell (i := 2) rfl rfl, h.cell (i := 2) rfl rfl, h.cell (i := 2) rfl rfl⟩
  have HA := Lib.hid (hA.below hB)
  have HT := Lib.hid (hT.below hB)
  have HO := Lib.hid (hO.below hB)
  have HX := Lib.hid (hX.below hB)
  have HC := Lib.hid hc
  have hg := great5_any fold a la ca wss W HA.out
  obtain ⟨G, hG⟩ : ∃ G, greatP wss = G := ⟨_, rfl⟩
  rw [hG] at hg
  have HG := Lib.hid hg
  clear hg hA hT hO hX hc hO3
  obtain ⟨⟨s0, s1⟩, ⟨t0, t1, t2, t3⟩, o0, o1, o2, o3⟩ := CE.out W (Below.refl _ _)
  go_enter Tryz.func3, Tryz.ntmps3
  go_upto_region 1 with fail
  rw [← hW]
  clear hW
  go_wp2_with fail
  refine HG.out.mono ?_
  rintro e w1 ⟨rfl, hb1⟩
  clear s0 s1 t0 t1 t2 t3 o0 o1 o2 o3
  clear HG
  cases G with
  | true =>
    go_wp2_with fail
    refine (wakes7 _).mono ?_
    rintro e w2 ⟨rfl, hb2⟩
    have hB2 := hB.trans ((hb1.trans (hb2.mono hb1.size)).mono hB.size)
    go_wp2
    go_ret
    exact ⟨rfl, hB2⟩
  | false =>
    obtain ⟨g1, g2, g3⟩ := gr8_bd hG fold
    rw [HL.out] at g1
    have HM := Lib.hid (show ∀ x ∈ wss, x.length ≤ 1000000 from fun x hx => by have := g2 x hx; omega)
    have hla : la ≤ 1000000 := by omega
    have hbl : (begL fold wss).length ≤ 1000000 := by omega
    clear hG g1 g2 g3
    obtain ⟨⟨s0, s1⟩, ⟨t0, t1, t2, t3⟩, o0, o1, o2, o3⟩ := CE.out w1 hb1
    by_cases ht5 : un ≤ 500 ∧ dn ≤ 500 ∧ xn ≤ 500 ∧ bn ≤ 500
    · have HG1 := Lib.hid (rgreat7_no ⟨ua, un, uc, da, dn, dc, xa, xn, xc, ba, bn, bc⟩ w1 ht5)
      go_wp2_with fail
      refine HG1.out.mono ?_
      rintro e w2 ⟨rfl, hb2⟩
      have hw2 := hb1.trans (hb2.mono hb1.size)
      clear s0 s1 t0 t1 t2 t3 o0 o1 o2 o3
      clear HG1 hb1 hb2
      obtain ⟨⟨s0, s1⟩, ⟨t0, t1, t2, t3⟩, o0, o1, o2, o3⟩ := CE.out w2 hw2
      by_cases ho5 : un2 ≤ 500 ∧ dn2 ≤ 500 ∧ xn2 ≤ 500 ∧ bn2 ≤ 500
      · have HG2 := Lib.hid (rgreat7_no ⟨ua2, un2, uc2, da2, dn2, dc2, xa2, xn2, xc2, ba2, bn2, bc2⟩ w2 ho5)
        go_wp2_with fail
        refine HG2.out.mono ?_
        rintro e w3 ⟨rfl, hb3⟩
        have hw3 := hw2.trans (hb3.mono hw2.size)
        clear s0 s1 t0 t1 t2 t3 o0 o1 o2 o3
        clear HG2 hw2 hb3
        by_cases hnb : nb ≤ 60
        · have d1 : decide ((60 : Int) < (nb : Int)) = false := by simp; omega
          have d1' : decide (60 < nb) = false := by simp; omega
          obtain ⟨⟨s0, s1⟩, ⟨t0, t1, t2, t3⟩, o0, o1, o2, o3⟩ := CE.out w3 hw3
          have HM1 := Lib.hid (make_uni fold a la ca wss w3 (HA.out.below hw3) hla HM.out hbl)
          go_wp2_with fail
          refine HM1.out.mono ?_
          rintro e w4 ⟨X, rfl, hX4, hXb, hb4⟩
          obtain ⟨ux, unx, ucx, dx, dnx, dcx, xx, xnx, xcx, bx, bnx, bcx⟩ := X
          have hw4 := hw3.trans (hb4.mono hw3.size)
          clear s0 s1 t0 t1 t2 t3 o0 o1 o2 o3
          clear HM1 hw3 hb4 d1 d1'
          obtain ⟨W5, hW5⟩ : ∃ V, V = w4.alloc (.cells #[.slice ux unx ucx, .slice dx dnx dcx, .slice xx xnx xcx, .slice bx bnx bcx] 28) := ⟨_, rfl⟩
          have hb5 : RowKit.Below w4.heap.size w4 W5 := by rw [hW5]; exact below_alloc _ _
          have hQ5 : W5.heap[w4.heap.size]? = some (.cells #[.slice ux unx ucx, .slice dx dnx dcx, .slice xx xnx xcx, .slice bx bnx bcx] 28 (0, 0)) := by rw [hW5]; exact World.alloc_heap_new _ _
          go_upto_region 4 with fail
          rw [← hW5]
          clear hW5
          obtain ⟨Q1, hQ1⟩ : ∃ Q, w4.heap.size = Q := ⟨_, rfl⟩
          have hw5 := hw4.trans (hb5.mono hw4.size)
          have hX5 := hX4.below hb5
          rw [hQ1] at hQ5 ⊢
          clear hQ1 hw4 hb5 hX4
          obtain ⟨⟨s0, s1⟩, ⟨t0, t1, t2, t3⟩, o0, o1, o2, o3⟩ := CE.out W5 hw5
          have HM2 := Lib.hid (rmake_uni fold a la ca wss W5 (HA.out.below hw5) hla HM.out)
          go_wp2_with fail
          refine HM2.out.mono ?_
          rintro e w6 ⟨Y, rfl, hY6, hYb, hb6⟩
          obtain ⟨uy, uny, ucy, dy, dny, dcy, xy, xny, xcy, by_, bny, bcy⟩ := Y
          have hw6 := hw5.trans (hb6.mono hw5.size)
          have hX6 := hX5.below hb6
          have hQ6 : w6.heap[Q1]? = _ := (hb6.block _ (Array.getElem?_eq_some_iff.1 hQ5).1).trans hQ5
          clear s0 s1 t0 t1 t2 t3 o0 o1 o2 o3
          clear HM2 hw5 hb6 hX5 hQ5
          obtain ⟨W7, hW7⟩ : ∃ V, V = w6.alloc (.cells #[.slice uy uny ucy, .slice dy dny dcy, .slice xy xny xcy, .slice by_ bny bcy] 28) := ⟨_, rfl⟩
          have hb7 : RowKit.Below w6.heap.size w6 W7 := by rw [hW7]; exact below_alloc _ _
          have hR7 : W7.heap[w6.heap.size]? = some (.cells #[.slice uy uny ucy, .slice dy dny dcy, .slice xy xny xcy, .slice by_ bny bcy] 28 (0, 0)) := by rw [hW7]; exact World.alloc_heap_new _ _
          go_upto_region 5 with fail
          rw [← hW7]
          clear hW7
          obtain ⟨Q2, hQ2⟩ : ∃ Q, w6.heap.size = Q := ⟨_, rfl⟩
          have hw7 := hw6.trans (hb7.mono hw6.size)
          have HX7 := Lib.hid (hX6.below hb7)
          have HY7 := Lib.hid (hY6.below hb7)
          have hQ7 : W7.heap[Q1]? = _ := (hb7.block _ (Array.getElem?_eq_some_iff.1 hQ6).1).trans hQ6
          rw [hQ2] at hR7 ⊢
          clear hQ2 hw6 hb7 hX6 hY6 hQ6
          have HW7 := Lib.hid hw7
          have CQ : Hid (∀ V, RowKit.Below W7.heap.size W7 V → (V.cell? ⟨Q1, 0, none⟩ = some (.slice ux unx ucx) ∧ V.cell? ⟨Q1, 1, none⟩ = some (.slice dx dnx dcx) ∧ V.cell? ⟨Q1, 2, none⟩ = some (.slice xx xnx xcx) ∧ V.cell? ⟨Q1, 3, none⟩ = some (.slice bx bnx bcx)) ∧ (V.cell? ⟨Q2, 0, none⟩ = some (.slice uy uny ucy) ∧ V.cell? ⟨Q2, 1, none⟩ = some (.slice dy dny dcy) ∧ V.cell? ⟨Q2, 2, none⟩ = some (.slice xy xny xcy) ∧ V.cell? ⟨Q2, 3, none⟩ = some (.slice by_ bny bcy))) := fun V hV => by
            have e1 : V.heap[Q1]? = _ := (hV.block _ (Array.getElem?_eq_some_iff.1 hQ7).1).trans hQ7
            have e2 : V.heap[Q2]? = _ := (hV.block _ (Array.getElem?_eq_some_iff.1 hR7).1).trans hR7
            refine ⟨⟨?_, ?_, ?_, ?_⟩, ?_, ?_, ?_, ?_⟩ <;> simp [World.cell?, e1, e2]
          have CE7 : Hid (∀ V, RowKit.Below W7.heap.size W7 V → RowKit.Below W.heap.size W V) := fun V hV => HW7.out.trans (hV.mono HW7.out.size)
          have hXB : Bd4 ⟨ux, unx, ucx, dx, dnx, dcx, xx, xnx, xcx, bx, bnx, bcx⟩ := hXb
          have HXB := Lib.hid hXB
          have hBT : Bd4 ⟨ua, un, uc, da, dn, dc, xa, xn, xc, ba, bn, bc⟩ := ⟨by show un ≤ _; omega, by show dn ≤ _; omega, by show xn ≤ _; omega, by show bn ≤ _; omega⟩
          have HBT := Lib.hid hBT
          clear hQ7 hR7 hw7 hXb hYb hXB hBT ho5 hla hbl
          obtain ⟨en, hen⟩ : ∃ en, mkE fold wss = en := ⟨_, rfl⟩
          rw [hen]
          clear hen
          obtain ⟨⟨s0, s1⟩, ⟨t0, t1, t2, t3⟩, o0, o1, o2, o3⟩ := CE.out W7 HW7.out
          have HK1 := Lib.hid (tkid_any ⟨ua, un, uc, da, dn, dc, xa, xn, xc, ba, bn, bc⟩ T node c W7 (HT.out.below HW7.out) HBT.out.1)
          go_wp2_with fail
          refine HK1.out.mono ?_
          rintro e w8 ⟨r, ok, rfl, k1, k2, hb8⟩
          have hk := rkid_same k1 k2
          have hk2 := rkid7_any ⟨ua, un, uc, da, dn, dc, xa, xn, xc, ba, bn, bc⟩ T node c w8 (HT.out.below (CE7.out _ hb8)) HBT.out HC.out
          rw [hk] at hk2
          dsimp only at hk2
          have HK2 := Lib.hid hk2
          clear s0 s1 t0 t1 t2 t3 o0 o1 o2 o3
          clear HK1 k1 k2 hk hk2
          obtain ⟨⟨s0, s1⟩, ⟨t0, t1, t2, t3⟩, o0, o1, o2, o3⟩ := CE.out w8 (CE7.out _ hb8)
          go_wp2_with fail
          refine HK2.out.mono ?_
          rintro e w9 ⟨rfl, hb9'⟩
          have hb9 := hb8.trans (hb9'.mono hb8.size)
          clear s0 s1 t0 t1 t2 t3 o0 o1 o2 o3
          clear HK2 hb9' hb8
          obtain ⟨⟨f1, f2⟩, hf⟩ : ∃ p, findT T x = p := ⟨_, rfl⟩
          have hf1 := tfind_any ⟨ua, un, uc, da, dn, dc, xa, xn, xc, ba, bn, bc⟩ T b nb cb x w9 (HT.out.below (CE7.out _ hb9)) HBT.out.1 (HX.out.below (CE7.out _ hb9))
          rw [hf] at hf1
          dsimp only at hf1
          have HF1 := Lib.hid hf1
          have HF := Lib.hid hf
          clear hf1 hf
          obtain ⟨⟨s0, s1⟩, ⟨t0, t1, t2, t3⟩, o0, o1, o2, o3⟩ := CE.out w9 (CE7.out _ hb9)
          go_wp2_with fail
          refine HF1.out.mono ?_
          rintro e w10 ⟨rfl, hb10'⟩
          have hb10 := hb9.trans (hb10'.mono hb9.size)
          have hf2 := rfind7_any ⟨ua, un, uc, da, dn, dc, xa, xn, xc, ba, bn, bc⟩ T b nb cb x w10 (HT.out.below (CE7.out _ hb10)) HBT.out (HX.out.below (CE7.out _ hb10))
          rw [HF.out] at hf2
          dsimp only at hf2
          have HF2 := Lib.hid hf2
          clear s0 s1 t0 t1 t2 t3 o0 o1 o2 o3
          clear HF1 hb10' hb9 hf2
          obtain ⟨⟨s0, s1⟩, ⟨t0, t1, t2, t3⟩, o0, o1, o2, o3⟩ := CE.out w10 (CE7.out _ hb10)
          go_wp2_with fail
          refine HF2.out.mono ?_
          rintro e w11 ⟨rfl, hb11'⟩
          have hb11 := hb10.trans (hb11'.mono hb10.size)
          clear s0 s1 t0 t1 t2 t3 o0 o1 o2 o3
          clear HF2 hb11' hb10 HF
          obtain ⟨⟨x0, x1, x2, x3⟩, y0, y1, y2, y3⟩ := CQ.out w11 hb11
          have hs := rsame7_any ⟨ux, unx, ucx, dx, dnx, dcx, xx, xnx, xcx, bx, bnx, bcx⟩ ⟨uy, uny, ucy, dy, dny, dcy, xy, xny, xcy, by_, bny, bcy⟩ _ _ w11 (HX7.out.below hb11) (HY7.out.below hb11) ⟨by have := HXB.out.1; omega, by have := HXB.out.2.1; omega, by have := HXB.out.2.2.1; omega, by have := HXB.out.2.2.2; omega⟩
          rw [eqT_refl] at hs
          have HS := Lib.hid hs
          have n1 : ((r : Int) != r) = false := by simp
          have n2 : ((f1 : Int) != f1) = false := by simp
          have n3 : ((en : Int) != en) = false := by simp
          clear hs
          go_wp2_with fail
          refine HS.out.mono ?_
          rintro e w12 ⟨rfl, hb12'⟩
          have hb12 := hb11.trans (hb12'.mono hb11.size)
          clear x0 x1 x2 x3 y0 y1 y2 y3 HS hb12' hb11
          obtain ⟨I, hI⟩ : ∃ I, (spellT T node).isSome = I := ⟨_, rfl⟩
          have hp1 := spell_uni ⟨ua, un, uc, da, dn, dc, xa, xn, xc, ba, bn, bc⟩ T node w12 (HT.out.below (CE7.out _ hb12)) HBT.out
          rw [hI] at hp1
          have HP1 := Lib.hid hp1
          have HI := Lib.hid hI
          clear hp1 hI
          obtain ⟨⟨s0, s1⟩, ⟨t0, t1, t2, t3⟩, o0, o1, o2, o3⟩ := CE.out w12 (CE7.out _ hb12)
          go_wp2_with fail
          refine HP1.out.mono ?_
          rintro e w13 ⟨a1, m1, c1, rfl, hp13, hb13'⟩
          have hb13 := hb12.trans (hb13'.mono hb12.size)
          have hp2 := rspell_uni ⟨ua, un, uc, da, dn, dc, xa, xn, xc, ba, bn, bc⟩ T node w13 (HT.out.below (CE7.out _ hb13)) HBT.out
          rw [HI.out] at hp2
          have HP2 := Lib.hid hp2
          clear s0 s1 t0 t1 t2 t3 o0 o1 o2 o3
          clear HP1 hb13' hb12 hp2 n1 n2 n3
          obtain ⟨⟨s0, s1⟩, ⟨t0, t1, t2, t3⟩, o0, o1, o2, o3⟩ := CE.out w13 (CE7.out _ hb13)
          go_wp2_with fail
          refine HP2.out.mono ?_
          rintro e w14 ⟨a2, m2, c2, rfl, hq14, hb14'⟩
          have hb14 := hb13.trans (hb14'.mono hb13.size)
          have hp14 := hp13.below hb14'
          clear s0 s1 t0 t1 t2 t3 o0 o1 o2 o3
          clear HP2 hb14' hb13 hp13 HI
          have HW1 := Lib.hid (twords_any ⟨ua, un, uc, da, dn, dc, xa, xn, xc, ba, bn, bc⟩ T w14 (HT.out.below (CE7.out _ hb14)) HBT.out.1)
          obtain ⟨⟨s0, s1⟩, ⟨t0, t1, t2, t3⟩, o0, o1, o2, o3⟩ := CE.out w14 (CE7.out _ hb14)
          go_wp2_with fail
          refine HW1.out.mono ?_
          rintro e w15 ⟨a3, c3, rfl, hwd15, hc3, hb15'⟩
          have hb15 := hb14.trans (hb15'.mono hb14.size)
          have hp15 := hp14.below hb15'
          have hq15 := hq14.below hb15'
          clear s0 s1 t0 t1 t2 t3 o0 o1 o2 o3
          clear HW1 hb15' hb14 hp14 hq14
          obtain ⟨m3, hm3⟩ : ∃ m, (wordsT T).length = m := ⟨_, rfl⟩
          have hml : m3 ≤ 400 := by
            rw [← hm3]
            unfold wordsT
            cases hr : readP T with
            | none => simp
            | some q => exact (readP_len (sp := q.1) (ws := q.2) hr).2.1
          have HM3 := Lib.hid hm3
          rw [hm3] at hwd15 hc3 ⊢
          clear hm3
          obtain ⟨W16, hW16⟩ : ∃ V, V = w15.alloc (.cells (setV false a3 m3 c3) 24) := ⟨_, rfl⟩
          have hb16' : RowKit.Below w15.heap.size w15 W16 := by rw [hW16]; exact below_alloc _ _
          have hU16 : W16.heap[w15.heap.size]? = some (.cells (setV false a3 m3 c3) 24 (0, 0)) := by rw [hW16]; exact World.alloc_heap_new _ _
          go_upto_region 14 with fail
          rw [← hW16]
          clear hW16
          obtain ⟨U1, hU1⟩ : ∃ Q, w15.heap.size = Q := ⟨_, rfl⟩
          have hb16 := hb15.trans (hb16'.mono hb15.size)
          have hp16 := hp15.below hb16'
          have hq16 := hq15.below hb16'
          have hwd16 := hwd15.below hb16'
          rw [hU1] at hU16 ⊢
          clear hU1 hb16' hb15 hp15 hq15 hwd15
          have HW2 := Lib.hid (rWords7_any ⟨ua, un, uc, da, dn, dc, xa, xn, xc, ba, bn, bc⟩ T W16 (HT.out.below (CE7.out _ hb16)) HBT.out)
          obtain ⟨⟨s0, s1⟩, ⟨t0, t1, t2, t3⟩, o0, o1, o2, o3⟩ := CE.out W16 (CE7.out _ hb16)
          go_wp2_with fail
          refine HW2.out.mono ?_
          rintro e w17 ⟨v17, rfl, hv17, hb17'⟩
          obtain ⟨a4, c4, rfl, hc4, hwe17⟩ := hv17.wds
          rw [HM3.out] at hwe17 hc4 ⊢
          have hb17 := hb16.trans (hb17'.mono hb16.size)
          have hp17 := hp16.below hb17'
          have hq17 := hq16.below hb17'
          have hwd17 := hwd16.below hb17'
          have hU17 : w17.heap[U1]? = _ := (hb17'.block _ (Array.getElem?_eq_some_iff.1 hU16).1).trans hU16
          clear s0 s1 t0 t1 t2 t3 o0 o1 o2 o3
          clear HW2 hb17' hb16 hp16 hq16 hwd16 hU16 hv17
          obtain ⟨V0, hV0⟩ : ∃ V, V = w17.alloc (.cells (setV false a4 m3 c4) 24) := ⟨_, rfl⟩
          have hb18' : RowKit.Below w17.heap.size w17 V0 := by rw [hV0]; exact below_alloc _ _
          have hR18 : V0.heap[w17.heap.size]? = some (.cells (setV false a4 m3 c4) 24 (0, 0)) := by rw [hV0]; exact World.alloc_heap_new _ _
          go_upto_region 15 with fail
          rw [← hV0]
          clear hV0
          obtain ⟨U2, hU2⟩ : ∃ Q, w17.heap.size = Q := ⟨_, rfl⟩
          have hb18 := hb17.trans (hb18'.mono hb17.size)
          have HP := Lib.hid (hp17.below hb18')
          have HQ := Lib.hid (hq17.below hb18')
          have HWD := Lib.hid (hwd17.below hb18')
          have HWE := Lib.hid (hwe17.below hb18')
          have hU18 : V0.heap[U1]? = _ := (hb18'.block _ (Array.getElem?_eq_some_iff.1 hU17).1).trans hU17
          rw [hU2] at hR18 ⊢
          clear hU2 hb18' hb17 hp17 hq17 hwd17 hwe17 hU17
          have HB0 := Lib.hid (CE7.out _ hb18)
          have CV : Hid (∀ V, RowKit.Below V0.heap.size V0 V → RowKit.Below W.heap.size W V) := fun V hV => HB0.out.trans (hV.mono HB0.out.size)
          have SEE : Hid (∀ V, RowKit.Below V0.heap.size V0 V → (V.cell? ⟨U1, 0, none⟩ = some (.bool false) ∧ V.cell? ⟨U1, 1, none⟩ = some (.slice a3 m3 c3)) ∧ (V.cell? ⟨U2, 0, none⟩ = some (.bool false) ∧ V.cell? ⟨U2, 1, none⟩ = some (.slice a4 m3 c4))) := fun V hV => by
            have e1 : V.heap[U1]? = _ := (hV.block _ (Array.getElem?_eq_some_iff.1 hU18).1).trans hU18
            have e2 : V.heap[U2]? = _ := (hV.block _ (Array.getElem?_eq_some_iff.1 hR18).1).trans hR18
            refine ⟨⟨?_, ?_⟩, ?_, ?_⟩ <;> simp [World.cell?, e1, e2]
          clear hU18 hR18 hb18 HM3
          obtain ⟨bs, hbs⟩ : ∃ l, spB T node = l := ⟨_, rfl⟩
          rw [hbs] at HP HQ
          clear hbs
          obtain ⟨R, hR⟩ : ∃ R, rightT T = R := ⟨_, rfl⟩
          obtain ⟨M, hM⟩ : ∃ M, manyT T = M := ⟨_, rfl⟩
          obtain ⟨E, hE⟩ : ∃ E, eqT T O = E := ⟨_, rfl⟩
          have HRR := Lib.hid hR
          have HMM := Lib.hid hM
          have HEE := Lib.hid hE
          clear hR hM hE
          have q1 : ((strOfNums bs).toList == (strOfNums bs).toList) = true := by simp
          have B6 : Hid (un ≤ 1000000 ∧ dn ≤ 1000000 ∧ xn ≤ 1000000 ∧ bn ≤ 1000000) := by rw [Hid]; omega
          have B62 : Hid (un ≤ 4611686018427387904 ∧ dn ≤ 4611686018427387904 ∧ xn ≤ 4611686018427387904 ∧ bn ≤ 4611686018427387904) := by rw [Hid]; omega
          have k1 : Hid (∀ V, RowKit.Below V0.heap.size V0 V → Calls Tryz.prog 21 #[.agg (setV false a3 m3 c3), .agg (setV false a4 m3 c4)] V fun e w' => e = .returned (.bool true) ∧ RowKit.Below V.heap.size V w') := fun V hV => by
            have h := rsames_any false false a3 a4 m3 c3 m3 c4 _ _ V (HWD.out.below hV) (HWE.out.below hV) (by omega)
            rwa [sameS_refl] at h
          have k2 : Hid (∀ V, RowKit.Below V0.heap.size V0 V → Calls Tryz.prog 22 #[.agg (TV.cells ⟨ua, un, uc, da, dn, dc, xa, xn, xc, ba, bn, bc⟩)] V fun e w' => e = .returned (.bool R) ∧ RowKit.Below V.heap.size V w') := fun V hV => by
            have h := tright_any ⟨ua, un, uc, da, dn, dc, xa, xn, xc, ba, bn, bc⟩ T V (HT.out.below (CV.out V hV)) HBT.out.1
            rwa [HRR.out] at h
          have k3 : Hid (∀ V, RowKit.Below V0.heap.size V0 V → Calls Tryz.prog 23 #[.agg (TV.cells ⟨ua, un, uc, da, dn, dc, xa, xn, xc, ba, bn, bc⟩)] V fun e w' => e = .returned (.bool R) ∧ RowKit.Below V.heap.size V w') := fun V hV => by
            have h := rright7_any ⟨ua, un, uc, da, dn, dc, xa, xn, xc, ba, bn, bc⟩ T V (HT.out.below (CV.out V hV)) HBT.out
            rwa [HRR.out] at h
          have k4 : Hid (∀ V, RowKit.Below V0.heap.size V0 V → Calls Tryz.prog 24 #[.agg (TV.cells ⟨ua, un, uc, da, dn, dc, xa, xn, xc, ba, bn, bc⟩)] V fun e w' => e = .returned (.int .i64 M) ∧ RowKit.Below V.heap.size V w') := fun V hV => by
            have h := tmany_any ⟨ua, un, uc, da, dn, dc, xa, xn, xc, ba, bn, bc⟩ T V (HT.out.below (CV.out V hV)) HBT.out.1
            rwa [HMM.out] at h
          have k5 : Hid (∀ V, RowKit.Below V0.heap.size V0 V → Calls Tryz.prog 25 #[.agg (TV.cells ⟨ua, un, uc, da, dn, dc, xa, xn, xc, ba, bn, bc⟩)] V fun e w' => e = .returned (.int .i64 M) ∧ RowKit.Below V.heap.size V w') := fun V hV => by
            have h := rmany7_any ⟨ua, un, uc, da, dn, dc, xa, xn, xc, ba, bn, bc⟩ T V (HT.out.below (CV.out V hV)) HBT.out
            rwa [HMM.out] at h
          have k6 : Hid (∀ V, RowKit.Below V0.heap.size V0 V → Calls Tryz.prog 26 #[.agg (TV.cells ⟨ua, un, uc, da, dn, dc, xa, xn, xc, ba, bn, bc⟩), .agg (TV.cells ⟨ua2, un2, uc2, da2, dn2, dc2, xa2, xn2, xc2, ba2, bn2, bc2⟩)] V fun e w' => e = .returned (.bool E) ∧ RowKit.Below V.heap.size V w') := fun V hV => by
            have h := tsame_any ⟨ua, un, uc, da, dn, dc, xa, xn, xc, ba, bn, bc⟩ ⟨ua2, un2, uc2, da2, dn2, dc2, xa2, xn2, xc2, ba2, bn2, bc2⟩ T O V (HT.out.below (CV.out V hV)) (HO.out.below (CV.out V hV)) B62.out
            rwa [HEE.out] at h
          have k7 : Hid (∀ V, RowKit.Below V0.heap.size V0 V → Calls Tryz.prog 16 #[.agg (TV.cells ⟨ua, un, uc, da, dn, dc, xa, xn, xc, ba, bn, bc⟩), .agg (TV.cells ⟨ua2, un2, uc2, da2, dn2, dc2, xa2, xn2, xc2, ba2, bn2, bc2⟩)] V fun e w' => e = .returned (.bool E) ∧ RowKit.Below V.heap.size V w') := fun V hV => by
            have h := rsame7_any ⟨ua, un, uc, da, dn, dc, xa, xn, xc, ba, bn, bc⟩ ⟨ua2, un2, uc2, da2, dn2, dc2, xa2, xn2, xc2, ba2, bn2, bc2⟩ T O V (HT.out.below (CV.out V hV)) (HO.out.below (CV.out V hV)) B62.out
            rwa [HEE.out] at h
          have k8 : Hid (∀ V, RowKit.Below V0.heap.size V0 V → Calls Tryz.prog 9 #[] V fun e w' => e = .returned (.bool true) ∧ RowKit.Below V.heap.size V w') := fun V hV => wakes7 V
          clear HWD HWE HRR HMM HEE ht5
          refine wp_region_noPanic ?_
          refine wp_region_held_drew (S := RowKit.Below V0.heap.size V0) (by kernel_rfl) (bel_drewN V0 1) (fun hHeld => ?_)
          refine wpAnyH_take (i := 0) (v := ?_) (by simp only [List.getElem?_toArray, List.getElem?_cons_zero, List.getElem?_cons_succ]; rfl) (by as_aux_lemma => kernel_rfl) (by as_aux_lemma => kernel_rfl) (by as_aux_lemma => kernel_rfl) (fun _ _ _ h => h) (Or.inl ⟨by rfl, ?_⟩) (by assumption) ?_
          rotate_left
          · intro V hV
            first | (go_simp; done) | (go_simp; with_reducible rfl)
          try simp only [Act.put, List.setIfInBounds_toArray, List.set_cons_zero, List.set_cons_succ]
          refine wpAnyH_take (i := 1) (v := ?_) (by simp only [List.getElem?_toArray, List.getElem?_cons_zero, List.getElem?_cons_succ]; rfl) (by as_aux_lemma => kernel_rfl) (by as_aux_lemma => kernel_rfl) (by as_aux_lemma => kernel_rfl) (fun _ _ _ h => h) (Or.inl ⟨by rfl, ?_⟩) (by assumption) ?_
          rotate_left
          · intro V hV
            have kc := conv_bys (HP.out.below hV) c1
            first | (go_simp; done) | (go_simp; with_reducible rfl)
          try simp only [Act.put, List.setIfInBounds_toArray, List.set_cons_zero, List.set_cons_succ]
          refine wpAnyH_take (i := 2) (v := ?_) (by simp only [List.getElem?_toArray, List.getElem?_cons_zero, List.getElem?_cons_succ]; rfl) (by as_aux_lemma => kernel_rfl) (by as_aux_lemma => kernel_rfl) (by as_aux_lemma => kernel_rfl) (fun _ _ _ h => h) (Or.inl ⟨by rfl, ?_⟩) (by assumption) ?_
          rotate_left
          · intro V hV
            first | (go_simp; done) | (go_simp; with_reducible rfl)
          try simp only [Act.put, List.setIfInBounds_toArray, List.set_cons_zero, List.set_cons_succ]
          refine wpAnyH_take (i := 3) (v := ?_) (by simp only [List.getElem?_toArray, List.getElem?_cons_zero, List.getElem?_cons_succ]; rfl) (by as_aux_lemma => kernel_rfl) (by as_aux_lemma => kernel_rfl) (by as_aux_lemma => kernel_rfl) (fun _ _ _ h => h) (Or.inl ⟨by rfl, ?_⟩) (by assumption) ?_
          rotate_left
          · intro V hV
            have kc := conv_bys (HQ.out.below hV) c2
            first | (go_simp; done) | (go_simp; with_reducible rfl)
          try simp only [Act.put, List.setIfInBounds_toArray, List.set_cons_zero, List.set_cons_succ]
          refine wpAnyH_take (i := 4) (v := ?_) (by simp only [List.getElem?_toArray, List.getElem?_cons_zero, List.getElem?_cons_succ]; rfl) (by as_aux_lemma => kernel_rfl) (by as_aux_lemma => kernel_rfl) (by as_aux_lemma => kernel_rfl) (fun _ _ _ h => h) (Or.inl ⟨by rfl, ?_⟩) (by assumption) ?_
          rotate_left
          · intro V hV
            first | (go_simp; done) | (go_simp; with_reducible rfl)
          try simp only [Act.put, List.setIfInBounds_toArray, List.set_cons_zero, List.set_cons_succ]
          refine wpAnyH_take (i := 5) (v := ?_) (by simp only [List.getElem?_toArray, List.getElem?_cons_zero, List.getElem?_cons_succ]; rfl) (by as_aux_lemma => kernel_rfl) (by as_aux_lemma => kernel_rfl) (by as_aux_lemma => kernel_rfl) (fun _ _ _ h => h) (Or.inl ⟨by rfl, ?_⟩) (by assumption) ?_
          rotate_left
          · intro V hV
            first | (go_simp; done) | (go_simp; with_reducible rfl)
          try simp only [Act.put, List.setIfInBounds_toArray, List.set_cons_zero, List.set_cons_succ]
          refine wpAnyH_take (i := 6) (v := ?_) (by simp only [List.getElem?_toArray, List.getElem?_cons_zero, List.getElem?_cons_succ]; rfl) (by as_aux_lemma => kernel_rfl) (by as_aux_lemma => kernel_rfl) (by as_aux_lemma => kernel_rfl) (fun _ _ _ h => h) (Or.inl ⟨by rfl, ?_⟩) (by assumption) ?_
          rotate_left
          · intro V hV
            first | (go_simp; done) | (go_simp; with_reducible rfl)
          try simp only [Act.put, List.setIfInBounds_toArray, List.set_cons_zero, List.set_cons_succ]
          refine wpAnyH_take (i := 7) (v := ?_) (by simp only [List.getElem?_toArray, List.getElem?_cons_zero, List.getElem?_cons_succ]; rfl) (by as_aux_lemma => kernel_rfl) (by as_aux_lemma => kernel_rfl) (by as_aux_lemma => kernel_rfl) (fun _ _ _ h => h) (Or.inl ⟨by rfl, ?_⟩) (by assumption) ?_
          rotate_left
          · intro V hV
            first | (go_simp; done) | (go_simp; with_reducible rfl)
          try simp only [Act.put, List.setIfInBounds_toArray, List.set_cons_zero, List.set_cons_succ]
          refine wpAnyH_take (i := 8) (v := ?_) (by simp only [List.getElem?_toArray, List.getElem?_cons_zero, List.getElem?_cons_succ]; rfl) (by as_aux_lemma => kernel_rfl) (by as_aux_lemma => kernel_rfl) (by as_aux_lemma => kernel_rfl) (fun _ _ _ h => h) (Or.inl ⟨by rfl, ?_⟩) (by assumption) ?_
          rotate_left
          · intro V hV
            first | (go_simp; done) | (go_simp; with_reducible rfl)
          try simp only [Act.put, List.setIfInBounds_toArray, List.set_cons_zero, List.set_cons_succ]
          refine wpAnyH_take (i := 9) (v := ?_) (by simp only [List.getElem?_toArray, List.getElem?_cons_zero, List.getElem?_cons_succ]; rfl) (by as_aux_lemma => kernel_rfl) (by as_aux_lemma => kernel_rfl) (by as_aux_lemma => kernel_rfl) (fun _ _ _ h => h) (Or.inl ⟨by rfl, ?_⟩) (by assumption) ?_
          rotate_left
          · intro V hV
            first | (go_simp; done) | (go_simp; with_reducible rfl)
          try simp only [Act.put, List.setIfInBounds_toArray, List.set_cons_zero, List.set_cons_succ]
          refine wpAnyH_take (i := 10) (v := ?_) (by simp only [List.getElem?_toArray, List.getElem?_cons_zero, List.getElem?_cons_succ]; rfl) (by as_aux_lemma => kernel_rfl) (by as_aux_lemma => kernel_rfl) (by as_aux_lemma => kernel_rfl) (fun _ _ _ h => h) (Or.inl ⟨by rfl, ?_⟩) (by assumption) ?_
          rotate_left
          · intro V hV
            first | (go_simp; done) | (go_simp; with_reducible rfl)
          try simp only [Act.put, List.setIfInBounds_toArray, List.set_cons_zero, List.set_cons_succ]
          refine wpAnyH_take (i := 11) (v := ?_) (by simp only [List.getElem?_toArray, List.getElem?_cons_zero, List.getElem?_cons_succ]; rfl) (by as_aux_lemma => kernel_rfl) (by as_aux_lemma => kernel_rfl) (by as_aux_lemma => kernel_rfl) (fun _ _ _ h => h) (Or.inl ⟨by rfl, ?_⟩) (by assumption) ?_
          rotate_left
          · intro V hV
            obtain ⟨⟨r0, r1⟩, r2, r3⟩ := SEE.out V hV
            first | (go_simp; done) | (go_simp; with_reducible rfl)
          try simp only [Act.put, List.setIfInBounds_toArray, List.set_cons_zero, List.set_cons_succ]
          refine wpAnyH_take (i := 12) (v := ?_) (by simp only [List.getElem?_toArray, List.getElem?_cons_zero, List.getElem?_cons_succ]; rfl) (by as_aux_lemma => kernel_rfl) (by as_aux_lemma => kernel_rfl) (by as_aux_lemma => kernel_rfl) (fun _ _ _ h => h) (Or.inl ⟨by rfl, ?_⟩) (by assumption) ?_
          rotate_left
          · intro V hV
            obtain ⟨⟨r0, r1⟩, r2, r3⟩ := SEE.out V hV
            first | (go_simp; done) | (go_simp; with_reducible rfl)
          try simp only [Act.put, List.setIfInBounds_toArray, List.set_cons_zero, List.set_cons_succ]
          refine wpAnyH_one (i := 13) (vi := .bool true) (by simp only [List.getElem?_toArray, List.getElem?_cons_zero, List.getElem?_cons_succ]; rfl) (by as_aux_lemma => kernel_rfl) ?_ ?_ _ hHeld
          · intro V hV K hK
            try simp only [Act.put, List.setIfInBounds_toArray, List.set_cons_zero, List.set_cons_succ] at hK
            go_simp
            go_at_call 21; refine (k1.out V hV).mono ?_; rintro e w2 ⟨rfl, hb2⟩; exact hK _ (hV.trans (hb2.mono hV.size))
          clear hHeld
          intro V1 hHeld
          try simp only [Act.put, List.setIfInBounds_toArray, List.set_cons_zero, List.set_cons_succ]
          refine wpAnyH_take (i := 14) (v := ?_) (by simp only [List.getElem?_toArray, List.getElem?_cons_zero, List.getElem?_cons_succ]; rfl) (by as_aux_lemma => kernel_rfl) (by as_aux_lemma => kernel_rfl) (by as_aux_lemma => kernel_rfl) (fun _ _ _ h => h) (Or.inl ⟨by rfl, ?_⟩) (by assumption) ?_
          rotate_left
          · intro V hV
            first | (go_simp; done) | (go_simp; with_reducible rfl)
          try simp only [Act.put, List.setIfInBounds_toArray, List.set_cons_zero, List.set_cons_succ]
          refine wpAnyH_take (i := 15) (v := ?_) (by simp only [List.getElem?_toArray, List.getElem?_cons_zero, List.getElem?_cons_succ]; rfl) (by as_aux_lemma => kernel_rfl) (by as_aux_lemma => kernel_rfl) (by as_aux_lemma => kernel_rfl) (fun _ _ _ h => h) (Or.inl ⟨by rfl, ?_⟩) (by assumption) ?_
          rotate_left
          · intro V hV
            first | (go_simp; done) | (go_simp; with_reducible rfl)
          try simp only [Act.put, List.setIfInBounds_toArray, List.set_cons_zero, List.set_cons_succ]
          refine wpAnyH_take (i := 16) (v := ?_) (by simp only [List.getElem?_toArray, List.getElem?_cons_zero, List.getElem?_cons_succ]; rfl) (by as_aux_lemma => kernel_rfl) (by as_aux_lemma => kernel_rfl) (by as_aux_lemma => kernel_rfl) (fun _ _ _ h => h) (Or.inl ⟨by rfl, ?_⟩) (by assumption) ?_
          rotate_left
          · intro V hV
            obtain ⟨⟨s0, s1⟩, ⟨t0, t1, t2, t3⟩, o0, o1, o2, o3⟩ := CE.out _ (CV.out V hV)
            first | (go_simp; done) | (go_simp; with_reducible rfl)
          try simp only [Act.put, List.setIfInBounds_toArray, List.set_cons_zero, List.set_cons_succ]
          refine wpAnyH_take (i := 18) (v := ?_) (by simp only [List.getElem?_toArray, List.getElem?_cons_zero, List.getElem?_cons_succ]; rfl) (by as_aux_lemma => kernel_rfl) (by as_aux_lemma => kernel_rfl) (by as_aux_lemma => kernel_rfl) (fun _ _ _ h => h) (Or.inl ⟨by rfl, ?_⟩) (by assumption) ?_
          rotate_left
          · intro V hV
            obtain ⟨⟨s0, s1⟩, ⟨t0, t1, t2, t3⟩, o0, o1, o2, o3⟩ := CE.out _ (CV.out V hV)
            first | (go_simp; done) | (go_simp; with_reducible rfl)
          try simp only [Act.put, List.setIfInBounds_toArray, List.set_cons_zero, List.set_cons_succ]
          refine wpAnyH_one (i := 17) (vi := .bool R) (by simp only [List.getElem?_toArray, List.getElem?_cons_zero, List.getElem?_cons_succ]; rfl) (by as_aux_lemma => kernel_rfl) ?_ ?_ _ hHeld
          · intro V hV K hK
            try simp only [Act.put, List.setIfInBounds_toArray, List.set_cons_zero, List.set_cons_succ] at hK
            go_simp
            go_at_call 22; refine (k2.out V hV).mono ?_; rintro e w2 ⟨rfl, hb2⟩; exact hK _ (hV.trans (hb2.mono hV.size))
          clear hHeld
          intro V1 hHeld
          try simp only [Act.put, List.setIfInBounds_toArray, List.set_cons_zero, List.set_cons_succ]
          refine wpAnyH_one (i := 19) (vi := .bool R) (by simp only [List.getElem?_toArray, List.getElem?_cons_zero, List.getElem?_cons_succ]; rfl) (by as_aux_lemma => kernel_rfl) ?_ ?_ _ hHeld
          · intro V hV K hK
            try simp only [Act.put, List.setIfInBounds_toArray, List.set_cons_zero, List.set_cons_succ] at hK
            go_simp
            go_at_call 23; refine (k3.out V hV).mono ?_; rintro e w2 ⟨rfl, hb2⟩; exact hK _ (hV.trans (hb2.mono hV.size))
          clear hHeld
          intro V1 hHeld
          try simp only [Act.put, List.setIfInBounds_toArray, List.set_cons_zero, List.set_cons_succ]
          refine wpAnyH_take (i := 20) (v := ?_) (by simp only [List.getElem?_toArray, List.getElem?_cons_zero, List.getElem?_cons_succ]; rfl) (by as_aux_lemma => kernel_rfl) (by as_aux_lemma => kernel_rfl) (by as_aux_lemma => kernel_rfl) (fun _ _ _ h => h) (Or.inl ⟨by rfl, ?_⟩) (by assumption) ?_
          rotate_left
          · intro V hV
            first | (go_simp; done) | (go_simp; with_reducible rfl)
          try simp only [Act.put, List.setIfInBounds_toArray, List.set_cons_zero, List.set_cons_succ]
          refine wpAnyH_take (i := 21) (v := ?_) (by simp only [List.getElem?_toArray, List.getElem?_cons_zero, List.getElem?_cons_succ]; rfl) (by as_aux_lemma => kernel_rfl) (by as_aux_lemma => kernel_rfl) (by as_aux_lemma => kernel_rfl) (fun _ _ _ h => h) (Or.inl ⟨by rfl, ?_⟩) (by assumption) ?_
          rotate_left
          · intro V hV
            first | (go_simp; done) | (go_simp; with_reducible rfl)
          try simp only [Act.put, List.setIfInBounds_toArray, List.set_cons_zero, List.set_cons_succ]
          refine wpAnyH_take (i := 22) (v := ?_) (by simp only [List.getElem?_toArray, List.getElem?_cons_zero, List.getElem?_cons_succ]; rfl) (by as_aux_lemma => kernel_rfl) (by as_aux_lemma => kernel_rfl) (by as_aux_lemma => kernel_rfl) (fun _ _ _ h => h) (Or.inl ⟨by rfl, ?_⟩) (by assumption) ?_
          rotate_left
          · intro V hV
            first | (go_simp; done) | (go_simp; with_reducible rfl)
          try simp only [Act.put, List.setIfInBounds_toArray, List.set_cons_zero, List.set_cons_succ]
          refine wpAnyH_take (i := 23) (v := ?_) (by simp only [List.getElem?_toArray, List.getElem?_cons_zero, List.getElem?_cons_succ]; rfl) (by as_aux_lemma => kernel_rfl) (by as_aux_lemma => kernel_rfl) (by as_aux_lemma => kernel_rfl) (fun _ _ _ h => h) (Or.inl ⟨by rfl, ?_⟩) (by assumption) ?_
          rotate_left
          · intro V hV
            obtain ⟨⟨s0, s1⟩, ⟨t0, t1, t2, t3⟩, o0, o1, o2, o3⟩ := CE.out _ (CV.out V hV)
            first | (go_simp; done) | (go_simp; with_reducible rfl)
          try simp only [Act.put, List.setIfInBounds_toArray, List.set_cons_zero, List.set_cons_succ]
          refine wpAnyH_take (i := 25) (v := ?_) (by simp only [List.getElem?_toArray, List.getElem?_cons_zero, List.getElem?_cons_succ]; rfl) (by as_aux_lemma => kernel_rfl) (by as_aux_lemma => kernel_rfl) (by as_aux_lemma => kernel_rfl) (fun _ _ _ h => h) (Or.inl ⟨by rfl, ?_⟩) (by assumption) ?_
          rotate_left
          · intro V hV
            obtain ⟨⟨s0, s1⟩, ⟨t0, t1, t2, t3⟩, o0, o1, o2, o3⟩ := CE.out _ (CV.out V hV)
            first | (go_simp; done) | (go_simp; with_reducible rfl)
          try simp only [Act.put, List.setIfInBounds_toArray, List.set_cons_zero, List.set_cons_succ]
          refine wpAnyH_one (i := 24) (vi := .int .i64 M) (by simp only [List.getElem?_toArray, List.getElem?_cons_zero, List.getElem?_cons_succ]; rfl) (by as_aux_lemma => kernel_rfl) ?_ ?_ _ hHeld
          · intro V hV K hK
            try simp only [Act.put, List.setIfInBounds_toArray, List.set_cons_zero, List.set_cons_succ] at hK
            go_simp
            go_at_call 24; refine (k4.out V hV).mono ?_; rintro e w2 ⟨rfl, hb2⟩; exact hK _ (hV.trans (hb2.mono hV.size))
          clear hHeld
          intro V1 hHeld
          try simp only [Act.put, List.setIfInBounds_toArray, List.set_cons_zero, List.set_cons_succ]
          refine wpAnyH_one (i := 26) (vi := .int .i64 M) (by simp only [List.getElem?_toArray, List.getElem?_cons_zero, List.getElem?_cons_succ]; rfl) (by as_aux_lemma => kernel_rfl) ?_ ?_ _ hHeld
          · intro V hV K hK
            try simp only [Act.put, List.setIfInBounds_toArray, List.set_cons_zero, List.set_cons_succ] at hK
            go_simp
            go_at_call 25; refine (k5.out V hV).mono ?_; rintro e w2 ⟨rfl, hb2⟩; exact hK _ (hV.trans (hb2.mono hV.size))
          clear hHeld
          intro V1 hHeld
          try simp only [Act.put, List.setIfInBounds_toArray, List.set_cons_zero, List.set_cons_succ]
          refine wpAnyH_take (i := 27) (v := ?_) (by simp only [List.getElem?_toArray, List.getElem?_cons_zero, List.getElem?_cons_succ]; rfl) (by as_aux_lemma => kernel_rfl) (by as_aux_lemma => kernel_rfl) (by as_aux_lemma => kernel_rfl) (fun _ _ _ h => h) (Or.inl ⟨by rfl, ?_⟩) (by assumption) ?_
          rotate_left
          · intro V hV
            first | (go_simp; done) | (go_simp; with_reducible rfl)
          try simp only [Act.put, List.setIfInBounds_toArray, List.set_cons_zero, List.set_cons_succ]
          refine wpAnyH_take (i := 28) (v := ?_) (by simp only [List.getElem?_toArray, List.getElem?_cons_zero, List.getElem?_cons_succ]; rfl) (by as_aux_lemma => kernel_rfl) (by as_aux_lemma => kernel_rfl) (by as_aux_lemma => kernel_rfl) (fun _ _ _ h => h) (Or.inl ⟨by rfl, ?_⟩) (by assumption) ?_
          rotate_left
          · intro V hV
            first | (go_simp; done) | (go_simp; with_reducible rfl)
          try simp only [Act.put, List.setIfInBounds_toArray, List.set_cons_zero, List.set_cons_succ]
          refine wpAnyH_take (i := 29) (v := ?_) (by simp only [List.getElem?_toArray, List.getElem?_cons_zero, List.getElem?_cons_succ]; rfl) (by as_aux_lemma => kernel_rfl) (by as_aux_lemma => kernel_rfl) (by as_aux_lemma => kernel_rfl) (fun _ _ _ h => h) (Or.inl ⟨by rfl, ?_⟩) (by assumption) ?_
          rotate_left
          · intro V hV
            first | (go_simp; done) | (go_simp; with_reducible rfl)
          try simp only [Act.put, List.setIfInBounds_toArray, List.set_cons_zero, List.set_cons_succ]
          refine wpAnyH_take (i := 30) (v := ?_) (by simp only [List.getElem?_toArray, List.getElem?_cons_zero, List.getElem?_cons_succ]; rfl) (by as_aux_lemma => kernel_rfl) (by as_aux_lemma => kernel_rfl) (by as_aux_lemma => kernel_rfl) (fun _ _ _ h => h) (Or.inl ⟨by rfl, ?_⟩) (by assumption) ?_
          rotate_left
          · intro V hV
            obtain ⟨⟨s0, s1⟩, ⟨t0, t1, t2, t3⟩, o0, o1, o2, o3⟩ := CE.out _ (CV.out V hV)
            first | (go_simp; done) | (go_simp; with_reducible rfl)
          try simp only [Act.put, List.setIfInBounds_toArray, List.set_cons_zero, List.set_cons_succ]
          refine wpAnyH_take (i := 31) (v := ?_) (by simp only [List.getElem?_toArray, List.getElem?_cons_zero, List.getElem?_cons_succ]; rfl) (by as_aux_lemma => kernel_rfl) (by as_aux_lemma => kernel_rfl) (by as_aux_lemma => kernel_rfl) (fun _ _ _ h => h) (Or.inl ⟨by rfl, ?_⟩) (by assumption) ?_
          rotate_left
          · intro V hV
            obtain ⟨⟨s0, s1⟩, ⟨t0, t1, t2, t3⟩, o0, o1, o2, o3⟩ := CE.out _ (CV.out V hV)
            first | (go_simp; done) | (go_simp; with_reducible rfl)
          try simp only [Act.put, List.setIfInBounds_toArray, List.set_cons_zero, List.set_cons_succ]
          refine wpAnyH_take (i := 33) (v := ?_) (by simp only [List.getElem?_toArray, List.getElem?_cons_zero, List.getElem?_cons_succ]; rfl) (by as_aux_lemma => kernel_rfl) (by as_aux_lemma => kernel_rfl) (by as_aux_lemma => kernel_rfl) (fun _ _ _ h => h) (Or.inl ⟨by rfl, ?_⟩) (by assumption) ?_
          rotate_left
          · intro V hV
            obtain ⟨⟨s0, s1⟩, ⟨t0, t1, t2, t3⟩, o0, o1, o2, o3⟩ := CE.out _ (CV.out V hV)
            first | (go_simp; done) | (go_simp; with_reducible rfl)
          try simp only [Act.put, List.setIfInBounds_toArray, List.set_cons_zero, List.set_cons_succ]
          refine wpAnyH_take (i := 34) (v := ?_) (by simp only [List.getElem?_toArray, List.getElem?_cons_zero, List.getElem?_cons_succ]; rfl) (by as_aux_lemma => kernel_rfl) (by as_aux_lemma => kernel_rfl) (by as_aux_lemma => kernel_rfl) (fun _ _ _ h => h) (Or.inl ⟨by rfl, ?_⟩) (by assumption) ?_
          rotate_left
          · intro V hV
            obtain ⟨⟨s0, s1⟩, ⟨t0, t1, t2, t3⟩, o0, o1, o2, o3⟩ := CE.out _ (CV.out V hV)
            first | (go_simp; done) | (go_simp; with_reducible rfl)
          try simp only [Act.put, List.setIfInBounds_toArray, List.set_cons_zero, List.set_cons_succ]
          refine wpAnyH_one (i := 32) (vi := .bool E) (by simp only [List.getElem?_toArray, List.getElem?_cons_zero, List.getElem?_cons_succ]; rfl) (by as_aux_lemma => kernel_rfl) ?_ ?_ _ hHeld
          · intro V hV K hK
            try simp only [Act.put, List.setIfInBounds_toArray, List.set_cons_zero, List.set_cons_succ] at hK
            go_simp
            go_at_call 26; refine (k6.out V hV).mono ?_; rintro e w2 ⟨rfl, hb2⟩; exact hK _ (hV.trans (hb2.mono hV.size))
          clear hHeld
          intro V1 hHeld
          try simp only [Act.put, List.setIfInBounds_toArray, List.set_cons_zero, List.set_cons_succ]
          refine wpAnyH_one (i := 35) (vi := .bool E) (by simp only [List.getElem?_toArray, List.getElem?_cons_zero, List.getElem?_cons_succ]; rfl) (by as_aux_lemma => kernel_rfl) ?_ ?_ _ hHeld
          · intro V hV K hK
            try simp only [Act.put, List.setIfInBounds_toArray, List.set_cons_zero, List.set_cons_succ] at hK
            go_simp
            go_at_call 16; refine (k7.out V hV).mono ?_; rintro e w2 ⟨rfl, hb2⟩; exact hK _ (hV.trans (hb2.mono hV.size))
          clear hHeld
          intro V1 hHeld
          try simp only [Act.put, List.setIfInBounds_toArray, List.set_cons_zero, List.set_cons_succ]
          refine wpAnyH_take (i := 36) (v := ?_) (by simp only [List.getElem?_toArray, List.getElem?_cons_zero, List.getElem?_cons_succ]; rfl) (by as_aux_lemma => kernel_rfl) (by as_aux_lemma => kernel_rfl) (by as_aux_lemma => kernel_rfl) (fun _ _ _ h => h) (Or.inl ⟨by rfl, ?_⟩) (by assumption) ?_
          rotate_left
          · intro V hV
            first | (go_simp; done) | (go_simp; with_reducible rfl)
          try simp only [Act.put, List.setIfInBounds_toArray, List.set_cons_zero, List.set_cons_succ]
          refine wpAnyH_take (i := 37) (v := ?_) (by simp only [List.getElem?_toArray, List.getElem?_cons_zero, List.getElem?_cons_succ]; rfl) (by as_aux_lemma => kernel_rfl) (by as_aux_lemma => kernel_rfl) (by as_aux_lemma => kernel_rfl) (fun _ _ _ h => h) (Or.inl ⟨by rfl, ?_⟩) (by assumption) ?_
          rotate_left
          · intro V hV
            first | (go_simp; done) | (go_simp; with_reducible rfl)
          try simp only [Act.put, List.setIfInBounds_toArray, List.set_cons_zero, List.set_cons_succ]
          refine wpAnyH_take (i := 38) (v := ?_) (by simp only [List.getElem?_toArray, List.getElem?_cons_zero, List.getElem?_cons_succ]; rfl) (by as_aux_lemma => kernel_rfl) (by as_aux_lemma => kernel_rfl) (by as_aux_lemma => kernel_rfl) (fun _ _ _ h => h) (Or.inl ⟨by rfl, ?_⟩) (by assumption) ?_
          rotate_left
          · intro V hV
            first | (go_simp; done) | (go_simp; with_reducible rfl)
          try simp only [Act.put, List.setIfInBounds_toArray, List.set_cons_zero, List.set_cons_succ]
          refine wpAnyH_take (i := 39) (v := ?_) (by simp only [List.getElem?_toArray, List.getElem?_cons_zero, List.getElem?_cons_succ]; rfl) (by as_aux_lemma => kernel_rfl) (by as_aux_lemma => kernel_rfl) (by as_aux_lemma => kernel_rfl) (fun _ _ _ h => h) (Or.inl ⟨by rfl, ?_⟩) (by assumption) ?_
          rotate_left
          · intro V hV
            obtain ⟨⟨s0, s1⟩, ⟨t0, t1, t2, t3⟩, o0, o1, o2, o3⟩ := CE.out _ (CV.out V hV)
            first | (go_simp; done) | (go_simp; with_reducible rfl)
          try simp only [Act.put, List.setIfInBounds_toArray, List.set_cons_zero, List.set_cons_succ]
          refine wpAnyH_take (i := 41) (v := ?_) (by simp only [List.getElem?_toArray, List.getElem?_cons_zero, List.getElem?_cons_succ]; rfl) (by as_aux_lemma => kernel_rfl) (by as_aux_lemma => kernel_rfl) (by as_aux_lemma => kernel_rfl) (fun _ _ _ h => h) (Or.inl ⟨by rfl, ?_⟩) (by assumption) ?_
          rotate_left
          · intro V hV
            obtain ⟨⟨s0, s1⟩, ⟨t0, t1, t2, t3⟩, o0, o1, o2, o3⟩ := CE.out _ (CV.out V hV)
            first | (go_simp; done) | (go_simp; with_reducible rfl)
          try simp only [Act.put, List.setIfInBounds_toArray, List.set_cons_zero, List.set_cons_succ]
          refine wpAnyH_ready (rs := [40]) (by as_aux_lemma => kernel_rfl) (by simp) ?_
          refine AllReadyH.cons (by simp only [List.getElem?_toArray, List.getElem?_cons_zero, List.getElem?_cons_succ]; rfl) (fun K hK => ?_) AllReadyH.nil
          have HON := Lib.hid (own7_any ⟨ua, un, uc, da, dn, dc, xa, xn, xc, ba, bn, bc⟩ T V1 (HT.out.below (CV.out V1 hHeld)) B6.out)
          go_simp
          go_at_call 27; refine HON.out.mono ?_; rintro e w20 ⟨⟨pa, pn, pc, qa, qn, qc, ra, rn, rc, za, zn, zc⟩, rfl, hu, hb20⟩
          have hB20 := hHeld.trans (hb20.mono hHeld.size)
          have hTr := HT.out.below (CV.out _ hB20)
          have HSO := Lib.hid (rsame7_any ⟨pa, pn, pc, qa, qn, qc, ra, rn, rc, za, zn, zc⟩ ⟨ua, un, uc, da, dn, dc, xa, xn, xc, ba, bn, bc⟩ T T w20 hu hTr (by
            have b62 := B62.out
            have l1 := hu.up.1
            have l2 := hTr.up.1
            have l3 := hu.dep.1
            have l4 := hTr.dep.1
            have l5 := hu.wrd.1
            have l6 := hTr.wrd.1
            have l7 := hu.byt.len
            have l8 := hTr.byt.len
            dsimp only at l1 l2 l3 l4 l5 l6 l7 l8 ⊢
            omega))
          rw [eqT_refl] at HSO
          refine hK.out _ _ hB20 (fun hNew => ?_)
          clear hK K hHeld
          have hHeld := hNew
          clear hNew hu hTr
          try simp only [Act.put, List.setIfInBounds_toArray, List.set_cons_zero, List.set_cons_succ]
          refine wpAnyH_ready (rs := [42]) (by as_aux_lemma => kernel_rfl) (by simp) ?_
          refine AllReadyH.cons (by simp only [List.getElem?_toArray, List.getElem?_cons_zero, List.getElem?_cons_succ]; rfl) (fun K hK => ?_) AllReadyH.nil
          go_simp
          go_at_call 16; refine HSO.out.mono ?_; rintro e w21 ⟨rfl, hb21⟩
          have hB21 := hHeld.trans (hb21.mono hHeld.size)
          refine hK.out _ _ hB21 (fun hNew => ?_)
          clear hK K hHeld
          have hHeld := hNew
          clear hNew
          try simp only [Act.put, List.setIfInBounds_toArray, List.set_cons_zero, List.set_cons_succ]
          refine wpAnyH_take (i := 43) (v := ?_) (by simp only [List.getElem?_toArray, List.getElem?_cons_zero, List.getElem?_cons_succ]; rfl) (by as_aux_lemma => kernel_rfl) (by as_aux_lemma => kernel_rfl) (by as_aux_lemma => kernel_rfl) (fun _ _ _ h => h) (Or.inl ⟨by rfl, ?_⟩) (by assumption) ?_
          rotate_left
          · intro V hV
            first | (go_simp; done) | (go_simp; with_reducible rfl)
          try simp only [Act.put, List.setIfInBounds_toArray, List.set_cons_zero, List.set_cons_succ]
          refine wpAnyH_take (i := 44) (v := ?_) (by simp only [List.getElem?_toArray, List.getElem?_cons_zero, List.getElem?_cons_succ]; rfl) (by as_aux_lemma => kernel_rfl) (by as_aux_lemma => kernel_rfl) (by as_aux_lemma => kernel_rfl) (fun _ _ _ h => h) (Or.inl ⟨by rfl, ?_⟩) (by assumption) ?_
          rotate_left
          · intro V hV
            first | (go_simp; done) | (go_simp; with_reducible rfl)
          try simp only [Act.put, List.setIfInBounds_toArray, List.set_cons_zero, List.set_cons_succ]
          refine wpAnyH_one (i := 45) (vi := .bool true) (by simp only [List.getElem?_toArray, List.getElem?_cons_zero, List.getElem?_cons_succ]; rfl) (by as_aux_lemma => kernel_rfl) ?_ ?_ _ hHeld
          · intro V hV K hK
            try simp only [Act.put, List.setIfInBounds_toArray, List.set_cons_zero, List.set_cons_succ] at hK
            go_simp
            go_at_call 9; refine (k8.out V hV).mono ?_; rintro e w2 ⟨rfl, hb2⟩; exact hK _ (hV.trans (hb2.mono hV.size))
          clear hHeld
          intro V1 hHeld
          try simp only [Act.put, List.setIfInBounds_toArray, List.set_cons_zero, List.set_cons_succ]
          refine wpAnyH_take (i := 46) (v := ?_) (by simp only [List.getElem?_toArray, List.getElem?_cons_zero, List.getElem?_cons_succ]; rfl) (by as_aux_lemma => kernel_rfl) (by as_aux_lemma => kernel_rfl) (by as_aux_lemma => kernel_rfl) (fun _ _ _ h => h) (Or.inl ⟨by rfl, ?_⟩) (by assumption) ?_
          rotate_left
          · intro V hV
            first | (go_simp; done) | (go_simp; with_reducible rfl)
          try simp only [Act.put, List.setIfInBounds_toArray, List.set_cons_zero, List.set_cons_succ]
          refine wpAnyH_take (i := 47) (v := ?_) (by simp only [List.getElem?_toArray, List.getElem?_cons_zero, List.getElem?_cons_succ]; rfl) (by as_aux_lemma => kernel_rfl) (by as_aux_lemma => kernel_rfl) (by as_aux_lemma => kernel_rfl) (fun _ _ _ h => h) (Or.inl ⟨by rfl, ?_⟩) (by assumption) ?_
          rotate_left
          · intro V hV
            first | (go_simp; done) | (go_simp; with_reducible rfl)
          try simp only [Act.put, List.setIfInBounds_toArray, List.set_cons_zero, List.set_cons_succ]
          refine wpAnyH_done (by kernel_rfl) ?_ _
          refine NoPanic.normal ?_
          go_wp2
          go_ret
          exact ⟨rfl, hB.trans ((CV.out _ hHeld).mono hB.size)⟩
        · have d1 : decide ((60 : Int) < (nb : Int)) = true := by simp; omega
          have d1' : decide (60 < nb) = true := by simp; omega
          go_wp2_with fail
          refine (wakes7 _).mono ?_
          rintro e w4 ⟨rfl, hb4⟩
          have hB4 := hB.trans ((hw3.trans (hb4.mono hw3.size)).mono hB.size)
          go_wp2
          go_ret
          exact ⟨rfl, hB4⟩
      · have HG2 := Lib.hid (rgreat7_yes ⟨ua2, un2, uc2, da2, dn2, dc2, xa2, xn2, xc2, ba2, bn2, bc2⟩ w2 ho5)
        go_wp2_with fail
        refine HG2.out.mono ?_
        rintro e w3 ⟨rfl, hb3⟩
        have hw3 := hw2.trans (hb3.mono hw2.size)
        clear s0 s1 t0 t1 t2 t3 o0 o1 o2 o3
        go_wp2_with fail
        refine (wakes7 _).mono ?_
        rintro e w4 ⟨rfl, hb4⟩
        have hB4 := hB.trans ((hw3.trans (hb4.mono hw3.size)).mono hB.size)
        go_wp2
        go_ret
        exact ⟨rfl, hB4⟩
    · have HG1 := Lib.hid (rgreat7_yes ⟨ua, un, uc, da, dn, dc, xa, xn, xc, ba, bn, bc⟩ w1 ht5)
      go_wp2_with fail
      refine HG1.out.mono ?_
      rintro e w2 ⟨rfl, hb2⟩
      have hw2 := hb1.trans (hb2.mono hb1.size)
      clear s0 s1 t0 t1 t2 t3 o0 o1 o2 o3
      go_wp2_with fail
      refine (wakes7 _).mono ?_
      rintro e w3 ⟨rfl, hb3⟩
      have hB3 := hB.trans ((hw2.trans (hb3.mono hw2.size)).mono hB.size)
      go_wp2
      go_ret
      exact ⟨rfl, hB3⟩
end Go.Proofs.YtifcoalhkcflnaaGreat
