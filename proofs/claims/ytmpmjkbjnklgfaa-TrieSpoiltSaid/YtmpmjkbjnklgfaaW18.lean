/- Parts of the proof, one behind the other: V9. No condition but what each theorem states. -/
import Derived.Deep.DeepCutAuto
import Derived.Test.YtmpmjkbjnklgfaaW11
import Derived.Test.YtmpmjkbjnklgfaaW17

/- What the document says of he, she, her (layer 7): walked. -/




namespace Go.Proofs.Ytmpmjkbjnklgfaa
open Go.RowKit Go.Sort
set_option linter.unusedVariables false
set_option linter.unusedSimpArgs false

def heN : List (List Int) := [[], [104], [115], [104, 101], [115, 104], [104, 101, 114], [115, 104, 101]]
theorem he_right : rightP false heW = true := by decide +kernel
theorem he_nodes : nodesL heW = heN := by decide +kernel
theorem no_right : rightP false [] = false := by decide +kernel
def heT : TrieT := ⟨[0, 0, 0, 1, 2, 3, 4], [0, 1, 1, 2, 2, 3, 3], [-1, -1, -1, 0, -1, 2, 1], [0, 104, 115, 101, 104, 114, 101]⟩
theorem he_trie : trieP heW = heT := by
  unfold trieP
  rw [he_nodes]
  rfl
theorem he_read : readP heT = some (heN, heW) := by
  have := readP_trie he_right
  rwa [he_trie, he_nodes] at this
def noT : TrieT := ⟨[], [], [], []⟩
theorem no_read : readP noT = none := by decide +kernel
theorem he_find1 : findT heT [115, 104] = (4, true) := by unfold findT; rw [he_read]; decide +kernel
theorem he_find2 : findT heT [] = (0, true) := by unfold findT; rw [he_read]; decide +kernel
theorem he_find3 : findT heT [101] = (0, false) := by unfold findT; rw [he_read]; decide +kernel
theorem he_spell1 : spellT heT 6 = some [115, 104, 101] := by unfold spellT; rw [he_read]; rfl
theorem he_spell2 : spellT heT 7 = none := by unfold spellT; rw [he_read]; rfl
theorem he_rightT : rightT heT = true := by unfold rightT; rw [he_read]; rfl
theorem no_rightT : rightT noT = false := by unfold rightT; rw [no_read]; rfl
theorem he_manyT : manyT heT = 7 := by unfold manyT; rw [he_read]; rfl
theorem no_manyT : manyT noT = 0 := by unfold manyT; rw [no_read]
theorem he_wordsT : wordsT heT = heW := by unfold wordsT; rw [he_read]
theorem he_kid1 {r : Int} {ok : Bool} (h : KidR heT 3 114 r ok) : r = 5 ∧ ok = true := by
  have hk : IsKid heT 3 114 5 := by unfold IsKid; decide
  cases ok with
  | false => exact absurd hk ((h.2 rfl).2 5)
  | true =>
    obtain ⟨k, e, h1, h2, h3, h4⟩ := h.1 rfl
    have h2' : k < 7 := h2
    match k, h1, h2', h3, h4, e with
    | 1, _, _, h, _, _ => simp [heT] at h
    | 2, _, _, h, _, _ => simp [heT] at h
    | 3, _, _, h, _, _ => simp [heT] at h
    | 4, _, _, h, _, _ => simp [heT] at h
    | 5, _, _, _, _, e => exact ⟨e, rfl⟩
    | 6, _, _, h, _, _ => simp [heT] at h
theorem he_kid2 {r : Int} {ok : Bool} (h : KidR heT 3 120 r ok) : ok = false := by
  cases ok with
  | false => rfl
  | true =>
    exfalso
    obtain ⟨k, e, h1, h2, h3, h4⟩ := h.1 rfl
    have h2' : k < 7 := h2
    match k, h1, h2', h3, h4, e with
    | 1, _, _, h, _, _ => simp [heT] at h
    | 2, _, _, h, _, _ => simp [heT] at h
    | 3, _, _, h, _, _ => simp [heT] at h
    | 4, _, _, h, _, _ => simp [heT] at h
    | 5, _, _, _, h, _ => simp [heT] at h
    | 6, _, _, h, _, _ => simp [heT] at h

set_option maxRecDepth 100000 in
set_option maxHeartbeats 1000000 in
theorem three_any (w : World) : Calls Try.prog 80 #[] w fun e w' => ∃ a, e = .returned (.agg (setV false (some a) 3 3)) ∧ Wds w' (some a) 3 heW ∧ Below w.heap.size w w' := by
  have kc := conv_lit
  go_enter Try.func80, Try.ntmps80
  go_wp2
  obtain ⟨A1, hA1⟩ : ∃ A1, A1 = w.alloc (.cells #[.bool false, .slice (some ⟨w.heap.size + 1 + 1 + 1 + 1, 0, none⟩) 3 3] 39) := ⟨_, rfl⟩
  rw [← hA1]
  have z1 : A1.heap.size = w.heap.size + 1 := by rw [hA1]; simp
  have n1 : A1.heap[w.heap.size]? = some (.cells #[.bool false, .slice (some ⟨w.heap.size + 1 + 1 + 1 + 1, 0, none⟩) 3 3] 39 (0, 0)) := by rw [hA1]; exact World.alloc_heap_new _ _
  have B1 : Below w.heap.size w A1 := by rw [hA1]; exact below_alloc _ _
  clear hA1
  obtain ⟨A2, hA2⟩ : ∃ A2, A2 = A1.alloc (.cells #[.int .u8 104, .int .u8 101] 5 (2, 3)) := ⟨_, rfl⟩
  rw [← hA2]
  have z2 : A2.heap.size = w.heap.size + 1 + 1 := by rw [hA2]; simp [z1]
  have y1 : Bys A2 (some ⟨w.heap.size + 1, 0, none⟩) 2 [104, 101] := by rw [hA2]; exact bys_lay [104, 101] (by simp) _ _ z1
  have B2 : Below A1.heap.size A1 A2 := by rw [hA2]; exact below_alloc _ _
  clear hA2
  obtain ⟨A3, hA3⟩ : ∃ A3, A3 = A2.alloc (.cells #[.int .u8 115, .int .u8 104, .int .u8 101] 5 (3, 4)) := ⟨_, rfl⟩
  rw [← hA3]
  have z3 : A3.heap.size = w.heap.size + 1 + 1 + 1 := by rw [hA3]; simp [z2]
  have y2 : Bys A3 (some ⟨w.heap.size + 1 + 1, 0, none⟩) 3 [115, 104, 101] := by rw [hA3]; exact bys_lay [115, 104, 101] (by simp) _ _ z2
  have B3 : Below A2.heap.size A2 A3 := by rw [hA3]; exact below_alloc _ _
  clear hA3
  obtain ⟨A4, hA4⟩ : ∃ A4, A4 = A3.alloc (.cells #[.int .u8 104, .int .u8 101, .int .u8 114] 5 (3, 4)) := ⟨_, rfl⟩
  rw [← hA4]
  have z4 : A4.heap.size = w.heap.size + 1 + 1 + 1 + 1 := by rw [hA4]; simp [z3]
  have y3 : Bys A4 (some ⟨w.heap.size + 1 + 1 + 1, 0, none⟩) 3 [104, 101, 114] := by rw [hA4]; exact bys_lay [104, 101, 114] (by simp) _ _ z3
  have B4 : Below A3.heap.size A3 A4 := by rw [hA4]; exact below_alloc _ _
  clear hA4
  obtain ⟨A5, hA5⟩ : ∃ A5, A5 = A4.alloc (.cells #[.slice (some ⟨w.heap.size + 1, 0, none⟩) 2 2, .slice (some ⟨w.heap.size + 1 + 1, 0, none⟩) 3 3, .slice (some ⟨w.heap.size + 1 + 1 + 1, 0, none⟩) 3 3] 40) := ⟨_, rfl⟩
  rw [← hA5]
  have y4 : Sl1 (fun v : Option Addr × Nat × Nat => Value.slice v.1 v.2.1 v.2.2) A5 (some ⟨w.heap.size + 1 + 1 + 1 + 1, 0, none⟩) 3 [(some ⟨w.heap.size + 1, 0, none⟩, 2, 2), (some ⟨w.heap.size + 1 + 1, 0, none⟩, 3, 3), (some ⟨w.heap.size + 1 + 1 + 1, 0, none⟩, 3, 3)] := by
    rw [hA5]
    exact Sl1.lay (α := Option Addr × Nat × Nat) _ A4 [(some ⟨w.heap.size + 1, 0, none⟩, 2, 2), (some ⟨w.heap.size + 1 + 1, 0, none⟩, 3, 3), (some ⟨w.heap.size + 1 + 1 + 1, 0, none⟩, 3, 3)] _ _ z4
  have B5 : Below A4.heap.size A4 A5 := by rw [hA5]; exact below_alloc _ _
  clear hA5
  have n5 : A5.heap[w.heap.size]? = _ := (B5.block _ (by omega)).trans ((B4.block _ (by omega)).trans ((B3.block _ (by omega)).trans ((B2.block _ (by omega)).trans n1)))
  refine bodyPost_ret (results_cell_row rfl _ _ w.heap.size _ _ _ _ rfl n5 Try.underlying39 rfl (by kernel_rfl)) rfl ⟨_, rfl, ?_, ?_⟩
  · exact wds3 y4 (((y1.below B3).below B4).below B5) ((y2.below B4).below B5) (y3.below B5) (Nat.le_refl _) (Nat.le_refl _) (Nat.le_refl _)
  · exact B1.trans ((B2.trans ((B3.trans ((B4.trans (B5.mono (by omega))).mono (by omega))).mono (by omega))).mono (by omega))


theorem tri_cells {W : World} {p : Nat} {t : TV} (h : W.heap[p]? = some (.cells t.cells 62 (0, 0))) : W.cell? ⟨p, 0, none⟩ = some (.slice t.ua t.un t.uc) ∧ W.cell? ⟨p, 1, none⟩ = some (.slice t.da t.dn t.dc) ∧ W.cell? ⟨p, 2, none⟩ = some (.slice t.xa t.xn t.xc) ∧ W.cell? ⟨p, 3, none⟩ = some (.slice t.ba t.bn t.bc) := by
  simp [World.cell?, h]
/-- What lies there all the way. -/
def SK7 (wz : World) (p q bb off : Nat) (ua : Option Addr) (un uc : Nat) (da : Option Addr) (dn dc : Nat) (xa : Option Addr) (xn xc : Nat) (ba : Option Addr) (bn bc : Nat) (va : Option Addr) (vn vc : Nat) (ea : Option Addr) (en ec : Nat) (ya : Option Addr) (yn yc : Nat) (fa : Option Addr) (fn fc : Nat) (sa : Option Addr) (sc : Nat) (a' : Option Addr) (c' : Nat) (V : World) : Prop :=
  (V.cell? ⟨p, 0, none⟩ = some (.slice ua un uc) ∧ V.cell? ⟨p, 1, none⟩ = some (.slice da dn dc) ∧ V.cell? ⟨p, 2, none⟩ = some (.slice xa xn xc) ∧ V.cell? ⟨p, 3, none⟩ = some (.slice ba bn bc)) ∧
      (V.cell? ⟨q, 0, none⟩ = some (.slice va vn vc) ∧ V.cell? ⟨q, 1, none⟩ = some (.slice ea en ec) ∧ V.cell? ⟨q, 2, none⟩ = some (.slice ya yn yc) ∧ V.cell? ⟨q, 3, none⟩ = some (.slice fa fn fc)) ∧ V.cell? ⟨bb, off + 1, none⟩ = some (.slice a' 3 c') ∧
      Sem.run Try.prog (convert 40 9 (.slice sa 3 sc)) V = .ok (.string ⟨#[115, 104, 101]⟩) V ∧ Sem.run Try.prog (convert 40 9 (.slice a' 3 c')) V = .ok (.string ⟨#[115, 104, 101]⟩) V ∧ Below wz.heap.size wz V

theorem noTV (W : World) : Tri W ⟨none, 0, 0, none, 0, 0, none, 0, 0, none, 0, 0⟩ noT :=
  ⟨⟨rfl, .inl rfl⟩, ⟨rfl, .inl rfl⟩, ⟨rfl, .inl rfl⟩, Bys.nil _ _, Nat.le_refl _, Nat.le_refl _, Nat.le_refl _, Nat.le_refl _⟩

set_option maxRecDepth 100000 in
set_option maxHeartbeats 8000000 in
theorem wakes7 (w : World) : Calls Try.prog 44 #[] w fun e w' => e = .returned (.bool true) ∧ Below w.heap.size w w' := by
  go_enter Try.func44, Try.ntmps44
  go_wp2_with fail
  refine (three_any _).mono ?_
  rintro e w1 ⟨a, rfl, hW, hb1⟩
  go_wp2_with fail
  refine (make7_yes false (some a) 3 3 heW w1 hW (by decide) he_len he_beg he_right).mono ?_
  rintro e w2 ⟨t, rfl, hT, hb2⟩
  rw [he_trie] at hT
  have hB2 : Below w.heap.size w w2 := hb1.trans (hb2.mono hb1.size)
  have hun : t.un ≤ 140737488351232 := by have : 7 = t.un := hT.up.1; omega
  obtain ⟨ua, un, uc, da, dn, dc, xa, xn, xc, ba, bn, bc⟩ := t
  go_upto_region 2 with fail
  obtain ⟨w3, hw3⟩ : ∃ w3, w3 = w2.alloc (.cells #[.slice ua un uc, .slice da dn dc, .slice xa xn xc, .slice ba bn bc] 62) := ⟨_, rfl⟩
  have hO3 : w3.heap[w2.heap.size]? = some (.cells #[.slice ua un uc, .slice da dn dc, .slice xa xn xc, .slice ba bn bc] 62 (0, 0)) := by rw [hw3]; exact World.alloc_heap_new _ _
  have hb3 : Below w2.heap.size w2 w3 := by rw [hw3]; exact below_alloc _ _
  rw [← hw3]
  clear hw3
  have hB3 := hB2.trans (hb3.mono hB2.size)
  have hT3 := hT.below hb3
  obtain ⟨p, hp⟩ : ∃ p, w2.heap.size = p := ⟨_, rfl⟩
  rw [hp] at hO3 ⊢
  clear hp hT hb2 hb3 hB2 hW hb1
  have HC : Hid (∀ V, Below w3.heap.size w3 V → V.cell? ⟨p, 0, none⟩ = some (.slice ua un uc) ∧ V.cell? ⟨p, 1, none⟩ = some (.slice da dn dc) ∧ V.cell? ⟨p, 2, none⟩ = some (.slice xa xn xc) ∧ V.cell? ⟨p, 3, none⟩ = some (.slice ba bn bc)) := fun V hV => by
    have e := (hV.block _ (Array.getElem?_eq_some_iff.1 hO3).1).trans hO3
    simp [World.cell?, e]
  have HT := Lib.hid hT3
  have HUN := Lib.hid hun
  clear hT3 hO3 hun
  go_wp2_with fail
  refine (make7_no false none 0 0 [] w3 (Wds.nil _ _) (by decide) (by simp) (by decide) no_right).mono ?_
  rintro e w4 ⟨rfl, hb4⟩
  go_upto_region 3 with fail
  obtain ⟨w5, hw5⟩ : ∃ w5, w5 = w4.alloc (.cells nil4 62) := ⟨_, rfl⟩
  have hB5 : Below w3.heap.size w3 w5 := by rw [hw5]; exact hb4.alloc hb4.size _
  rw [← hw5]
  clear hw5
  obtain ⟨c0, c1, c2, c3⟩ := HC.out w5 hB5
  go_wp2_with fail
  refine (tkid_any ⟨ua, un, uc, da, dn, dc, xa, xn, xc, ba, bn, bc⟩ heT 3 114 w5 (HT.out.below hB5) HUN.out).mono ?_
  rintro e w6 ⟨r1, ok1, rfl, hk1, _, hb6⟩
  obtain ⟨rfl, rfl⟩ := he_kid1 (hk1 he_rightT)
  clear hk1
  have hB6 : Below w3.heap.size w3 w6 := hB5.trans (hb6.mono hB5.size)
  clear c0 c1 c2 c3 hb6
  obtain ⟨c0, c1, c2, c3⟩ := HC.out w6 hB6
  go_wp2_with fail
  refine (tkid_any ⟨ua, un, uc, da, dn, dc, xa, xn, xc, ba, bn, bc⟩ heT 3 120 w6 (HT.out.below hB6) HUN.out).mono ?_
  rintro e w7 ⟨r2, ok2, rfl, hk2, _, hb7⟩
  obtain rfl := he_kid2 (hk2 he_rightT)
  clear hk2
  have hB7 : Below w3.heap.size w3 w7 := hB6.trans (hb7.mono hB6.size)
  clear c0 c1 c2 c3 hb7
  obtain ⟨c0, c1, c2, c3⟩ := HC.out w7 hB7
  have hB8 : Below w3.heap.size w3 (w7.alloc (.cells #[.int .u8 115, .int .u8 104] 5)) := hB7.alloc hB7.size _
  go_wp2_with fail
  refine (tfind_any ⟨ua, un, uc, da, dn, dc, xa, xn, xc, ba, bn, bc⟩ heT (some ⟨w7.heap.size, 0, none⟩) 2 2 [115, 104] _ (HT.out.below hB8) HUN.out (bys_lay [115, 104] (by decide) _ _ rfl)).mono ?_
  rintro e w9 ⟨rfl, hb9⟩
  rw [he_find1]
  have hB9 : Below w3.heap.size w3 w9 := hB8.trans (hb9.mono hB8.size)
  clear c0 c1 c2 c3 hb9
  obtain ⟨c0, c1, c2, c3⟩ := HC.out w9 hB9
  go_wp2_with fail
  refine (tfind_any ⟨ua, un, uc, da, dn, dc, xa, xn, xc, ba, bn, bc⟩ heT none 0 0 [] w9 (HT.out.below hB9) HUN.out (Bys.nil _ _)).mono ?_
  rintro e w10 ⟨rfl, hb10⟩
  rw [he_find2]
  have hB10 : Below w3.heap.size w3 w10 := hB9.trans (hb10.mono hB9.size)
  clear c0 c1 c2 c3 hb10
  obtain ⟨c0, c1, c2, c3⟩ := HC.out w10 hB10
  have hB11 : Below w3.heap.size w3 (w10.alloc (.cells #[.int .u8 101] 5)) := hB10.alloc hB10.size _
  go_wp2_with fail
  refine (tfind_any ⟨ua, un, uc, da, dn, dc, xa, xn, xc, ba, bn, bc⟩ heT (some ⟨w10.heap.size, 0, none⟩) 1 1 [101] _ (HT.out.below hB11) HUN.out (bys_lay [101] (by decide) _ _ rfl)).mono ?_
  rintro e w12 ⟨rfl, hb12⟩
  rw [he_find3]
  have hB12 : Below w3.heap.size w3 w12 := hB11.trans (hb12.mono hB11.size)
  clear c0 c1 c2 c3 hb12
  obtain ⟨c0, c1, c2, c3⟩ := HC.out w12 hB12
  go_wp2_with fail
  refine (tspell_any ⟨ua, un, uc, da, dn, dc, xa, xn, xc, ba, bn, bc⟩ heT 6 w12 (HT.out.below hB12) HUN.out).mono ?_
  rintro e w13 ⟨hs1, _, hb13⟩
  obtain ⟨sa, sc, rfl, hSB, hsc⟩ := hs1 _ he_spell1
  clear hs1
  have hB13 : Below w3.heap.size w3 w13 := hB12.trans (hb13.mono hB12.size)
  clear c0 c1 c2 c3 hb13
  obtain ⟨c0, c1, c2, c3⟩ := HC.out w13 hB13
  go_wp2_with fail
  refine (tspell_any ⟨ua, un, uc, da, dn, dc, xa, xn, xc, ba, bn, bc⟩ heT 7 w13 (HT.out.below hB13) HUN.out).mono ?_
  rintro e w14 ⟨_, hs2, hb14⟩
  obtain rfl := hs2 he_spell2
  clear hs2
  have hSB2 := hSB.below hb14
  clear hSB
  have hB14 : Below w3.heap.size w3 w14 := hB13.trans (hb14.mono hB13.size)
  clear c0 c1 c2 c3 hb14
  obtain ⟨c0, c1, c2, c3⟩ := HC.out w14 hB14
  have kc := conv_lit
  go_upto_region 11 with fail
  clear kc
  clear c0 c1 c2 c3
  obtain ⟨A1, hA1⟩ : ∃ A, A = w14.alloc (.cells #[.int .i64 0, .int .i64 0, .int .i64 0, .int .i64 1, .int .i64 2, .int .i64 3, .int .i64 4] 3) := ⟨_, rfl⟩
  rw [← hA1]
  have z1 : A1.heap.size = w14.heap.size + 1 := by rw [hA1]; simp
  have y1 : Sl1 (Value.int .i64) A1 (some ⟨w14.heap.size, 0, none⟩) 7 [0, 0, 0, 1, 2, 3, 4] := by rw [hA1]; exact Sl1.lay (Value.int .i64) w14 [0, 0, 0, 1, 2, 3, 4] _ _ rfl
  have G1 : Below w14.heap.size w14 A1 := by rw [hA1]; exact below_alloc _ _
  clear hA1
  obtain ⟨A2, hA2⟩ : ∃ A, A = A1.alloc (.cells #[.int .i64 0, .int .i64 1, .int .i64 1, .int .i64 2, .int .i64 2, .int .i64 3, .int .i64 3] 3) := ⟨_, rfl⟩
  rw [← hA2]
  have z2 : A2.heap.size = w14.heap.size + 1 + 1 := by rw [hA2]; simp [z1]
  have y2 : Sl1 (Value.int .i64) A2 (some ⟨w14.heap.size + 1, 0, none⟩) 7 [0, 1, 1, 2, 2, 3, 3] := by rw [hA2]; exact Sl1.lay (Value.int .i64) A1 [0, 1, 1, 2, 2, 3, 3] _ _ z1
  have G2 : Below A1.heap.size A1 A2 := by rw [hA2]; exact below_alloc _ _
  clear hA2
  obtain ⟨A3, hA3⟩ : ∃ A, A = A2.alloc (.cells #[.int .i64 (-1), .int .i64 (-1), .int .i64 (-1), .int .i64 0, .int .i64 (-1), .int .i64 2, .int .i64 1] 3) := ⟨_, rfl⟩
  rw [← hA3]
  have z3 : A3.heap.size = w14.heap.size + 1 + 1 + 1 := by rw [hA3]; simp [z2]
  have y3 : Sl1 (Value.int .i64) A3 (some ⟨w14.heap.size + 1 + 1, 0, none⟩) 7 [-1, -1, -1, 0, -1, 2, 1] := by rw [hA3]; exact Sl1.lay (Value.int .i64) A2 [-1, -1, -1, 0, -1, 2, 1] _ _ z2
  have G3 : Below A2.heap.size A2 A3 := by rw [hA3]; exact below_alloc _ _
  clear hA3
  obtain ⟨A4, hA4⟩ : ∃ A, A = A3.alloc (.cells #[.int .u8 0, .int .u8 104, .int .u8 115, .int .u8 101, .int .u8 104, .int .u8 114, .int .u8 101] 5 (7, 8)) := ⟨_, rfl⟩
  rw [← hA4]
  have z4 : A4.heap.size = w14.heap.size + 1 + 1 + 1 + 1 := by rw [hA4]; simp [z3]
  have y4 : Bys A4 (some ⟨w14.heap.size + 1 + 1 + 1, 0, none⟩) 7 [0, 104, 115, 101, 104, 114, 101] := by rw [hA4]; exact bys_lay [0, 104, 115, 101, 104, 114, 101] (by decide) _ _ z3
  have G4 : Below A3.heap.size A3 A4 := by rw [hA4]; exact below_alloc _ _
  clear hA4
  obtain ⟨A5, hA5⟩ : ∃ A, A = A4.alloc (.cells #[.slice (some ⟨w14.heap.size, 0, none⟩) 7 7, .slice (some ⟨w14.heap.size + 1, 0, none⟩) 7 7, .slice (some ⟨w14.heap.size + 1 + 1, 0, none⟩) 7 7, .slice (some ⟨w14.heap.size + 1 + 1 + 1, 0, none⟩) 7 7] 62) := ⟨_, rfl⟩
  rw [← hA5]
  have G5 : Below A4.heap.size A4 A5 := by rw [hA5]; exact below_alloc _ _
  have n5 : A5.heap[w14.heap.size + 1 + 1 + 1 + 1]? = some (.cells (TV.mk (some ⟨w14.heap.size, 0, none⟩) 7 7 (some ⟨w14.heap.size + 1, 0, none⟩) 7 7 (some ⟨w14.heap.size + 1 + 1, 0, none⟩) 7 7 (some ⟨w14.heap.size + 1 + 1 + 1, 0, none⟩) 7 7).cells 62 (0, 0)) := by rw [hA5]; exact alloc_at z4 _
  clear hA5
  have hU5 : Tri A5 (TV.mk (some ⟨w14.heap.size, 0, none⟩) 7 7 (some ⟨w14.heap.size + 1, 0, none⟩) 7 7 (some ⟨w14.heap.size + 1 + 1, 0, none⟩) 7 7 (some ⟨w14.heap.size + 1 + 1 + 1, 0, none⟩) 7 7) heT :=
    ⟨((((y1.below G2).below G3).below G4).below G5), ((y2.below G3).below G4).below G5, (y3.below G4).below G5, y4.below G5, Nat.le_refl _, Nat.le_refl _, Nat.le_refl _, Nat.le_refl _⟩
  have g45 : Below w14.heap.size w14 A5 := G1.trans ((G2.trans ((G3.trans ((G4.trans (G5.mono (by omega))).mono (by omega))).mono (by omega))).mono (by omega))
  clear y1 y2 y3 y4 G1 G2 G3 G4 G5 z1 z2 z3
  have hBA : Below w3.heap.size w3 A5 := hB14.trans (g45.mono hB14.size)
  have hSA := hSB2.below g45
  clear hSB2 g45 hB5 hB6 hB7 hB8 hB9 hB10 hB11 hB12 hB13 hB14 hb4
  obtain ⟨q, hq⟩ : ∃ q, q = w14.heap.size + 1 + 1 + 1 + 1 := ⟨_, rfl⟩
  rw [← hq] at n5 ⊢
  obtain ⟨u, hu⟩ : ∃ u, u = TV.mk (some ⟨w14.heap.size, 0, none⟩) 7 7 (some ⟨w14.heap.size + 1, 0, none⟩) 7 7 (some ⟨w14.heap.size + 1 + 1, 0, none⟩) 7 7 (some ⟨w14.heap.size + 1 + 1 + 1, 0, none⟩) 7 7 := ⟨_, rfl⟩
  rw [← hu] at n5 hU5
  clear hq hu z4
  obtain ⟨va, vn, vc, ea, en, ec, ya, yn, yc, fa, fn, fc⟩ := u
  obtain ⟨c0, c1, c2, c3⟩ := HC.out A5 hBA
  go_cut [20] from 21 (fun s wx => ∃ wa wcp, s = .slice wa 3 wcp ∧ Wds wx wa 3 heW ∧ Below A5.heap.size A5 wx)
  case first =>
    go_wp2_with fail
    refine (twords_any ⟨ua, un, uc, da, dn, dc, xa, xn, xc, ba, bn, bc⟩ heT A5 (HT.out.below hBA) HUN.out).mono ?_
    rintro e wz ⟨wa, wcp, rfl, hWz, hwc, hbz⟩
    rw [he_wordsT] at hWz hwc ⊢
    have e33 : heW.length = 3 := rfl
    rw [e33] at hWz hwc ⊢
    clear e33
    go_wp2_with fail
    go_meet
    exact ⟨wa, wcp, rfl, hWz, hbz⟩
  case rest =>
  obtain ⟨wz, hwz⟩ : ∃ z, z = wc := ⟨_, rfl⟩
  subst hwz
  obtain ⟨wa, wcp, rfl, hWz, hbz⟩ := hcut
  have hBz : Below w3.heap.size w3 wz := hBA.trans (hbz.mono hBA.size)
  have hSz := hSA.below hbz
  have hUz := hU5.below hbz
  have nz := (hbz.block _ (Array.getElem?_eq_some_iff.1 n5).1).trans n5
  clear c0 c1 c2 c3 hSA hU5 n5 hBA hbz
  obtain ⟨bb, off, a', l', c', x, rfl, hbl, hcell, hx, hX, hlc⟩ := hWz.at_ (k := 1) (by decide)
  obtain rfl : [115, 104, 101] = x := Option.some.inj hx
  have hTz := HT.out.below hBz
  have hBfin : Below w.heap.size w wz := hB3.trans (hBz.mono hB3.size)
  clear hx hWz
  have HCZ : Hid (∀ V, Below wz.heap.size wz V → (V.cell? ⟨p, 0, none⟩ = some (.slice ua un uc) ∧ V.cell? ⟨p, 1, none⟩ = some (.slice da dn dc) ∧ V.cell? ⟨p, 2, none⟩ = some (.slice xa xn xc) ∧ V.cell? ⟨p, 3, none⟩ = some (.slice ba bn bc)) ∧
      (V.cell? ⟨q, 0, none⟩ = some (.slice va vn vc) ∧ V.cell? ⟨q, 1, none⟩ = some (.slice ea en ec) ∧ V.cell? ⟨q, 2, none⟩ = some (.slice ya yn yc) ∧ V.cell? ⟨q, 3, none⟩ = some (.slice fa fn fc)) ∧ V.cell? ⟨bb, off + 1, none⟩ = some (.slice a' l' c')) := fun V hV => by
    refine ⟨HC.out V (hBz.trans (hV.mono hBz.size)), ?_, (hV.cell (p := ⟨bb, off + 1, none⟩) hbl).trans hcell⟩
    have e := (hV.block _ (Array.getElem?_eq_some_iff.1 nz).1).trans nz
    simp [World.cell?, e]
  have l1 : 7 = un := hTz.up.1
  have l2 : 7 = dn := hTz.dep.1
  have l3 : 7 = xn := hTz.wrd.1
  have l4 : 7 = bn := hTz.byt.1.1
  have l5 : 3 = l' := hX.len
  subst l5
  have e3 : strOfNums [115, 104, 101] = ⟨#[115, 104, 101]⟩ := by rfl
  have HSK : Hid (∀ V, Below wz.heap.size wz V → SK7 wz p q bb off ua un uc da dn dc xa xn xc ba bn bc va vn vc ea en ec ya yn yc fa fn fc sa sc a' c' V) := fun V hV => by
    obtain ⟨h1, h2, h3⟩ := HCZ.out V hV
    have g1 := conv_bys (hSz.below hV) sc
    have g2 := conv_bys (hX.below hV) c'
    rw [e3] at g1 g2
    exact ⟨h1, h2, h3, g1, g2, hV⟩
  have H1 : Hid (∀ V, Below wz.heap.size wz V → Calls Try.prog 81 #[.agg #[.slice ua un uc, .slice da dn dc, .slice xa xn xc, .slice ba bn bc], .agg #[.slice va vn vc, .slice ea en ec, .slice ya yn yc, .slice fa fn fc]] V fun e w' => e = .returned (.bool true) ∧ Below wz.heap.size wz w') := fun V hV =>
    (rsame7_any ⟨ua, un, uc, da, dn, dc, xa, xn, xc, ba, bn, bc⟩ ⟨va, vn, vc, ea, en, ec, ya, yn, yc, fa, fn, fc⟩ heT heT V (hTz.below hV) (hUz.below hV) (by dsimp only; omega)).mono fun e w' ⟨e1, e2⟩ => ⟨by rw [e1, eqT_iff.2 rfl], hV.trans (e2.mono hV.size)⟩
  have H2 : Hid (∀ V, Below wz.heap.size wz V → Calls Try.prog 47 #[.agg #[.slice ua un uc, .slice da dn dc, .slice xa xn xc, .slice ba bn bc]] V fun e w' => e = .returned (.int .i64 7) ∧ Below wz.heap.size wz w') := fun V hV =>
    (tmany_any ⟨ua, un, uc, da, dn, dc, xa, xn, xc, ba, bn, bc⟩ heT V (hTz.below hV) (by dsimp only; omega)).mono fun e w' ⟨e1, e2⟩ => ⟨by rw [e1, he_manyT], hV.trans (e2.mono hV.size)⟩
  have H3 : Hid (∀ V, Below wz.heap.size wz V → Calls Try.prog 46 #[.agg #[.slice ua un uc, .slice da dn dc, .slice xa xn xc, .slice ba bn bc]] V fun e w' => e = .returned (.bool true) ∧ Below wz.heap.size wz w') := fun V hV =>
    (tright_any ⟨ua, un, uc, da, dn, dc, xa, xn, xc, ba, bn, bc⟩ heT V (hTz.below hV) (by dsimp only; omega)).mono fun e w' ⟨e1, e2⟩ => ⟨by rw [e1, he_rightT], hV.trans (e2.mono hV.size)⟩
  have H4 : Hid (∀ V, Below wz.heap.size wz V → Calls Try.prog 46 #[.agg nil4] V fun e w' => e = .returned (.bool false) ∧ Below wz.heap.size wz w') := fun V hV =>
    (tright_any ⟨none, 0, 0, none, 0, 0, none, 0, 0, none, 0, 0⟩ noT V (noTV V) (by dsimp only; omega)).mono fun e w' ⟨e1, e2⟩ => ⟨by rw [e1, no_rightT], hV.trans (e2.mono hV.size)⟩
  have H5 : Hid (∀ V, Below wz.heap.size wz V → Calls Try.prog 47 #[.agg nil4] V fun e w' => e = .returned (.int .i64 0) ∧ Below wz.heap.size wz w') := fun V hV =>
    (tmany_any ⟨none, 0, 0, none, 0, 0, none, 0, 0, none, 0, 0⟩ noT V (noTV V) (by dsimp only; omega)).mono fun e w' ⟨e1, e2⟩ => ⟨by rw [e1, no_manyT], hV.trans (e2.mono hV.size)⟩
  have H6 : Hid (∀ V, Below wz.heap.size wz V → Calls Try.prog 82 #[.agg #[.slice ua un uc, .slice da dn dc, .slice xa xn xc, .slice ba bn bc], .agg nil4] V fun e w' => e = .returned (.bool false) ∧ Below wz.heap.size wz w') := fun V hV =>
    (tsame_any ⟨ua, un, uc, da, dn, dc, xa, xn, xc, ba, bn, bc⟩ ⟨none, 0, 0, none, 0, 0, none, 0, 0, none, 0, 0⟩ heT noT V (hTz.below hV) (noTV V) (by dsimp only; omega)).mono fun e w' ⟨e1, e2⟩ => ⟨by rw [e1]; rfl, hV.trans (e2.mono hV.size)⟩
  have H7 : Hid (∀ V, Below wz.heap.size wz V → Calls Try.prog 83 #[.agg #[.slice ua un uc, .slice da dn dc, .slice xa xn xc, .slice ba bn bc]] V fun e w' => ∃ u : TV, e = .returned (.agg u.cells) ∧ Tri w' u heT ∧ Below wz.heap.size wz w') := fun V hV =>
    (own7_any ⟨ua, un, uc, da, dn, dc, xa, xn, xc, ba, bn, bc⟩ heT V (hTz.below hV) (by dsimp only; omega)).mono fun e w' ⟨u, e1, e2, e3⟩ => ⟨u, e1, e2, hV.trans (e3.mono hV.size)⟩
  have H8 : Hid (∀ V u, Below wz.heap.size wz V → Tri V u heT → Calls Try.prog 82 #[.agg u.cells, .agg #[.slice ua un uc, .slice da dn dc, .slice xa xn xc, .slice ba bn bc]] V fun e w' => e = .returned (.bool true) ∧ Below wz.heap.size wz w') := fun V u hV hu =>
    (tsame_any u ⟨ua, un, uc, da, dn, dc, xa, xn, xc, ba, bn, bc⟩ heT heT V hu (hTz.below hV) (by
      have m1 : 7 = u.un := hu.up.1
      have m2 : 7 = u.dn := hu.dep.1
      have m3 : 7 = u.xn := hu.wrd.1
      have m4 : 7 = u.bn := hu.byt.1.1
      omega)).mono fun e w' ⟨e1, e2⟩ => ⟨by rw [e1, eqT_iff.2 rfl], hV.trans (e2.mono hV.size)⟩
  have hBel := Below.refl wz.heap.size wz
  have HFIN := Lib.hid hBfin
  clear hTz hUz hSz nz hX hBz hBfin hcell l1 l2 l3 l4 e3
  have hbeld : Below wz.heap.size wz wz.drew := hBel.drew
  go_wp2
  clear HC HT HUN HCZ
  simp only [List.append_eq, List.cons_append, List.nil_append]
  refine wp_region_noPanic ?_
  refine wp_region_held_drew (S := SK7 wz p q bb off ua un uc da dn dc xa xn xc ba bn bc va vn vc ea en ec ya yn yc fa fn fc sa sc a' c') (by as_aux_lemma => kernel_rfl) ?_ (fun hHeld => ?_)
  · exact HSK.out _ (by assumption)
  refine wpAnyH_take (i := 0) (v := ?_) (by simp only [List.getElem?_toArray, List.getElem?_cons_zero, List.getElem?_cons_succ]; rfl) (by as_aux_lemma => kernel_rfl) (by as_aux_lemma => kernel_rfl) (by as_aux_lemma => kernel_rfl) (fun _ _ _ h => h) (Or.inl ⟨by rfl, ?_⟩) (by assumption) ?_
  rotate_left
  · intro V hV
    obtain ⟨⟨k0, k1, k2, k3⟩, ⟨k4, k5, k6, k7⟩, k8, k9, k10, _⟩ := hV
    first | (go_simp; done) | (go_simp; with_reducible rfl)
  try simp only [Act.put, List.setIfInBounds_toArray, List.set_cons_zero, List.set_cons_succ]
  refine wpAnyH_take (i := 1) (v := ?_) (by simp only [List.getElem?_toArray, List.getElem?_cons_zero, List.getElem?_cons_succ]; rfl) (by as_aux_lemma => kernel_rfl) (by as_aux_lemma => kernel_rfl) (by as_aux_lemma => kernel_rfl) (fun _ _ _ h => h) (Or.inl ⟨by rfl, ?_⟩) (by assumption) ?_
  rotate_left
  · intro V hV
    obtain ⟨⟨k0, k1, k2, k3⟩, ⟨k4, k5, k6, k7⟩, k8, k9, k10, _⟩ := hV
    first | (go_simp; done) | (go_simp; with_reducible rfl)
  try simp only [Act.put, List.setIfInBounds_toArray, List.set_cons_zero, List.set_cons_succ]
  refine wpAnyH_take (i := 2) (v := ?_) (by simp only [List.getElem?_toArray, List.getElem?_cons_zero, List.getElem?_cons_succ]; rfl) (by as_aux_lemma => kernel_rfl) (by as_aux_lemma => kernel_rfl) (by as_aux_lemma => kernel_rfl) (fun _ _ _ h => h) (Or.inl ⟨by rfl, ?_⟩) (by assumption) ?_
  rotate_left
  · intro V hV
    obtain ⟨⟨k0, k1, k2, k3⟩, ⟨k4, k5, k6, k7⟩, k8, k9, k10, _⟩ := hV
    first | (go_simp; done) | (go_simp; with_reducible rfl)
  try simp only [Act.put, List.setIfInBounds_toArray, List.set_cons_zero, List.set_cons_succ]
  refine wpAnyH_take (i := 3) (v := ?_) (by simp only [List.getElem?_toArray, List.getElem?_cons_zero, List.getElem?_cons_succ]; rfl) (by as_aux_lemma => kernel_rfl) (by as_aux_lemma => kernel_rfl) (by as_aux_lemma => kernel_rfl) (fun _ _ _ h => h) (Or.inl ⟨by rfl, ?_⟩) (by assumption) ?_
  rotate_left
  · intro V hV
    obtain ⟨⟨k0, k1, k2, k3⟩, ⟨k4, k5, k6, k7⟩, k8, k9, k10, _⟩ := hV
    first | (go_simp; done) | (go_simp; with_reducible rfl)
  try simp only [Act.put, List.setIfInBounds_toArray, List.set_cons_zero, List.set_cons_succ]
  refine wpAnyH_take (i := 4) (v := ?_) (by simp only [List.getElem?_toArray, List.getElem?_cons_zero, List.getElem?_cons_succ]; rfl) (by as_aux_lemma => kernel_rfl) (by as_aux_lemma => kernel_rfl) (by as_aux_lemma => kernel_rfl) (fun _ _ _ h => h) (Or.inl ⟨by rfl, ?_⟩) (by assumption) ?_
  rotate_left
  · intro V hV
    obtain ⟨⟨k0, k1, k2, k3⟩, ⟨k4, k5, k6, k7⟩, k8, k9, k10, _⟩ := hV
    first | (go_simp; done) | (go_simp; with_reducible rfl)
  try simp only [Act.put, List.setIfInBounds_toArray, List.set_cons_zero, List.set_cons_succ]
  refine wpAnyH_take (i := 5) (v := ?_) (by simp only [List.getElem?_toArray, List.getElem?_cons_zero, List.getElem?_cons_succ]; rfl) (by as_aux_lemma => kernel_rfl) (by as_aux_lemma => kernel_rfl) (by as_aux_lemma => kernel_rfl) (fun _ _ _ h => h) (Or.inl ⟨by rfl, ?_⟩) (by assumption) ?_
  rotate_left
  · intro V hV
    obtain ⟨⟨k0, k1, k2, k3⟩, ⟨k4, k5, k6, k7⟩, k8, k9, k10, _⟩ := hV
    first | (go_simp; done) | (go_simp; with_reducible rfl)
  try simp only [Act.put, List.setIfInBounds_toArray, List.set_cons_zero, List.set_cons_succ]
  refine wpAnyH_take (i := 6) (v := ?_) (by simp only [List.getElem?_toArray, List.getElem?_cons_zero, List.getElem?_cons_succ]; rfl) (by as_aux_lemma => kernel_rfl) (by as_aux_lemma => kernel_rfl) (by as_aux_lemma => kernel_rfl) (fun _ _ _ h => h) (Or.inl ⟨by rfl, ?_⟩) (by assumption) ?_
  rotate_left
  · intro V hV
    obtain ⟨⟨k0, k1, k2, k3⟩, ⟨k4, k5, k6, k7⟩, k8, k9, k10, _⟩ := hV
    first | (go_simp; done) | (go_simp; with_reducible rfl)
  try simp only [Act.put, List.setIfInBounds_toArray, List.set_cons_zero, List.set_cons_succ]
  refine wpAnyH_take (i := 7) (v := ?_) (by simp only [List.getElem?_toArray, List.getElem?_cons_zero, List.getElem?_cons_succ]; rfl) (by as_aux_lemma => kernel_rfl) (by as_aux_lemma => kernel_rfl) (by as_aux_lemma => kernel_rfl) (fun _ _ _ h => h) (Or.inl ⟨by rfl, ?_⟩) (by assumption) ?_
  rotate_left
  · intro V hV
    obtain ⟨⟨k0, k1, k2, k3⟩, ⟨k4, k5, k6, k7⟩, k8, k9, k10, _⟩ := hV
    first | (go_simp; done) | (go_simp; with_reducible rfl)
  try simp only [Act.put, List.setIfInBounds_toArray, List.set_cons_zero, List.set_cons_succ]
  refine wpAnyH_take (i := 8) (v := ?_) (by simp only [List.getElem?_toArray, List.getElem?_cons_zero, List.getElem?_cons_succ]; rfl) (by as_aux_lemma => kernel_rfl) (by as_aux_lemma => kernel_rfl) (by as_aux_lemma => kernel_rfl) (fun _ _ _ h => h) (Or.inl ⟨by rfl, ?_⟩) (by assumption) ?_
  rotate_left
  · intro V hV
    obtain ⟨⟨k0, k1, k2, k3⟩, ⟨k4, k5, k6, k7⟩, k8, k9, k10, _⟩ := hV
    first | (go_simp; done) | (go_simp; with_reducible rfl)
  try simp only [Act.put, List.setIfInBounds_toArray, List.set_cons_zero, List.set_cons_succ]
  refine wpAnyH_ready (rs := [9]) (by as_aux_lemma => kernel_rfl) (by simp) ?_
  refine AllReadyH.cons (by simp only [List.getElem?_toArray, List.getElem?_cons_zero, List.getElem?_cons_succ]; rfl) (fun K hK => ?_) AllReadyH.nil
  have hOld := hHeld
  go_simp
  go_at_call 81; (with_reducible refine (H1.out _ (by assumption)).mono ?_); rintro e w' ⟨rfl, hbw⟩
  refine hK.out _ _ ?_ (fun hNew => ?_)
  · exact HSK.out _ (by assumption)
  clear hK K hHeld hOld
  have hHeld := hNew
  clear hNew
  try simp only [Act.put, List.setIfInBounds_toArray, List.set_cons_zero, List.set_cons_succ]
  refine wpAnyH_take (i := 10) (v := ?_) (by simp only [List.getElem?_toArray, List.getElem?_cons_zero, List.getElem?_cons_succ]; rfl) (by as_aux_lemma => kernel_rfl) (by as_aux_lemma => kernel_rfl) (by as_aux_lemma => kernel_rfl) (fun _ _ _ h => h) (Or.inl ⟨by rfl, ?_⟩) (by assumption) ?_
  rotate_left
  · intro V hV
    obtain ⟨⟨k0, k1, k2, k3⟩, ⟨k4, k5, k6, k7⟩, k8, k9, k10, _⟩ := hV
    first | (go_simp; done) | (go_simp; with_reducible rfl)
  try simp only [Act.put, List.setIfInBounds_toArray, List.set_cons_zero, List.set_cons_succ]
  refine wpAnyH_take (i := 11) (v := ?_) (by simp only [List.getElem?_toArray, List.getElem?_cons_zero, List.getElem?_cons_succ]; rfl) (by as_aux_lemma => kernel_rfl) (by as_aux_lemma => kernel_rfl) (by as_aux_lemma => kernel_rfl) (fun _ _ _ h => h) (Or.inl ⟨by rfl, ?_⟩) (by assumption) ?_
  rotate_left
  · intro V hV
    obtain ⟨⟨k0, k1, k2, k3⟩, ⟨k4, k5, k6, k7⟩, k8, k9, k10, _⟩ := hV
    first | (go_simp; done) | (go_simp; with_reducible rfl)
  try simp only [Act.put, List.setIfInBounds_toArray, List.set_cons_zero, List.set_cons_succ]
  refine wpAnyH_take (i := 12) (v := ?_) (by simp only [List.getElem?_toArray, List.getElem?_cons_zero, List.getElem?_cons_succ]; rfl) (by as_aux_lemma => kernel_rfl) (by as_aux_lemma => kernel_rfl) (by as_aux_lemma => kernel_rfl) (fun _ _ _ h => h) (Or.inl ⟨by rfl, ?_⟩) (by assumption) ?_
  rotate_left
  · intro V hV
    obtain ⟨⟨k0, k1, k2, k3⟩, ⟨k4, k5, k6, k7⟩, k8, k9, k10, _⟩ := hV
    first | (go_simp; done) | (go_simp; with_reducible rfl)
  try simp only [Act.put, List.setIfInBounds_toArray, List.set_cons_zero, List.set_cons_succ]
  refine wpAnyH_take (i := 13) (v := ?_) (by simp only [List.getElem?_toArray, List.getElem?_cons_zero, List.getElem?_cons_succ]; rfl) (by as_aux_lemma => kernel_rfl) (by as_aux_lemma => kernel_rfl) (by as_aux_lemma => kernel_rfl) (fun _ _ _ h => h) (Or.inl ⟨by rfl, ?_⟩) (by assumption) ?_
  rotate_left
  · intro V hV
    obtain ⟨⟨k0, k1, k2, k3⟩, ⟨k4, k5, k6, k7⟩, k8, k9, k10, _⟩ := hV
    first | (go_simp; done) | (go_simp; with_reducible rfl)
  try simp only [Act.put, List.setIfInBounds_toArray, List.set_cons_zero, List.set_cons_succ]
  refine wpAnyH_take (i := 14) (v := ?_) (by simp only [List.getElem?_toArray, List.getElem?_cons_zero, List.getElem?_cons_succ]; rfl) (by as_aux_lemma => kernel_rfl) (by as_aux_lemma => kernel_rfl) (by as_aux_lemma => kernel_rfl) (fun _ _ _ h => h) (Or.inl ⟨by rfl, ?_⟩) (by assumption) ?_
  rotate_left
  · intro V hV
    obtain ⟨⟨k0, k1, k2, k3⟩, ⟨k4, k5, k6, k7⟩, k8, k9, k10, _⟩ := hV
    first | (go_simp; done) | (go_simp; with_reducible rfl)
  try simp only [Act.put, List.setIfInBounds_toArray, List.set_cons_zero, List.set_cons_succ]
  refine wpAnyH_take (i := 15) (v := ?_) (by simp only [List.getElem?_toArray, List.getElem?_cons_zero, List.getElem?_cons_succ]; rfl) (by as_aux_lemma => kernel_rfl) (by as_aux_lemma => kernel_rfl) (by as_aux_lemma => kernel_rfl) (fun _ _ _ h => h) (Or.inl ⟨by rfl, ?_⟩) (by assumption) ?_
  rotate_left
  · intro V hV
    obtain ⟨⟨k0, k1, k2, k3⟩, ⟨k4, k5, k6, k7⟩, k8, k9, k10, _⟩ := hV
    first | (go_simp; done) | (go_simp; with_reducible rfl)
  try simp only [Act.put, List.setIfInBounds_toArray, List.set_cons_zero, List.set_cons_succ]
  refine wpAnyH_take (i := 16) (v := ?_) (by simp only [List.getElem?_toArray, List.getElem?_cons_zero, List.getElem?_cons_succ]; rfl) (by as_aux_lemma => kernel_rfl) (by as_aux_lemma => kernel_rfl) (by as_aux_lemma => kernel_rfl) (fun _ _ _ h => h) (Or.inl ⟨by rfl, ?_⟩) (by assumption) ?_
  rotate_left
  · intro V hV
    obtain ⟨⟨k0, k1, k2, k3⟩, ⟨k4, k5, k6, k7⟩, k8, k9, k10, _⟩ := hV
    first | (go_simp; done) | (go_simp; with_reducible rfl)
  try simp only [Act.put, List.setIfInBounds_toArray, List.set_cons_zero, List.set_cons_succ]
  refine wpAnyH_take (i := 17) (v := ?_) (by simp only [List.getElem?_toArray, List.getElem?_cons_zero, List.getElem?_cons_succ]; rfl) (by as_aux_lemma => kernel_rfl) (by as_aux_lemma => kernel_rfl) (by as_aux_lemma => kernel_rfl) (fun _ _ _ h => h) (Or.inl ⟨by rfl, ?_⟩) (by assumption) ?_
  rotate_left
  · intro V hV
    obtain ⟨⟨k0, k1, k2, k3⟩, ⟨k4, k5, k6, k7⟩, k8, k9, k10, _⟩ := hV
    first | (go_simp; done) | (go_simp; with_reducible rfl)
  try simp only [Act.put, List.setIfInBounds_toArray, List.set_cons_zero, List.set_cons_succ]
  refine wpAnyH_take (i := 18) (v := ?_) (by simp only [List.getElem?_toArray, List.getElem?_cons_zero, List.getElem?_cons_succ]; rfl) (by as_aux_lemma => kernel_rfl) (by as_aux_lemma => kernel_rfl) (by as_aux_lemma => kernel_rfl) (fun _ _ _ h => h) (Or.inl ⟨by rfl, ?_⟩) (by assumption) ?_
  rotate_left
  · intro V hV
    obtain ⟨⟨k0, k1, k2, k3⟩, ⟨k4, k5, k6, k7⟩, k8, k9, k10, _⟩ := hV
    first | (go_simp; done) | (go_simp; with_reducible rfl)
  try simp only [Act.put, List.setIfInBounds_toArray, List.set_cons_zero, List.set_cons_succ]
  refine wpAnyH_take (i := 19) (v := ?_) (by simp only [List.getElem?_toArray, List.getElem?_cons_zero, List.getElem?_cons_succ]; rfl) (by as_aux_lemma => kernel_rfl) (by as_aux_lemma => kernel_rfl) (by as_aux_lemma => kernel_rfl) (fun _ _ _ h => h) (Or.inl ⟨by rfl, ?_⟩) (by assumption) ?_
  rotate_left
  · intro V hV
    obtain ⟨⟨k0, k1, k2, k3⟩, ⟨k4, k5, k6, k7⟩, k8, k9, k10, _⟩ := hV
    first | (go_simp; done) | (go_simp; with_reducible rfl)
  try simp only [Act.put, List.setIfInBounds_toArray, List.set_cons_zero, List.set_cons_succ]
  refine wpAnyH_take (i := 20) (v := ?_) (by simp only [List.getElem?_toArray, List.getElem?_cons_zero, List.getElem?_cons_succ]; rfl) (by as_aux_lemma => kernel_rfl) (by as_aux_lemma => kernel_rfl) (by as_aux_lemma => kernel_rfl) (fun _ _ _ h => h) (Or.inl ⟨by rfl, ?_⟩) (by assumption) ?_
  rotate_left
  · intro V hV
    obtain ⟨⟨k0, k1, k2, k3⟩, ⟨k4, k5, k6, k7⟩, k8, k9, k10, _⟩ := hV
    first | (go_simp; done) | (go_simp; with_reducible rfl)
  try simp only [Act.put, List.setIfInBounds_toArray, List.set_cons_zero, List.set_cons_succ]
  refine wpAnyH_take (i := 21) (v := ?_) (by simp only [List.getElem?_toArray, List.getElem?_cons_zero, List.getElem?_cons_succ]; rfl) (by as_aux_lemma => kernel_rfl) (by as_aux_lemma => kernel_rfl) (by as_aux_lemma => kernel_rfl) (fun _ _ _ h => h) (Or.inl ⟨by rfl, ?_⟩) (by assumption) ?_
  rotate_left
  · intro V hV
    obtain ⟨⟨k0, k1, k2, k3⟩, ⟨k4, k5, k6, k7⟩, k8, k9, k10, _⟩ := hV
    first | (go_simp; done) | (go_simp; with_reducible rfl)
  try simp only [Act.put, List.setIfInBounds_toArray, List.set_cons_zero, List.set_cons_succ]
  refine wpAnyH_take (i := 22) (v := ?_) (by simp only [List.getElem?_toArray, List.getElem?_cons_zero, List.getElem?_cons_succ]; rfl) (by as_aux_lemma => kernel_rfl) (by as_aux_lemma => kernel_rfl) (by as_aux_lemma => kernel_rfl) (fun _ _ _ h => h) (Or.inl ⟨by rfl, ?_⟩) (by assumption) ?_
  rotate_left
  · intro V hV
    obtain ⟨⟨k0, k1, k2, k3⟩, ⟨k4, k5, k6, k7⟩, k8, k9, k10, _⟩ := hV
    first | (go_simp; done) | (go_simp; with_reducible rfl)
  try simp only [Act.put, List.setIfInBounds_toArray, List.set_cons_zero, List.set_cons_succ]
  refine wpAnyH_take (i := 23) (v := ?_) (by simp only [List.getElem?_toArray, List.getElem?_cons_zero, List.getElem?_cons_succ]; rfl) (by as_aux_lemma => kernel_rfl) (by as_aux_lemma => kernel_rfl) (by as_aux_lemma => kernel_rfl) (fun _ _ _ h => h) (Or.inl ⟨by rfl, ?_⟩) (by assumption) ?_
  rotate_left
  · intro V hV
    obtain ⟨⟨k0, k1, k2, k3⟩, ⟨k4, k5, k6, k7⟩, k8, k9, k10, _⟩ := hV
    first | (go_simp; done) | (go_simp; with_reducible rfl)
  try simp only [Act.put, List.setIfInBounds_toArray, List.set_cons_zero, List.set_cons_succ]
  refine wpAnyH_take (i := 24) (v := ?_) (by simp only [List.getElem?_toArray, List.getElem?_cons_zero, List.getElem?_cons_succ]; rfl) (by as_aux_lemma => kernel_rfl) (by as_aux_lemma => kernel_rfl) (by as_aux_lemma => kernel_rfl) (fun _ _ _ h => h) (Or.inl ⟨by rfl, ?_⟩) (by assumption) ?_
  rotate_left
  · intro V hV
    obtain ⟨⟨k0, k1, k2, k3⟩, ⟨k4, k5, k6, k7⟩, k8, k9, k10, _⟩ := hV
    first | (go_simp; done) | (go_simp; with_reducible rfl)
  try simp only [Act.put, List.setIfInBounds_toArray, List.set_cons_zero, List.set_cons_succ]
  refine wpAnyH_take (i := 25) (v := ?_) (by simp only [List.getElem?_toArray, List.getElem?_cons_zero, List.getElem?_cons_succ]; rfl) (by as_aux_lemma => kernel_rfl) (by as_aux_lemma => kernel_rfl) (by as_aux_lemma => kernel_rfl) (fun _ _ _ h => h) (Or.inl ⟨by rfl, ?_⟩) (by assumption) ?_
  rotate_left
  · intro V hV
    obtain ⟨⟨k0, k1, k2, k3⟩, ⟨k4, k5, k6, k7⟩, k8, k9, k10, _⟩ := hV
    first | (go_simp; done) | (go_simp; with_reducible rfl)
  try simp only [Act.put, List.setIfInBounds_toArray, List.set_cons_zero, List.set_cons_succ]
  refine wpAnyH_take (i := 26) (v := ?_) (by simp only [List.getElem?_toArray, List.getElem?_cons_zero, List.getElem?_cons_succ]; rfl) (by as_aux_lemma => kernel_rfl) (by as_aux_lemma => kernel_rfl) (by as_aux_lemma => kernel_rfl) (fun _ _ _ h => h) (Or.inl ⟨by rfl, ?_⟩) (by assumption) ?_
  rotate_left
  · intro V hV
    obtain ⟨⟨k0, k1, k2, k3⟩, ⟨k4, k5, k6, k7⟩, k8, k9, k10, _⟩ := hV
    first | (go_simp; done) | (go_simp; with_reducible rfl)
  try simp only [Act.put, List.setIfInBounds_toArray, List.set_cons_zero, List.set_cons_succ]
  refine wpAnyH_take (i := 27) (v := ?_) (by simp only [List.getElem?_toArray, List.getElem?_cons_zero, List.getElem?_cons_succ]; rfl) (by as_aux_lemma => kernel_rfl) (by as_aux_lemma => kernel_rfl) (by as_aux_lemma => kernel_rfl) (fun _ _ _ h => h) (Or.inl ⟨by rfl, ?_⟩) (by assumption) ?_
  rotate_left
  · intro V hV
    obtain ⟨⟨k0, k1, k2, k3⟩, ⟨k4, k5, k6, k7⟩, k8, k9, k10, _⟩ := hV
    first | (go_simp; done) | (go_simp; with_reducible rfl)
  try simp only [Act.put, List.setIfInBounds_toArray, List.set_cons_zero, List.set_cons_succ]
  refine wpAnyH_take (i := 28) (v := ?_) (by simp only [List.getElem?_toArray, List.getElem?_cons_zero, List.getElem?_cons_succ]; rfl) (by as_aux_lemma => kernel_rfl) (by as_aux_lemma => kernel_rfl) (by as_aux_lemma => kernel_rfl) (fun _ _ _ h => h) (Or.inl ⟨by rfl, ?_⟩) (by assumption) ?_
  rotate_left
  · intro V hV
    obtain ⟨⟨k0, k1, k2, k3⟩, ⟨k4, k5, k6, k7⟩, k8, k9, k10, _⟩ := hV
    first | (go_simp; done) | (go_simp; with_reducible rfl)
  try simp only [Act.put, List.setIfInBounds_toArray, List.set_cons_zero, List.set_cons_succ]
  refine wpAnyH_take (i := 29) (v := ?_) (by simp only [List.getElem?_toArray, List.getElem?_cons_zero, List.getElem?_cons_succ]; rfl) (by as_aux_lemma => kernel_rfl) (by as_aux_lemma => kernel_rfl) (by as_aux_lemma => kernel_rfl) (fun _ _ _ h => h) (Or.inl ⟨by rfl, ?_⟩) (by assumption) ?_
  rotate_left
  · intro V hV
    obtain ⟨⟨k0, k1, k2, k3⟩, ⟨k4, k5, k6, k7⟩, k8, k9, k10, _⟩ := hV
    first | (go_simp; done) | (go_simp; with_reducible rfl)
  try simp only [Act.put, List.setIfInBounds_toArray, List.set_cons_zero, List.set_cons_succ]
  refine wpAnyH_take (i := 30) (v := ?_) (by simp only [List.getElem?_toArray, List.getElem?_cons_zero, List.getElem?_cons_succ]; rfl) (by as_aux_lemma => kernel_rfl) (by as_aux_lemma => kernel_rfl) (by as_aux_lemma => kernel_rfl) (fun _ _ _ h => h) (Or.inl ⟨by rfl, ?_⟩) (by assumption) ?_
  rotate_left
  · intro V hV
    obtain ⟨⟨k0, k1, k2, k3⟩, ⟨k4, k5, k6, k7⟩, k8, k9, k10, _⟩ := hV
    first | (go_simp; done) | (go_simp; with_reducible rfl)
  try simp only [Act.put, List.setIfInBounds_toArray, List.set_cons_zero, List.set_cons_succ]
  refine wpAnyH_take (i := 31) (v := ?_) (by simp only [List.getElem?_toArray, List.getElem?_cons_zero, List.getElem?_cons_succ]; rfl) (by as_aux_lemma => kernel_rfl) (by as_aux_lemma => kernel_rfl) (by as_aux_lemma => kernel_rfl) (fun _ _ _ h => h) (Or.inl ⟨by rfl, ?_⟩) (by assumption) ?_
  rotate_left
  · intro V hV
    obtain ⟨⟨k0, k1, k2, k3⟩, ⟨k4, k5, k6, k7⟩, k8, k9, k10, _⟩ := hV
    first | (go_simp; done) | (go_simp; with_reducible rfl)
  try simp only [Act.put, List.setIfInBounds_toArray, List.set_cons_zero, List.set_cons_succ]
  refine wpAnyH_take (i := 32) (v := ?_) (by simp only [List.getElem?_toArray, List.getElem?_cons_zero, List.getElem?_cons_succ]; rfl) (by as_aux_lemma => kernel_rfl) (by as_aux_lemma => kernel_rfl) (by as_aux_lemma => kernel_rfl) (fun _ _ _ h => h) (Or.inl ⟨by rfl, ?_⟩) (by assumption) ?_
  rotate_left
  · intro V hV
    obtain ⟨⟨k0, k1, k2, k3⟩, ⟨k4, k5, k6, k7⟩, k8, k9, k10, _⟩ := hV
    first | (go_simp; done) | (go_simp; with_reducible rfl)
  try simp only [Act.put, List.setIfInBounds_toArray, List.set_cons_zero, List.set_cons_succ]
  refine wpAnyH_take (i := 33) (v := ?_) (by simp only [List.getElem?_toArray, List.getElem?_cons_zero, List.getElem?_cons_succ]; rfl) (by as_aux_lemma => kernel_rfl) (by as_aux_lemma => kernel_rfl) (by as_aux_lemma => kernel_rfl) (fun _ _ _ h => h) (Or.inl ⟨by rfl, ?_⟩) (by assumption) ?_
  rotate_left
  · intro V hV
    obtain ⟨⟨k0, k1, k2, k3⟩, ⟨k4, k5, k6, k7⟩, k8, k9, k10, _⟩ := hV
    first | (go_simp; done) | (go_simp; with_reducible rfl)
  try simp only [Act.put, List.setIfInBounds_toArray, List.set_cons_zero, List.set_cons_succ]
  refine wpAnyH_take (i := 34) (v := ?_) (by simp only [List.getElem?_toArray, List.getElem?_cons_zero, List.getElem?_cons_succ]; rfl) (by as_aux_lemma => kernel_rfl) (by as_aux_lemma => kernel_rfl) (by as_aux_lemma => kernel_rfl) (fun _ _ _ h => h) (Or.inl ⟨by rfl, ?_⟩) (by assumption) ?_
  rotate_left
  · intro V hV
    obtain ⟨⟨k0, k1, k2, k3⟩, ⟨k4, k5, k6, k7⟩, k8, k9, k10, _⟩ := hV
    first | (go_simp; done) | (go_simp; with_reducible rfl)
  try simp only [Act.put, List.setIfInBounds_toArray, List.set_cons_zero, List.set_cons_succ]
  refine wpAnyH_take (i := 35) (v := ?_) (by simp only [List.getElem?_toArray, List.getElem?_cons_zero, List.getElem?_cons_succ]; rfl) (by as_aux_lemma => kernel_rfl) (by as_aux_lemma => kernel_rfl) (by as_aux_lemma => kernel_rfl) (fun _ _ _ h => h) (Or.inl ⟨by rfl, ?_⟩) (by assumption) ?_
  rotate_left
  · intro V hV
    obtain ⟨⟨k0, k1, k2, k3⟩, ⟨k4, k5, k6, k7⟩, k8, k9, k10, _⟩ := hV
    first | (go_simp; done) | (go_simp; with_reducible rfl)
  try simp only [Act.put, List.setIfInBounds_toArray, List.set_cons_zero, List.set_cons_succ]
  refine wpAnyH_take (i := 36) (v := ?_) (by simp only [List.getElem?_toArray, List.getElem?_cons_zero, List.getElem?_cons_succ]; rfl) (by as_aux_lemma => kernel_rfl) (by as_aux_lemma => kernel_rfl) (by as_aux_lemma => kernel_rfl) (fun _ _ _ h => h) (Or.inl ⟨by rfl, ?_⟩) (by assumption) ?_
  rotate_left
  · intro V hV
    obtain ⟨⟨k0, k1, k2, k3⟩, ⟨k4, k5, k6, k7⟩, k8, k9, k10, _⟩ := hV
    first | (go_simp; done) | (go_simp; with_reducible rfl)
  try simp only [Act.put, List.setIfInBounds_toArray, List.set_cons_zero, List.set_cons_succ]
  refine wpAnyH_take (i := 37) (v := ?_) (by simp only [List.getElem?_toArray, List.getElem?_cons_zero, List.getElem?_cons_succ]; rfl) (by as_aux_lemma => kernel_rfl) (by as_aux_lemma => kernel_rfl) (by as_aux_lemma => kernel_rfl) (fun _ _ _ h => h) (Or.inl ⟨by rfl, ?_⟩) (by assumption) ?_
  rotate_left
  · intro V hV
    obtain ⟨⟨k0, k1, k2, k3⟩, ⟨k4, k5, k6, k7⟩, k8, k9, k10, _⟩ := hV
    first | (go_simp; done) | (go_simp; with_reducible rfl)
  try simp only [Act.put, List.setIfInBounds_toArray, List.set_cons_zero, List.set_cons_succ]
  refine wpAnyH_take (i := 38) (v := ?_) (by simp only [List.getElem?_toArray, List.getElem?_cons_zero, List.getElem?_cons_succ]; rfl) (by as_aux_lemma => kernel_rfl) (by as_aux_lemma => kernel_rfl) (by as_aux_lemma => kernel_rfl) (fun _ _ _ h => h) (Or.inl ⟨by rfl, ?_⟩) (by assumption) ?_
  rotate_left
  · intro V hV
    obtain ⟨⟨k0, k1, k2, k3⟩, ⟨k4, k5, k6, k7⟩, k8, k9, k10, _⟩ := hV
    first | (go_simp; done) | (go_simp; with_reducible rfl)
  try simp only [Act.put, List.setIfInBounds_toArray, List.set_cons_zero, List.set_cons_succ]
  refine wpAnyH_take (i := 39) (v := ?_) (by simp only [List.getElem?_toArray, List.getElem?_cons_zero, List.getElem?_cons_succ]; rfl) (by as_aux_lemma => kernel_rfl) (by as_aux_lemma => kernel_rfl) (by as_aux_lemma => kernel_rfl) (fun _ _ _ h => h) (Or.inl ⟨by rfl, ?_⟩) (by assumption) ?_
  rotate_left
  · intro V hV
    obtain ⟨⟨k0, k1, k2, k3⟩, ⟨k4, k5, k6, k7⟩, k8, k9, k10, _⟩ := hV
    first | (go_simp; done) | (go_simp; with_reducible rfl)
  try simp only [Act.put, List.setIfInBounds_toArray, List.set_cons_zero, List.set_cons_succ]
  refine wpAnyH_take (i := 40) (v := ?_) (by simp only [List.getElem?_toArray, List.getElem?_cons_zero, List.getElem?_cons_succ]; rfl) (by as_aux_lemma => kernel_rfl) (by as_aux_lemma => kernel_rfl) (by as_aux_lemma => kernel_rfl) (fun _ _ _ h => h) (Or.inl ⟨by rfl, ?_⟩) (by assumption) ?_
  rotate_left
  · intro V hV
    obtain ⟨⟨k0, k1, k2, k3⟩, ⟨k4, k5, k6, k7⟩, k8, k9, k10, _⟩ := hV
    first | (go_simp; done) | (go_simp; with_reducible rfl)
  try simp only [Act.put, List.setIfInBounds_toArray, List.set_cons_zero, List.set_cons_succ]
  refine wpAnyH_take (i := 41) (v := ?_) (by simp only [List.getElem?_toArray, List.getElem?_cons_zero, List.getElem?_cons_succ]; rfl) (by as_aux_lemma => kernel_rfl) (by as_aux_lemma => kernel_rfl) (by as_aux_lemma => kernel_rfl) (fun _ _ _ h => h) (Or.inl ⟨by rfl, ?_⟩) (by assumption) ?_
  rotate_left
  · intro V hV
    obtain ⟨⟨k0, k1, k2, k3⟩, ⟨k4, k5, k6, k7⟩, k8, k9, k10, _⟩ := hV
    first | (go_simp; done) | (go_simp; with_reducible rfl)
  try simp only [Act.put, List.setIfInBounds_toArray, List.set_cons_zero, List.set_cons_succ]
  refine wpAnyH_take (i := 42) (v := ?_) (by simp only [List.getElem?_toArray, List.getElem?_cons_zero, List.getElem?_cons_succ]; rfl) (by as_aux_lemma => kernel_rfl) (by as_aux_lemma => kernel_rfl) (by as_aux_lemma => kernel_rfl) (fun _ _ _ h => h) (Or.inl ⟨by rfl, ?_⟩) (by assumption) ?_
  rotate_left
  · intro V hV
    obtain ⟨⟨k0, k1, k2, k3⟩, ⟨k4, k5, k6, k7⟩, k8, k9, k10, _⟩ := hV
    first | (go_simp; done) | (go_simp; with_reducible rfl)
  try simp only [Act.put, List.setIfInBounds_toArray, List.set_cons_zero, List.set_cons_succ]
  refine wpAnyH_take (i := 43) (v := ?_) (by simp only [List.getElem?_toArray, List.getElem?_cons_zero, List.getElem?_cons_succ]; rfl) (by as_aux_lemma => kernel_rfl) (by as_aux_lemma => kernel_rfl) (by as_aux_lemma => kernel_rfl) (fun _ _ _ h => h) (Or.inl ⟨by rfl, ?_⟩) (by assumption) ?_
  rotate_left
  · intro V hV
    obtain ⟨⟨k0, k1, k2, k3⟩, ⟨k4, k5, k6, k7⟩, k8, k9, k10, _⟩ := hV
    first | (go_simp; done) | (go_simp; with_reducible rfl)
  try simp only [Act.put, List.setIfInBounds_toArray, List.set_cons_zero, List.set_cons_succ]
  refine wpAnyH_take (i := 44) (v := ?_) (by simp only [List.getElem?_toArray, List.getElem?_cons_zero, List.getElem?_cons_succ]; rfl) (by as_aux_lemma => kernel_rfl) (by as_aux_lemma => kernel_rfl) (by as_aux_lemma => kernel_rfl) (fun _ _ _ h => h) (Or.inl ⟨by rfl, ?_⟩) (by assumption) ?_
  rotate_left
  · intro V hV
    obtain ⟨⟨k0, k1, k2, k3⟩, ⟨k4, k5, k6, k7⟩, k8, k9, k10, _⟩ := hV
    first | (go_simp; done) | (go_simp; with_reducible rfl)
  try simp only [Act.put, List.setIfInBounds_toArray, List.set_cons_zero, List.set_cons_succ]
  refine wpAnyH_take (i := 45) (v := ?_) (by simp only [List.getElem?_toArray, List.getElem?_cons_zero, List.getElem?_cons_succ]; rfl) (by as_aux_lemma => kernel_rfl) (by as_aux_lemma => kernel_rfl) (by as_aux_lemma => kernel_rfl) (fun _ _ _ h => h) (Or.inl ⟨by rfl, ?_⟩) (by assumption) ?_
  rotate_left
  · intro V hV
    obtain ⟨⟨k0, k1, k2, k3⟩, ⟨k4, k5, k6, k7⟩, k8, k9, k10, _⟩ := hV
    first | (go_simp; done) | (go_simp; with_reducible rfl)
  try simp only [Act.put, List.setIfInBounds_toArray, List.set_cons_zero, List.set_cons_succ]
  refine wpAnyH_take (i := 46) (v := ?_) (by simp only [List.getElem?_toArray, List.getElem?_cons_zero, List.getElem?_cons_succ]; rfl) (by as_aux_lemma => kernel_rfl) (by as_aux_lemma => kernel_rfl) (by as_aux_lemma => kernel_rfl) (fun _ _ _ h => h) (Or.inl ⟨by rfl, ?_⟩) (by assumption) ?_
  rotate_left
  · intro V hV
    obtain ⟨⟨k0, k1, k2, k3⟩, ⟨k4, k5, k6, k7⟩, k8, k9, k10, _⟩ := hV
    first | (go_simp; done) | (go_simp; with_reducible rfl)
  try simp only [Act.put, List.setIfInBounds_toArray, List.set_cons_zero, List.set_cons_succ]
  refine wpAnyH_take (i := 47) (v := ?_) (by simp only [List.getElem?_toArray, List.getElem?_cons_zero, List.getElem?_cons_succ]; rfl) (by as_aux_lemma => kernel_rfl) (by as_aux_lemma => kernel_rfl) (by as_aux_lemma => kernel_rfl) (fun _ _ _ h => h) (Or.inl ⟨by rfl, ?_⟩) (by assumption) ?_
  rotate_left
  · intro V hV
    obtain ⟨⟨k0, k1, k2, k3⟩, ⟨k4, k5, k6, k7⟩, k8, k9, k10, _⟩ := hV
    first | (go_simp; done) | (go_simp; with_reducible rfl)
  try simp only [Act.put, List.setIfInBounds_toArray, List.set_cons_zero, List.set_cons_succ]
  refine wpAnyH_take (i := 48) (v := ?_) (by simp only [List.getElem?_toArray, List.getElem?_cons_zero, List.getElem?_cons_succ]; rfl) (by as_aux_lemma => kernel_rfl) (by as_aux_lemma => kernel_rfl) (by as_aux_lemma => kernel_rfl) (fun _ _ _ h => h) (Or.inl ⟨by rfl, ?_⟩) (by assumption) ?_
  rotate_left
  · intro V hV
    obtain ⟨⟨k0, k1, k2, k3⟩, ⟨k4, k5, k6, k7⟩, k8, k9, k10, _⟩ := hV
    first | (go_simp; done) | (go_simp; with_reducible rfl)
  try simp only [Act.put, List.setIfInBounds_toArray, List.set_cons_zero, List.set_cons_succ]
  refine wpAnyH_take (i := 49) (v := ?_) (by simp only [List.getElem?_toArray, List.getElem?_cons_zero, List.getElem?_cons_succ]; rfl) (by as_aux_lemma => kernel_rfl) (by as_aux_lemma => kernel_rfl) (by as_aux_lemma => kernel_rfl) (fun _ _ _ h => h) (Or.inl ⟨by rfl, ?_⟩) (by assumption) ?_
  rotate_left
  · intro V hV
    obtain ⟨⟨k0, k1, k2, k3⟩, ⟨k4, k5, k6, k7⟩, k8, k9, k10, _⟩ := hV
    first | (go_simp; done) | (go_simp; with_reducible rfl)
  try simp only [Act.put, List.setIfInBounds_toArray, List.set_cons_zero, List.set_cons_succ]
  refine wpAnyH_take (i := 50) (v := ?_) (by simp only [List.getElem?_toArray, List.getElem?_cons_zero, List.getElem?_cons_succ]; rfl) (by as_aux_lemma => kernel_rfl) (by as_aux_lemma => kernel_rfl) (by as_aux_lemma => kernel_rfl) (fun _ _ _ h => h) (Or.inl ⟨by rfl, ?_⟩) (by assumption) ?_
  rotate_left
  · intro V hV
    obtain ⟨⟨k0, k1, k2, k3⟩, ⟨k4, k5, k6, k7⟩, k8, k9, k10, _⟩ := hV
    first | (go_simp; done) | (go_simp; with_reducible rfl)
  try simp only [Act.put, List.setIfInBounds_toArray, List.set_cons_zero, List.set_cons_succ]
  refine wpAnyH_take (i := 51) (v := ?_) (by simp only [List.getElem?_toArray, List.getElem?_cons_zero, List.getElem?_cons_succ]; rfl) (by as_aux_lemma => kernel_rfl) (by as_aux_lemma => kernel_rfl) (by as_aux_lemma => kernel_rfl) (fun _ _ _ h => h) (Or.inl ⟨by rfl, ?_⟩) (by assumption) ?_
  rotate_left
  · intro V hV
    obtain ⟨⟨k0, k1, k2, k3⟩, ⟨k4, k5, k6, k7⟩, k8, k9, k10, _⟩ := hV
    first | (go_simp; done) | (go_simp; with_reducible rfl)
  try simp only [Act.put, List.setIfInBounds_toArray, List.set_cons_zero, List.set_cons_succ]
  refine wpAnyH_take (i := 52) (v := ?_) (by simp only [List.getElem?_toArray, List.getElem?_cons_zero, List.getElem?_cons_succ]; rfl) (by as_aux_lemma => kernel_rfl) (by as_aux_lemma => kernel_rfl) (by as_aux_lemma => kernel_rfl) (fun _ _ _ h => h) (Or.inl ⟨by rfl, ?_⟩) (by assumption) ?_
  rotate_left
  · intro V hV
    obtain ⟨⟨k0, k1, k2, k3⟩, ⟨k4, k5, k6, k7⟩, k8, k9, k10, _⟩ := hV
    first | (go_simp; done) | (go_simp; with_reducible rfl)
  try simp only [Act.put, List.setIfInBounds_toArray, List.set_cons_zero, List.set_cons_succ]
  refine wpAnyH_take (i := 53) (v := ?_) (by simp only [List.getElem?_toArray, List.getElem?_cons_zero, List.getElem?_cons_succ]; rfl) (by as_aux_lemma => kernel_rfl) (by as_aux_lemma => kernel_rfl) (by as_aux_lemma => kernel_rfl) (fun _ _ _ h => h) (Or.inl ⟨by rfl, ?_⟩) (by assumption) ?_
  rotate_left
  · intro V hV
    obtain ⟨⟨k0, k1, k2, k3⟩, ⟨k4, k5, k6, k7⟩, k8, k9, k10, _⟩ := hV
    first | (go_simp; done) | (go_simp; with_reducible rfl)
  try simp only [Act.put, List.setIfInBounds_toArray, List.set_cons_zero, List.set_cons_succ]
  refine wpAnyH_ready (rs := [54]) (by as_aux_lemma => kernel_rfl) (by simp) ?_
  refine AllReadyH.cons (by simp only [List.getElem?_toArray, List.getElem?_cons_zero, List.getElem?_cons_succ]; rfl) (fun K hK => ?_) AllReadyH.nil
  have hOld := hHeld
  go_simp
  go_at_call 47; (with_reducible refine (H2.out _ (by assumption)).mono ?_); rintro e w' ⟨rfl, hbw⟩
  refine hK.out _ _ ?_ (fun hNew => ?_)
  · exact HSK.out _ (by assumption)
  clear hK K hHeld hOld
  have hHeld := hNew
  clear hNew
  try simp only [Act.put, List.setIfInBounds_toArray, List.set_cons_zero, List.set_cons_succ]
  refine wpAnyH_take (i := 55) (v := ?_) (by simp only [List.getElem?_toArray, List.getElem?_cons_zero, List.getElem?_cons_succ]; rfl) (by as_aux_lemma => kernel_rfl) (by as_aux_lemma => kernel_rfl) (by as_aux_lemma => kernel_rfl) (fun _ _ _ h => h) (Or.inl ⟨by rfl, ?_⟩) (by assumption) ?_
  rotate_left
  · intro V hV
    obtain ⟨⟨k0, k1, k2, k3⟩, ⟨k4, k5, k6, k7⟩, k8, k9, k10, _⟩ := hV
    first | (go_simp; done) | (go_simp; with_reducible rfl)
  try simp only [Act.put, List.setIfInBounds_toArray, List.set_cons_zero, List.set_cons_succ]
  refine wpAnyH_take (i := 56) (v := ?_) (by simp only [List.getElem?_toArray, List.getElem?_cons_zero, List.getElem?_cons_succ]; rfl) (by as_aux_lemma => kernel_rfl) (by as_aux_lemma => kernel_rfl) (by as_aux_lemma => kernel_rfl) (fun _ _ _ h => h) (Or.inl ⟨by rfl, ?_⟩) (by assumption) ?_
  rotate_left
  · intro V hV
    obtain ⟨⟨k0, k1, k2, k3⟩, ⟨k4, k5, k6, k7⟩, k8, k9, k10, _⟩ := hV
    first | (go_simp; done) | (go_simp; with_reducible rfl)
  try simp only [Act.put, List.setIfInBounds_toArray, List.set_cons_zero, List.set_cons_succ]
  refine wpAnyH_take (i := 57) (v := ?_) (by simp only [List.getElem?_toArray, List.getElem?_cons_zero, List.getElem?_cons_succ]; rfl) (by as_aux_lemma => kernel_rfl) (by as_aux_lemma => kernel_rfl) (by as_aux_lemma => kernel_rfl) (fun _ _ _ h => h) (Or.inl ⟨by rfl, ?_⟩) (by assumption) ?_
  rotate_left
  · intro V hV
    obtain ⟨⟨k0, k1, k2, k3⟩, ⟨k4, k5, k6, k7⟩, k8, k9, k10, _⟩ := hV
    first | (go_simp; done) | (go_simp; with_reducible rfl)
  try simp only [Act.put, List.setIfInBounds_toArray, List.set_cons_zero, List.set_cons_succ]
  refine wpAnyH_take (i := 58) (v := ?_) (by simp only [List.getElem?_toArray, List.getElem?_cons_zero, List.getElem?_cons_succ]; rfl) (by as_aux_lemma => kernel_rfl) (by as_aux_lemma => kernel_rfl) (by as_aux_lemma => kernel_rfl) (fun _ _ _ h => h) (Or.inl ⟨by rfl, ?_⟩) (by assumption) ?_
  rotate_left
  · intro V hV
    obtain ⟨⟨k0, k1, k2, k3⟩, ⟨k4, k5, k6, k7⟩, k8, k9, k10, _⟩ := hV
    first | (go_simp; done) | (go_simp; with_reducible rfl)
  try simp only [Act.put, List.setIfInBounds_toArray, List.set_cons_zero, List.set_cons_succ]
  refine wpAnyH_take (i := 59) (v := ?_) (by simp only [List.getElem?_toArray, List.getElem?_cons_zero, List.getElem?_cons_succ]; rfl) (by as_aux_lemma => kernel_rfl) (by as_aux_lemma => kernel_rfl) (by as_aux_lemma => kernel_rfl) (fun _ _ _ h => h) (Or.inl ⟨by rfl, ?_⟩) (by assumption) ?_
  rotate_left
  · intro V hV
    obtain ⟨⟨k0, k1, k2, k3⟩, ⟨k4, k5, k6, k7⟩, k8, k9, k10, _⟩ := hV
    first | (go_simp; done) | (go_simp; with_reducible rfl)
  try simp only [Act.put, List.setIfInBounds_toArray, List.set_cons_zero, List.set_cons_succ]
  refine wpAnyH_take (i := 60) (v := ?_) (by simp only [List.getElem?_toArray, List.getElem?_cons_zero, List.getElem?_cons_succ]; rfl) (by as_aux_lemma => kernel_rfl) (by as_aux_lemma => kernel_rfl) (by as_aux_lemma => kernel_rfl) (fun _ _ _ h => h) (Or.inl ⟨by rfl, ?_⟩) (by assumption) ?_
  rotate_left
  · intro V hV
    obtain ⟨⟨k0, k1, k2, k3⟩, ⟨k4, k5, k6, k7⟩, k8, k9, k10, _⟩ := hV
    first | (go_simp; done) | (go_simp; with_reducible rfl)
  try simp only [Act.put, List.setIfInBounds_toArray, List.set_cons_zero, List.set_cons_succ]
  refine wpAnyH_take (i := 61) (v := ?_) (by simp only [List.getElem?_toArray, List.getElem?_cons_zero, List.getElem?_cons_succ]; rfl) (by as_aux_lemma => kernel_rfl) (by as_aux_lemma => kernel_rfl) (by as_aux_lemma => kernel_rfl) (fun _ _ _ h => h) (Or.inl ⟨by rfl, ?_⟩) (by assumption) ?_
  rotate_left
  · intro V hV
    obtain ⟨⟨k0, k1, k2, k3⟩, ⟨k4, k5, k6, k7⟩, k8, k9, k10, _⟩ := hV
    first | (go_simp; done) | (go_simp; with_reducible rfl)
  try simp only [Act.put, List.setIfInBounds_toArray, List.set_cons_zero, List.set_cons_succ]
  refine wpAnyH_take (i := 62) (v := ?_) (by simp only [List.getElem?_toArray, List.getElem?_cons_zero, List.getElem?_cons_succ]; rfl) (by as_aux_lemma => kernel_rfl) (by as_aux_lemma => kernel_rfl) (by as_aux_lemma => kernel_rfl) (fun _ _ _ h => h) (Or.inl ⟨by rfl, ?_⟩) (by assumption) ?_
  rotate_left
  · intro V hV
    obtain ⟨⟨k0, k1, k2, k3⟩, ⟨k4, k5, k6, k7⟩, k8, k9, k10, _⟩ := hV
    first | (go_simp; done) | (go_simp; with_reducible rfl)
  try simp only [Act.put, List.setIfInBounds_toArray, List.set_cons_zero, List.set_cons_succ]
  refine wpAnyH_take (i := 63) (v := ?_) (by simp only [List.getElem?_toArray, List.getElem?_cons_zero, List.getElem?_cons_succ]; rfl) (by as_aux_lemma => kernel_rfl) (by as_aux_lemma => kernel_rfl) (by as_aux_lemma => kernel_rfl) (fun _ _ _ h => h) (Or.inl ⟨by rfl, ?_⟩) (by assumption) ?_
  rotate_left
  · intro V hV
    obtain ⟨⟨k0, k1, k2, k3⟩, ⟨k4, k5, k6, k7⟩, k8, k9, k10, _⟩ := hV
    first | (go_simp; done) | (go_simp; with_reducible rfl)
  try simp only [Act.put, List.setIfInBounds_toArray, List.set_cons_zero, List.set_cons_succ]
  refine wpAnyH_take (i := 64) (v := ?_) (by simp only [List.getElem?_toArray, List.getElem?_cons_zero, List.getElem?_cons_succ]; rfl) (by as_aux_lemma => kernel_rfl) (by as_aux_lemma => kernel_rfl) (by as_aux_lemma => kernel_rfl) (fun _ _ _ h => h) (Or.inl ⟨by rfl, ?_⟩) (by assumption) ?_
  rotate_left
  · intro V hV
    obtain ⟨⟨k0, k1, k2, k3⟩, ⟨k4, k5, k6, k7⟩, k8, k9, k10, _⟩ := hV
    first | (go_simp; done) | (go_simp; with_reducible rfl)
  try simp only [Act.put, List.setIfInBounds_toArray, List.set_cons_zero, List.set_cons_succ]
  refine wpAnyH_take (i := 65) (v := ?_) (by simp only [List.getElem?_toArray, List.getElem?_cons_zero, List.getElem?_cons_succ]; rfl) (by as_aux_lemma => kernel_rfl) (by as_aux_lemma => kernel_rfl) (by as_aux_lemma => kernel_rfl) (fun _ _ _ h => h) (Or.inl ⟨by rfl, ?_⟩) (by assumption) ?_
  rotate_left
  · intro V hV
    obtain ⟨⟨k0, k1, k2, k3⟩, ⟨k4, k5, k6, k7⟩, k8, k9, k10, _⟩ := hV
    first | (go_simp; done) | (go_simp; with_reducible rfl)
  try simp only [Act.put, List.setIfInBounds_toArray, List.set_cons_zero, List.set_cons_succ]
  refine wpAnyH_ready (rs := [66]) (by as_aux_lemma => kernel_rfl) (by simp) ?_
  refine AllReadyH.cons (by simp only [List.getElem?_toArray, List.getElem?_cons_zero, List.getElem?_cons_succ]; rfl) (fun K hK => ?_) AllReadyH.nil
  have hOld := hHeld
  go_simp
  go_at_call 46; (with_reducible refine (H3.out _ (by assumption)).mono ?_); rintro e w' ⟨rfl, hbw⟩
  refine hK.out _ _ ?_ (fun hNew => ?_)
  · exact HSK.out _ (by assumption)
  clear hK K hHeld hOld
  have hHeld := hNew
  clear hNew
  try simp only [Act.put, List.setIfInBounds_toArray, List.set_cons_zero, List.set_cons_succ]
  refine wpAnyH_take (i := 67) (v := ?_) (by simp only [List.getElem?_toArray, List.getElem?_cons_zero, List.getElem?_cons_succ]; rfl) (by as_aux_lemma => kernel_rfl) (by as_aux_lemma => kernel_rfl) (by as_aux_lemma => kernel_rfl) (fun _ _ _ h => h) (Or.inl ⟨by rfl, ?_⟩) (by assumption) ?_
  rotate_left
  · intro V hV
    obtain ⟨⟨k0, k1, k2, k3⟩, ⟨k4, k5, k6, k7⟩, k8, k9, k10, _⟩ := hV
    first | (go_simp; done) | (go_simp; with_reducible rfl)
  try simp only [Act.put, List.setIfInBounds_toArray, List.set_cons_zero, List.set_cons_succ]
  refine wpAnyH_take (i := 68) (v := ?_) (by simp only [List.getElem?_toArray, List.getElem?_cons_zero, List.getElem?_cons_succ]; rfl) (by as_aux_lemma => kernel_rfl) (by as_aux_lemma => kernel_rfl) (by as_aux_lemma => kernel_rfl) (fun _ _ _ h => h) (Or.inl ⟨by rfl, ?_⟩) (by assumption) ?_
  rotate_left
  · intro V hV
    obtain ⟨⟨k0, k1, k2, k3⟩, ⟨k4, k5, k6, k7⟩, k8, k9, k10, _⟩ := hV
    first | (go_simp; done) | (go_simp; with_reducible rfl)
  try simp only [Act.put, List.setIfInBounds_toArray, List.set_cons_zero, List.set_cons_succ]
  refine wpAnyH_take (i := 69) (v := ?_) (by simp only [List.getElem?_toArray, List.getElem?_cons_zero, List.getElem?_cons_succ]; rfl) (by as_aux_lemma => kernel_rfl) (by as_aux_lemma => kernel_rfl) (by as_aux_lemma => kernel_rfl) (fun _ _ _ h => h) (Or.inl ⟨by rfl, ?_⟩) (by assumption) ?_
  rotate_left
  · intro V hV
    obtain ⟨⟨k0, k1, k2, k3⟩, ⟨k4, k5, k6, k7⟩, k8, k9, k10, _⟩ := hV
    first | (go_simp; done) | (go_simp; with_reducible rfl)
  try simp only [Act.put, List.setIfInBounds_toArray, List.set_cons_zero, List.set_cons_succ]
  refine wpAnyH_ready (rs := [70]) (by as_aux_lemma => kernel_rfl) (by simp) ?_
  refine AllReadyH.cons (by simp only [List.getElem?_toArray, List.getElem?_cons_zero, List.getElem?_cons_succ]; rfl) (fun K hK => ?_) AllReadyH.nil
  have hOld := hHeld
  go_simp
  go_at_call 46; (with_reducible refine (H4.out _ (by assumption)).mono ?_); rintro e w' ⟨rfl, hbw⟩
  refine hK.out _ _ ?_ (fun hNew => ?_)
  · exact HSK.out _ (by assumption)
  clear hK K hHeld hOld
  have hHeld := hNew
  clear hNew
  try simp only [Act.put, List.setIfInBounds_toArray, List.set_cons_zero, List.set_cons_succ]
  refine wpAnyH_take (i := 71) (v := ?_) (by simp only [List.getElem?_toArray, List.getElem?_cons_zero, List.getElem?_cons_succ]; rfl) (by as_aux_lemma => kernel_rfl) (by as_aux_lemma => kernel_rfl) (by as_aux_lemma => kernel_rfl) (fun _ _ _ h => h) (Or.inl ⟨by rfl, ?_⟩) (by assumption) ?_
  rotate_left
  · intro V hV
    obtain ⟨⟨k0, k1, k2, k3⟩, ⟨k4, k5, k6, k7⟩, k8, k9, k10, _⟩ := hV
    first | (go_simp; done) | (go_simp; with_reducible rfl)
  try simp only [Act.put, List.setIfInBounds_toArray, List.set_cons_zero, List.set_cons_succ]
  refine wpAnyH_take (i := 72) (v := ?_) (by simp only [List.getElem?_toArray, List.getElem?_cons_zero, List.getElem?_cons_succ]; rfl) (by as_aux_lemma => kernel_rfl) (by as_aux_lemma => kernel_rfl) (by as_aux_lemma => kernel_rfl) (fun _ _ _ h => h) (Or.inl ⟨by rfl, ?_⟩) (by assumption) ?_
  rotate_left
  · intro V hV
    obtain ⟨⟨k0, k1, k2, k3⟩, ⟨k4, k5, k6, k7⟩, k8, k9, k10, _⟩ := hV
    first | (go_simp; done) | (go_simp; with_reducible rfl)
  try simp only [Act.put, List.setIfInBounds_toArray, List.set_cons_zero, List.set_cons_succ]
  refine wpAnyH_take (i := 73) (v := ?_) (by simp only [List.getElem?_toArray, List.getElem?_cons_zero, List.getElem?_cons_succ]; rfl) (by as_aux_lemma => kernel_rfl) (by as_aux_lemma => kernel_rfl) (by as_aux_lemma => kernel_rfl) (fun _ _ _ h => h) (Or.inl ⟨by rfl, ?_⟩) (by assumption) ?_
  rotate_left
  · intro V hV
    obtain ⟨⟨k0, k1, k2, k3⟩, ⟨k4, k5, k6, k7⟩, k8, k9, k10, _⟩ := hV
    first | (go_simp; done) | (go_simp; with_reducible rfl)
  try simp only [Act.put, List.setIfInBounds_toArray, List.set_cons_zero, List.set_cons_succ]
  refine wpAnyH_take (i := 74) (v := ?_) (by simp only [List.getElem?_toArray, List.getElem?_cons_zero, List.getElem?_cons_succ]; rfl) (by as_aux_lemma => kernel_rfl) (by as_aux_lemma => kernel_rfl) (by as_aux_lemma => kernel_rfl) (fun _ _ _ h => h) (Or.inl ⟨by rfl, ?_⟩) (by assumption) ?_
  rotate_left
  · intro V hV
    obtain ⟨⟨k0, k1, k2, k3⟩, ⟨k4, k5, k6, k7⟩, k8, k9, k10, _⟩ := hV
    first | (go_simp; done) | (go_simp; with_reducible rfl)
  try simp only [Act.put, List.setIfInBounds_toArray, List.set_cons_zero, List.set_cons_succ]
  refine wpAnyH_take (i := 76) (v := ?_) (by simp only [List.getElem?_toArray, List.getElem?_cons_zero, List.getElem?_cons_succ]; rfl) (by as_aux_lemma => kernel_rfl) (by as_aux_lemma => kernel_rfl) (by as_aux_lemma => kernel_rfl) (fun _ _ _ h => h) (Or.inl ⟨by rfl, ?_⟩) (by assumption) ?_
  rotate_left
  · intro V hV
    obtain ⟨⟨k0, k1, k2, k3⟩, ⟨k4, k5, k6, k7⟩, k8, k9, k10, _⟩ := hV
    first | (go_simp; done) | (go_simp; with_reducible rfl)
  try simp only [Act.put, List.setIfInBounds_toArray, List.set_cons_zero, List.set_cons_succ]
  refine wpAnyH_ready (rs := [75]) (by as_aux_lemma => kernel_rfl) (by simp) ?_
  refine AllReadyH.cons (by simp only [List.getElem?_toArray, List.getElem?_cons_zero, List.getElem?_cons_succ]; rfl) (fun K hK => ?_) AllReadyH.nil
  have hOld := hHeld
  go_simp
  go_at_call 83; (with_reducible refine (H7.out _ (by assumption)).mono ?_); rintro e w' ⟨⟨oua, oun, ouc, oda, odn, odc, oxa, oxn, oxc, oba, obn, obc⟩, rfl, hou, hbw⟩
  refine hK.out _ _ ?_ (fun hNew => ?_)
  · exact HSK.out _ (by assumption)
  clear hK K hHeld hOld
  have hHeld := hNew
  clear hNew
  try simp only [Act.put, List.setIfInBounds_toArray, List.set_cons_zero, List.set_cons_succ]
  refine wpAnyH_ready (rs := [77]) (by as_aux_lemma => kernel_rfl) (by simp) ?_
  refine AllReadyH.cons (by simp only [List.getElem?_toArray, List.getElem?_cons_zero, List.getElem?_cons_succ]; rfl) (fun K hK => ?_) AllReadyH.nil
  have hOld := hHeld
  go_simp
  go_at_call 82; (with_reducible refine (H8.out _ ⟨oua, oun, ouc, oda, odn, odc, oxa, oxn, oxc, oba, obn, obc⟩ (by assumption) hou).mono ?_); rintro e w' ⟨rfl, hbw⟩
  refine hK.out _ _ ?_ (fun hNew => ?_)
  · exact HSK.out _ (by assumption)
  clear hK K hHeld hOld
  have hHeld := hNew
  clear hNew
  try simp only [Act.put, List.setIfInBounds_toArray, List.set_cons_zero, List.set_cons_succ]
  refine wpAnyH_take (i := 78) (v := ?_) (by simp only [List.getElem?_toArray, List.getElem?_cons_zero, List.getElem?_cons_succ]; rfl) (by as_aux_lemma => kernel_rfl) (by as_aux_lemma => kernel_rfl) (by as_aux_lemma => kernel_rfl) (fun _ _ _ h => h) (Or.inl ⟨by rfl, ?_⟩) (by assumption) ?_
  rotate_left
  · intro V hV
    obtain ⟨⟨k0, k1, k2, k3⟩, ⟨k4, k5, k6, k7⟩, k8, k9, k10, _⟩ := hV
    first | (go_simp; done) | (go_simp; with_reducible rfl)
  try simp only [Act.put, List.setIfInBounds_toArray, List.set_cons_zero, List.set_cons_succ]
  refine wpAnyH_take (i := 79) (v := ?_) (by simp only [List.getElem?_toArray, List.getElem?_cons_zero, List.getElem?_cons_succ]; rfl) (by as_aux_lemma => kernel_rfl) (by as_aux_lemma => kernel_rfl) (by as_aux_lemma => kernel_rfl) (fun _ _ _ h => h) (Or.inl ⟨by rfl, ?_⟩) (by assumption) ?_
  rotate_left
  · intro V hV
    obtain ⟨⟨k0, k1, k2, k3⟩, ⟨k4, k5, k6, k7⟩, k8, k9, k10, _⟩ := hV
    first | (go_simp; done) | (go_simp; with_reducible rfl)
  try simp only [Act.put, List.setIfInBounds_toArray, List.set_cons_zero, List.set_cons_succ]
  refine wpAnyH_take (i := 80) (v := ?_) (by simp only [List.getElem?_toArray, List.getElem?_cons_zero, List.getElem?_cons_succ]; rfl) (by as_aux_lemma => kernel_rfl) (by as_aux_lemma => kernel_rfl) (by as_aux_lemma => kernel_rfl) (fun _ _ _ h => h) (Or.inl ⟨by rfl, ?_⟩) (by assumption) ?_
  rotate_left
  · intro V hV
    obtain ⟨⟨k0, k1, k2, k3⟩, ⟨k4, k5, k6, k7⟩, k8, k9, k10, _⟩ := hV
    first | (go_simp; done) | (go_simp; with_reducible rfl)
  try simp only [Act.put, List.setIfInBounds_toArray, List.set_cons_zero, List.set_cons_succ]
  refine wpAnyH_take (i := 81) (v := ?_) (by simp only [List.getElem?_toArray, List.getElem?_cons_zero, List.getElem?_cons_succ]; rfl) (by as_aux_lemma => kernel_rfl) (by as_aux_lemma => kernel_rfl) (by as_aux_lemma => kernel_rfl) (fun _ _ _ h => h) (Or.inl ⟨by rfl, ?_⟩) (by assumption) ?_
  rotate_left
  · intro V hV
    obtain ⟨⟨k0, k1, k2, k3⟩, ⟨k4, k5, k6, k7⟩, k8, k9, k10, _⟩ := hV
    first | (go_simp; done) | (go_simp; with_reducible rfl)
  try simp only [Act.put, List.setIfInBounds_toArray, List.set_cons_zero, List.set_cons_succ]
  refine wpAnyH_ready (rs := [82]) (by as_aux_lemma => kernel_rfl) (by simp) ?_
  refine AllReadyH.cons (by simp only [List.getElem?_toArray, List.getElem?_cons_zero, List.getElem?_cons_succ]; rfl) (fun K hK => ?_) AllReadyH.nil
  have hOld := hHeld
  go_simp
  go_at_call 82; (with_reducible refine (H6.out _ (by assumption)).mono ?_); rintro e w' ⟨rfl, hbw⟩
  refine hK.out _ _ ?_ (fun hNew => ?_)
  · exact HSK.out _ (by assumption)
  clear hK K hHeld hOld
  have hHeld := hNew
  clear hNew
  try simp only [Act.put, List.setIfInBounds_toArray, List.set_cons_zero, List.set_cons_succ]
  refine wpAnyH_take (i := 83) (v := ?_) (by simp only [List.getElem?_toArray, List.getElem?_cons_zero, List.getElem?_cons_succ]; rfl) (by as_aux_lemma => kernel_rfl) (by as_aux_lemma => kernel_rfl) (by as_aux_lemma => kernel_rfl) (fun _ _ _ h => h) (Or.inl ⟨by rfl, ?_⟩) (by assumption) ?_
  rotate_left
  · intro V hV
    obtain ⟨⟨k0, k1, k2, k3⟩, ⟨k4, k5, k6, k7⟩, k8, k9, k10, _⟩ := hV
    first | (go_simp; done) | (go_simp; with_reducible rfl)
  try simp only [Act.put, List.setIfInBounds_toArray, List.set_cons_zero, List.set_cons_succ]
  refine wpAnyH_take (i := 84) (v := ?_) (by simp only [List.getElem?_toArray, List.getElem?_cons_zero, List.getElem?_cons_succ]; rfl) (by as_aux_lemma => kernel_rfl) (by as_aux_lemma => kernel_rfl) (by as_aux_lemma => kernel_rfl) (fun _ _ _ h => h) (Or.inl ⟨by rfl, ?_⟩) (by assumption) ?_
  rotate_left
  · intro V hV
    obtain ⟨⟨k0, k1, k2, k3⟩, ⟨k4, k5, k6, k7⟩, k8, k9, k10, _⟩ := hV
    first | (go_simp; done) | (go_simp; with_reducible rfl)
  try simp only [Act.put, List.setIfInBounds_toArray, List.set_cons_zero, List.set_cons_succ]
  refine wpAnyH_take (i := 85) (v := ?_) (by simp only [List.getElem?_toArray, List.getElem?_cons_zero, List.getElem?_cons_succ]; rfl) (by as_aux_lemma => kernel_rfl) (by as_aux_lemma => kernel_rfl) (by as_aux_lemma => kernel_rfl) (fun _ _ _ h => h) (Or.inl ⟨by rfl, ?_⟩) (by assumption) ?_
  rotate_left
  · intro V hV
    obtain ⟨⟨k0, k1, k2, k3⟩, ⟨k4, k5, k6, k7⟩, k8, k9, k10, _⟩ := hV
    first | (go_simp; done) | (go_simp; with_reducible rfl)
  try simp only [Act.put, List.setIfInBounds_toArray, List.set_cons_zero, List.set_cons_succ]
  refine wpAnyH_take (i := 86) (v := ?_) (by simp only [List.getElem?_toArray, List.getElem?_cons_zero, List.getElem?_cons_succ]; rfl) (by as_aux_lemma => kernel_rfl) (by as_aux_lemma => kernel_rfl) (by as_aux_lemma => kernel_rfl) (fun _ _ _ h => h) (Or.inl ⟨by rfl, ?_⟩) (by assumption) ?_
  rotate_left
  · intro V hV
    obtain ⟨⟨k0, k1, k2, k3⟩, ⟨k4, k5, k6, k7⟩, k8, k9, k10, _⟩ := hV
    first | (go_simp; done) | (go_simp; with_reducible rfl)
  try simp only [Act.put, List.setIfInBounds_toArray, List.set_cons_zero, List.set_cons_succ]
  refine wpAnyH_ready (rs := [87]) (by as_aux_lemma => kernel_rfl) (by simp) ?_
  refine AllReadyH.cons (by simp only [List.getElem?_toArray, List.getElem?_cons_zero, List.getElem?_cons_succ]; rfl) (fun K hK => ?_) AllReadyH.nil
  have hOld := hHeld
  go_simp
  go_at_call 47; (with_reducible refine (H5.out _ (by assumption)).mono ?_); rintro e w' ⟨rfl, hbw⟩
  refine hK.out _ _ ?_ (fun hNew => ?_)
  · exact HSK.out _ (by assumption)
  clear hK K hHeld hOld
  have hHeld := hNew
  clear hNew
  try simp only [Act.put, List.setIfInBounds_toArray, List.set_cons_zero, List.set_cons_succ]
  refine wpAnyH_take (i := 88) (v := ?_) (by simp only [List.getElem?_toArray, List.getElem?_cons_zero, List.getElem?_cons_succ]; rfl) (by as_aux_lemma => kernel_rfl) (by as_aux_lemma => kernel_rfl) (by as_aux_lemma => kernel_rfl) (fun _ _ _ h => h) (Or.inl ⟨by rfl, ?_⟩) (by assumption) ?_
  rotate_left
  · intro V hV
    obtain ⟨⟨k0, k1, k2, k3⟩, ⟨k4, k5, k6, k7⟩, k8, k9, k10, _⟩ := hV
    first | (go_simp; done) | (go_simp; with_reducible rfl)
  try simp only [Act.put, List.setIfInBounds_toArray, List.set_cons_zero, List.set_cons_succ]
  refine wpAnyH_take (i := 89) (v := ?_) (by simp only [List.getElem?_toArray, List.getElem?_cons_zero, List.getElem?_cons_succ]; rfl) (by as_aux_lemma => kernel_rfl) (by as_aux_lemma => kernel_rfl) (by as_aux_lemma => kernel_rfl) (fun _ _ _ h => h) (Or.inl ⟨by rfl, ?_⟩) (by assumption) ?_
  rotate_left
  · intro V hV
    obtain ⟨⟨k0, k1, k2, k3⟩, ⟨k4, k5, k6, k7⟩, k8, k9, k10, _⟩ := hV
    first | (go_simp; done) | (go_simp; with_reducible rfl)
  try simp only [Act.put, List.setIfInBounds_toArray, List.set_cons_zero, List.set_cons_succ]
  refine wpAnyH_take (i := 90) (v := ?_) (by simp only [List.getElem?_toArray, List.getElem?_cons_zero, List.getElem?_cons_succ]; rfl) (by as_aux_lemma => kernel_rfl) (by as_aux_lemma => kernel_rfl) (by as_aux_lemma => kernel_rfl) (fun _ _ _ h => h) (Or.inl ⟨by rfl, ?_⟩) (by assumption) ?_
  rotate_left
  · intro V hV
    obtain ⟨⟨k0, k1, k2, k3⟩, ⟨k4, k5, k6, k7⟩, k8, k9, k10, _⟩ := hV
    first | (go_simp; done) | (go_simp; with_reducible rfl)
  try simp only [Act.put, List.setIfInBounds_toArray, List.set_cons_zero, List.set_cons_succ]
  refine wpAnyH_done (by as_aux_lemma => kernel_rfl) ?_ _
  refine NoPanic.normal ?_
  go_wp2
  go_ret
  exact ⟨rfl, HFIN.out.trans (hbw.mono HFIN.out.size)⟩

end Go.Proofs.Ytmpmjkbjnklgfaa
