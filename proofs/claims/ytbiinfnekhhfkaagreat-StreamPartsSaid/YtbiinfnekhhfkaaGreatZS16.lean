/- Parts of the proof, one behind the other: E9, E7, EA, EB. No condition but what each theorem states. -/
import Derived.Test.YtbiinfnekhhfkaaGreatZS4
import Derived.Test.YtbiinfnekhhfkaaGreatZS11
import Derived.Test.YtbiinfnekhhfkaaGreatZS13
import Derived.Test.YtbiinfnekhhfkaaGreatZS15

/- Streams (layer 14): the document's Feed; walked. Printed by exp.py. -/






namespace Go.Proofs.YtbiinfnekhhfkaaGreat
open Go.RowKit Go.Sort
set_option linter.unusedVariables false
set_option linter.unusedSimpArgs false

theorem spB_trie {fold : Bool} {wss : List (List Int)} (hr : rightP fold wss = true) {z : Nat} {x : List Int} (hx : (nodesL wss)[z]? = some x) : spB (trieP wss) (z : Int) = x := by
  have hrd : readP (trieP wss) = some (nodesL wss, wss) := readP_iff.2 ⟨right_false hr, rfl, rfl⟩
  have e : spellT (trieP wss) (z : Int) = some x := by
    unfold spellT
    simp only [hrd]
    rw [if_neg (by omega), Int.toNat_natCast, hx]
  unfold spB
  rw [e]
  rfl
theorem deep_feed {fold : Bool} {wss : List (List Int)} (hr : rightP fold wss = true) {z : Nat} {x : List Int} (hx : (nodesL wss)[z]? = some x) (F : List Int) : (deepT (trieP wss) (foldL fold (x ++ F))).1 = (feedZ fold wss z F : Int) := by
  have hrd : readP (trieP wss) = some (nodesL wss, wss) := readP_iff.2 ⟨right_false hr, rfl, rfl⟩
  have e : foldL fold (x ++ F) = x ++ foldL fold F := by
    have := node_fold (right_nodup hr).2 (List.mem_of_getElem? hx)
    conv => rhs; rw [← this]
    simp only [foldL_map, List.map_append]
  unfold deepT
  simp only [hrd]
  rw [e]
  exact nodeI_at (feedZ_at hx F)
theorem nodeL_len {wss : List (List Int)} {k : Nat} (hM : ∀ x ∈ wss, x.length ≤ k) {x : List Int} (hx : x ∈ nodesL wss) : x.length ≤ k := by
  rcases (mem_nodesL wss).1 hx with rfl | ⟨w, hw, n, _, hn, rfl⟩
  · simp
  · rw [List.length_take]
    have := hM w hw
    omega

set_option maxRecDepth 100000 in
set_option maxHeartbeats 4000000 in
theorem rfeed14_no (fold : Bool) (a : Option Addr) (la ca : Nat) (z at_ : Int) (b : Option Addr) (n cn : Nat) (css wss : List (List Int)) (w : World) (hA : Wds w a la wss) (hC : Wds w b n css) (hla : la ≤ 1000000) (hM : ∀ x ∈ wss, x.length ≤ 1000000) (hn : n ≤ 1000000) (hT : css.flatten.length ≤ 1000000)
    (hno : (rightP fold wss && fdOK wss z at_ css.flatten) = false) :
    Calls Tryz.prog 56 #[.agg (setV fold a la ca), scV z at_, .slice b n cn] w fun e w' => e = .returned (.tuple #[scV z at_, .slice none 0 0, .int .i64 2]) ∧ Below w.heap.size w w' := by
  obtain ⟨W, hW⟩ : ∃ W, W = ((w.alloc (.cells (setV fold a la ca) 24)).alloc (.cells #[.int .i64 z, .int .i64 at_] 88)).alloc (.cells #[.int .i64 0, .int .i64 0] 88) := ⟨_, rfl⟩
  have hB : Below w.heap.size w W := by rw [hW]; exact (((Below.refl _ _).alloc (Nat.le_refl _) _).alloc (by simp) _).alloc (by simp; omega) _
  have hO : Bx w.heap.size [.cells (setV fold a la ca) 24, .cells #[.int .i64 z, .int .i64 at_] 88, .cells #[.int .i64 0, .int .i64 0] 88] W := by rw [hW]; exact (((Bx.nil _ w).snoc _ rfl).snoc _ (by simp)).snoc _ (by simp)
  have hlW : w.heap.size + 1 + 1 < W.heap.size := by rw [hW]; simp
  have HO : Hid (∀ V, RowKit.Below W.heap.size W V → V.cell? ⟨w.heap.size, 0, none⟩ = some (.bool fold) ∧ V.cell? ⟨w.heap.size, 1, none⟩ = some (.slice a la ca) ∧ V.cell? ⟨w.heap.size + 1, 0, none⟩ = some (.int .i64 z) ∧ V.cell? ⟨w.heap.size + 1, 1, none⟩ = some (.int .i64 at_) ∧
      V.heap[w.heap.size + 1 + 1]? = some (.cells #[.int .i64 0, .int .i64 0] 88 (0, 0)) ∧ w.heap.size + 1 + 1 < V.heap.size) := fun V hV => by
    have h := hO.below hV
    exact ⟨h.cell (i := 0) rfl rfl, h.cell (i := 0) rfl rfl, h.cell (i := 1) rfl rfl, h.cell (i := 1) rfl rfl, h 2 _ rfl, Nat.lt_of_lt_of_le hlW hV.size⟩
  have HJ := Lib.hid (join03_any b n cn css W (hC.below hB) hn (by omega))
  have HR := Lib.hid (fun V (hV : RowKit.Below W.heap.size W V) => rright14_any fold a la ca z at_ wss V ((hA.below hB).below hV) hla hM)
  obtain ⟨T, hTe⟩ : ∃ T, css.flatten.length = T := ⟨_, rfl⟩
  rw [hTe] at HJ hT
  obtain ⟨RR, hRR⟩ : ∃ R, (rightP fold wss && scanR (nodesL wss).length z at_) = R := ⟨_, rfl⟩
  rw [hRR] at HR
  have HCS : Hid (RR = false ∨ (RR = true ∧ (0 ≤ at_ ∧ at_ ≤ 4611686020574871551) ∧ ¬ at_ + (T : Int) ≤ 4611686020574871551)) := by
    cases hR2 : RR with
    | false => exact .inl rfl
    | true =>
      rw [hR2, Bool.and_eq_true] at hRR
      unfold fdOK at hno
      rw [hRR.1, hRR.2, hTe, Bool.true_and, Bool.true_and] at hno
      have h := of_decide_eq_true hRR.2
      exact .inr ⟨rfl, h.2, of_decide_eq_false hno⟩
  have HB := Lib.hid hB
  clear hA hC hB hO hTe hRR hno
  obtain ⟨q0, q1, q2, q3, q4, q5⟩ := HO.out W (Below.refl _ _)
  have HFN : Hid (∀ V, RowKit.Below W.heap.size W V → ((V.setCell ⟨w.heap.size + 1 + 1, 0, none⟩ (.int .i64 z)).setCell ⟨w.heap.size + 1 + 1, 1, none⟩ (.int .i64 at_)).heap[w.heap.size + 1 + 1]? = some (.cells #[.int .i64 z, .int .i64 at_] 88 (0, 0)) ∧
      RowKit.Below w.heap.size w ((V.setCell ⟨w.heap.size + 1 + 1, 0, none⟩ (.int .i64 z)).setCell ⟨w.heap.size + 1 + 1, 1, none⟩ (.int .i64 at_)) ∧ V.cell? ⟨w.heap.size + 1 + 1, 0, none⟩ = some (.int .i64 0) ∧ V.cell? ⟨w.heap.size + 1 + 1, 1, none⟩ = some (.int .i64 0) ∧ V.frozen? ⟨w.heap.size + 1 + 1, 0, none⟩ = false ∧ V.frozen? ⟨w.heap.size + 1 + 1, 1, none⟩ = false) := fun V hV => by
    obtain ⟨_, _, _, _, h, _⟩ := HO.out V hV
    have h2 := set_at (i := 1) (set_at (i := 0) h (.int .i64 z)) (.int .i64 at_)
    exact ⟨by simpa using h2, ((HB.out.trans (hV.mono HB.out.size)).setCell (by show w.heap.size ≤ w.heap.size + 1 + 1; omega) _).setCell (by show w.heap.size ≤ w.heap.size + 1 + 1; omega) _, by simp [World.cell?, h], by simp [World.cell?, h], by simp [World.frozen?, h], by simp [World.frozen?, h]⟩
  go_enter Tryz.func56, Tryz.ntmps56
  go_upto_region 1 with fail
  rw [← hW]
  clear hW
  go_upto_region 2 with (go_at_call 64; refine HJ.out.mono ?_; rintro e w1 ⟨aF, cF, rfl, hcF, hF, hb1⟩)
  clear q0 q1 q2 q3 q4 q5 HJ
  obtain ⟨q0, q1, q2, q3, q4, q5⟩ := HO.out w1 hb1
  have H2 := Lib.hid (HR.out w1 hb1)
  clear HR
  rcases HCS.out with rfl | ⟨rfl, hat, hov⟩
  · go_upto_region 3 with (go_at_call 58; refine H2.out.mono ?_; rintro e w2 ⟨rfl, hb2⟩)
    have hb3 := hb1.trans (hb2.mono hb1.size)
    clear q0 q1 q2 q3 q4 q5
    obtain ⟨q0, q1, q2, q3, q4, q5⟩ := HO.out w2 hb3
    obtain ⟨f0, f1, f2, f3, f4, f5⟩ := HFN.out w2 hb3
    have HF0 := Lib.hid f0
    have HF1 := Lib.hid f1
    clear f0 f1 q4
    go_wp2
    refine bodyPost_ret (results_scan3 rfl rfl HF0.out) rfl ?_
    exact ⟨rfl, HF1.out⟩
  · have d2 : decide (4611686020574871551 - at_ < (T : Int)) = true := by simp; omega
    go_upto_region 3 with (go_at_call 58; refine H2.out.mono ?_; rintro e w2 ⟨rfl, hb2⟩; have hb3 := hb1.trans (hb2.mono hb1.size); obtain ⟨_, _, _, q6, _, _⟩ := HO.out w2 hb3)
    clear q0 q1 q2 q3 q4 q5 q6
    obtain ⟨q0, q1, q2, q3, q4, q5⟩ := HO.out w2 hb3
    obtain ⟨f0, f1, f2, f3, f4, f5⟩ := HFN.out w2 hb3
    have HF0 := Lib.hid f0
    have HF1 := Lib.hid f1
    clear f0 f1 q4
    go_wp2
    refine bodyPost_ret (results_scan3 rfl rfl HF0.out) rfl ?_
    exact ⟨rfl, HF1.out⟩

theorem occ_bd14 {fold : Bool} {wss : List (List Int)} {text : List Int} : ∀ h ∈ occD fold wss 0 text, (0 ≤ h.1 ∧ h.1 ≤ (text.length : Int)) ∧ 0 ≤ h.2 ∧ h.2 < (wss.length : Int) := by
  intro h hh
  obtain ⟨p, k, h1, h2, _, rfl⟩ := mem_occTo.1 hh
  dsimp only
  omega

/-- What the document takes of all hits. -/
def keepH (k : Int) (at_ : Int) (l : List HitP) : List HitP := (l.filter (fun h => decide (k < h.1))).map fun h => (h.1 - k + at_, h.2)
theorem keepH_step {k at_ : Int} {l : List HitP} {i : Nat} {h : HitP} (hh : l[i]? = some h) : keepH k at_ (l.take (i + 1)) = keepH k at_ (l.take i) ++ (if k < h.1 then [(h.1 - k + at_, h.2)] else []) := by
  unfold keepH
  rw [take_step hh, List.filter_append, List.map_append]
  congr 1
  by_cases hc : k < h.1
  · simp [hc]
  · simp [hc]
theorem keepH_len (k at_ : Int) (l : List HitP) : (keepH k at_ l).length ≤ l.length := by
  unfold keepH
  rw [List.length_map]
  exact List.length_filter_le _ _

set_option maxRecDepth 100000 in
set_option maxHeartbeats 16000000 in
theorem rfeed14_yes (fold : Bool) (a : Option Addr) (la ca : Nat) (z : Nat) (at_ : Int) (b : Option Addr) (n cn : Nat) (css wss : List (List Int)) (w : World) (hA : Wds w a la wss) (hC : Wds w b n css) (hla : la ≤ 1000) (hM : ∀ x ∈ wss, x.length ≤ 1000000) (hn : n ≤ 1000000) (hT : css.flatten.length ≤ 900000)
    (hr : rightP fold wss = true) (hz : z < (nodesL wss).length) (hat : 0 ≤ at_) (hle : at_ + css.flatten.length ≤ 4611686020574871551) :
    Calls Tryz.prog 56 #[.agg (setV fold a la ca), scV (z : Int) at_, .slice b n cn] w fun e w' => ∃ v, e = .returned (.tuple #[scV (feedZ fold wss z css.flatten : Nat) (at_ + css.flatten.length), v, .int .i64 0]) ∧ OwnH w' w.heap.size v (scanH fold wss z at_ css.flatten) ∧ Below w.heap.size w w' := by
  obtain ⟨i0, hi, hz0, hz1, hz2⟩ := info_parts hit_info
  obtain ⟨iU, hj, hy0, hy1, hy2⟩ := info_parts u8_info
  obtain ⟨x, hx⟩ : ∃ x, (nodesL wss)[z]? = some x := ⟨_, List.getElem?_eq_getElem hz⟩
  obtain ⟨hnd, hfo⟩ := right_nodup hr
  have h0 : ∀ y ∈ wss, y.length ≠ 0 := fun y hy => ((right_spec hr).2.2.1 y hy).1
  have hx32 : x.length ≤ 32 := nodeL_len (fun y hy => ((right_spec hr).2.2.1 y hy).2) (List.mem_of_getElem? hx)
  have hn4 : (nodesL wss).length ≤ 400 := read_n (readP_iff.2 ⟨right_false hr, rfl, rfl⟩)
  have hsB := spB_trie hr hx
  have hdf := deep_feed hr hx css.flatten
  have hsd := scan_doc (fold := fold) hnd h0 hfo hx at_ css.flatten
  have hla80 : wss.length ≤ 64 := (right_spec hr).1
  have hWl := hA.len
  obtain ⟨W, hW⟩ : ∃ W, W = ((w.alloc (.cells (setV fold a la ca) 24)).alloc (.cells #[.int .i64 (z : Int), .int .i64 at_] 88)).alloc (.cells #[.int .i64 0, .int .i64 0] 88) := ⟨_, rfl⟩
  have hB : Below w.heap.size w W := by rw [hW]; exact (((Below.refl _ _).alloc (Nat.le_refl _) _).alloc (by simp) _).alloc (by simp; omega) _
  have hO : Bx w.heap.size [.cells (setV fold a la ca) 24, .cells #[.int .i64 (z : Int), .int .i64 at_] 88, .cells #[.int .i64 0, .int .i64 0] 88] W := by rw [hW]; exact (((Bx.nil _ w).snoc _ rfl).snoc _ (by simp)).snoc _ (by simp)
  have hlW : w.heap.size + 1 + 1 < W.heap.size := by rw [hW]; simp
  have HO : Hid (∀ V, RowKit.Below W.heap.size W V → V.cell? ⟨w.heap.size, 0, none⟩ = some (.bool fold) ∧ V.cell? ⟨w.heap.size, 1, none⟩ = some (.slice a la ca) ∧ V.cell? ⟨w.heap.size + 1, 0, none⟩ = some (.int .i64 (z : Int)) ∧ V.cell? ⟨w.heap.size + 1, 1, none⟩ = some (.int .i64 at_) ∧
      V.heap[w.heap.size + 1 + 1]? = some (.cells #[.int .i64 0, .int .i64 0] 88 (0, 0)) ∧ w.heap.size + 1 + 1 < V.heap.size) := fun V hV => by
    have h := hO.below hV
    exact ⟨h.cell (i := 0) rfl rfl, h.cell (i := 0) rfl rfl, h.cell (i := 1) rfl rfl, h.cell (i := 1) rfl rfl, h 2 _ rfl, Nat.lt_of_lt_of_le hlW hV.size⟩
  have HJ := Lib.hid (join03_any b n cn css W (hC.below hB) hn (by omega))
  have hsR : scanR (nodesL wss).length (z : Int) at_ = true := by unfold scanR; simp; omega
  have HR := Lib.hid (fun V (hV : RowKit.Below W.heap.size W V) => rright14_any fold a la ca (z : Int) at_ wss V ((hA.below hB).below hV) (by omega) hM)
  rw [hr, hsR] at HR
  have HMK := Lib.hid (fun V (hV : RowKit.Below W.heap.size W V) => rmake7_yes fold a la ca wss V ((hA.below hB).below hV) hr)
  have HSP := Lib.hid (fun (t : TV) V (hT : Tri V t (trieP wss)) => rspell_uni t (trieP wss) (z : Int) V hT (bd4_trie hT hn4))
  rw [hsB] at HSP
  have HOC := Lib.hid (fun V (hV : RowKit.Below W.heap.size W V) (b : Option Addr) (lb cb : Nat) (text : List Int) (hL : Bys V b lb text) (hlb : lb ≤ 1000000) (hcb : lb ≤ cb) => rocc_yes fold a b la ca lb cb 0 text wss V ((hA.below hB).below hV) hL (by omega) hlb hcb hM (by unfold mayP; rw [hr]; decide))
  have HFO := Lib.hid (fun V (b : Option Addr) (lb cb : Nat) (text : List Int) (hL : Bys V b lb text) (hlb : lb ≤ 1000000) => text11_any fold b lb cb text V hL hlb)
  have HDP := Lib.hid (fun (t : TV) V (hT : Tri V t (trieP wss)) (b : Option Addr) (lb cb : Nat) (text : List Int) (hL : Bys V b lb text) (hlb : lb ≤ 1000000) (hcb : lb ≤ cb) => rdeep8_any t (trieP wss) b lb cb text V hT (bd4_trie hT hn4) hL hlb hcb)
  obtain ⟨F, hFe⟩ : ∃ F, css.flatten = F := ⟨_, rfl⟩
  rw [hFe] at HJ hT hle hdf hsd
  have hOl : (occD fold wss 0 (x ++ F)).length ≤ 1000033 * 64 := by
    have h1 := occTo_le fold wss 0 (x ++ F) ((x ++ F).length + 1)
    have h2 : (occD fold wss 0 (x ++ F)).length ≤ ((x ++ F).length + 1) * wss.length := h1
    have h3 : ((x ++ F).length + 1) * wss.length ≤ 1000033 * 64 := Nat.mul_le_mul (by rw [List.length_append]; omega) hla80
    omega
  have HOCI : Hid (∀ h ∈ occD fold wss 0 (x ++ F), (0 ≤ h.1 ∧ h.1 ≤ 2000000) ∧ 0 ≤ h.2 ∧ h.2 ≤ 1000000) := fun h hh => by
    have h1 := occ_bd14 h hh
    rw [List.length_append] at h1
    omega
  obtain ⟨hh, hhe⟩ : ∃ hh, scanH fold wss z at_ F = hh := ⟨_, rfl⟩
  obtain ⟨zf, hzf⟩ : ∃ zf : Nat, feedZ fold wss z F = zf := ⟨_, rfl⟩
  rw [hzf] at hdf
  rw [hhe] at hsd
  have HFE := Lib.hid hFe
  have HHE := Lib.hid hhe
  have HZF := Lib.hid hzf
  have HDF := Lib.hid hdf
  have HSD : Hid (hh = keepH (x.length : Int) at_ (occD fold wss 0 (x ++ F))) := hsd
  have HB := Lib.hid hB
  clear hA hC hB hO hr hnd hfo h0 hsB hsR hFe hhe hzf hdf hsd hx
  obtain ⟨q0, q1, q2, q3, q4, q5⟩ := HO.out W (Below.refl _ _)
  go_enter Tryz.func56, Tryz.ntmps56
  go_upto_region 1 with fail
  rw [← hW]
  clear hW
  go_upto_region 2 with (go_at_call 64; refine HJ.out.mono ?_; rintro e w1 ⟨aF, cF, rfl, hcF, hF, hb1⟩)
  clear q0 q1 q2 q3 q4 q5 HJ
  have hFl := hF.len
  obtain ⟨T, hTe⟩ : ∃ T, F.length = T := ⟨_, rfl⟩
  rw [hTe] at hF hT hle hcF ⊢
  have HTE := Lib.hid hTe
  have HF := Lib.hid hF
  clear hF hFl hTe
  obtain ⟨q0, q1, q2, q3, q4, q5⟩ := HO.out w1 hb1
  have H2 := Lib.hid (HR.out w1 hb1)
  have d2 : decide (4611686020574871551 - at_ < (T : Int)) = false := by simp; omega
  clear HR
  go_upto_region 4 with (go_at_call 58; refine H2.out.mono ?_; rintro e w2 ⟨rfl, hb2⟩; have hb3 := hb1.trans (hb2.mono hb1.size); obtain ⟨_, _, _, q6, _, _⟩ := HO.out w2 hb3)
  have hF2 := HF.out.below hb2
  clear q0 q1 q2 q3 q4 q5 q6 H2 HF
  obtain ⟨q0, q1, q2, q3, q4, q5⟩ := HO.out w2 hb3
  have H4 := Lib.hid (HMK.out w2 hb3)
  clear HMK
  go_upto_region 5 with (go_at_call 19; refine H4.out.mono ?_; rintro e w4 ⟨t, rfl, hTr, hb4⟩; obtain ⟨ua, un, uc, da, dn, dc, xa, xn, xc, ba, bn, bc⟩ := t; simp only [TV.cells])
  obtain ⟨W5, hW5⟩ : ∃ X, X = w4.alloc (.cells #[.slice ua un uc, .slice da dn dc, .slice xa xn xc, .slice ba bn bc] 34) := ⟨_, rfl⟩
  have hb45 : RowKit.Below w4.heap.size w4 W5 := by rw [hW5]; exact below_alloc _ _
  have hO5 : W5.heap[w4.heap.size]? = some (.cells #[.slice ua un uc, .slice da dn dc, .slice xa xn xc, .slice ba bn bc] 34 (0, 0)) := by rw [hW5]; exact World.alloc_heap_new _ _
  rw [← hW5]
  clear hW5 q0 q1 q2 q3 q4 q5 H4
  have hT5 := hTr.below hb45
  have hb25 := hb4.trans (hb45.mono hb4.size)
  have hbW5 := hb3.trans (hb25.mono hb3.size)
  have hF5 := hF2.below hb25
  obtain ⟨Q, hQ⟩ : ∃ Q, w4.heap.size = Q := ⟨_, rfl⟩
  rw [hQ] at hO5 ⊢
  obtain ⟨q0, q1, q2, q3, q4, q5⟩ := HO.out W5 hbW5
  have e0 : W5.cell? ⟨Q, 0, none⟩ = some (.slice ua un uc) := by simp [World.cell?, hO5]
  have e1 : W5.cell? ⟨Q, 1, none⟩ = some (.slice da dn dc) := by simp [World.cell?, hO5]
  have e2 : W5.cell? ⟨Q, 2, none⟩ = some (.slice xa xn xc) := by simp [World.cell?, hO5]
  have e3 : W5.cell? ⟨Q, 3, none⟩ = some (.slice ba bn bc) := by simp [World.cell?, hO5]
  have H5 := Lib.hid (HSP.out _ W5 hT5)
  clear HSP hQ hTr hb4 hb45 hb25 hF2 hb1 hb2 hb3
  go_upto_region 6 with (go_at_call 95; refine H5.out.mono ?_; rintro e w6 ⟨a6, n6, c6, rfl, hx6, hb6⟩)
  have hx6l := hx6.len
  obtain rfl : x.length = n6 := hx6l
  obtain ⟨k, hk⟩ : ∃ k, x.length = k := ⟨_, rfl⟩
  rw [hk] at hx6 hx32 ⊢
  have hbt : ∀ y ∈ x ++ F, 0 ≤ y ∧ y ≤ 255 := fun y hy => by
    rcases List.mem_append.1 hy with h | h
    · exact hx6.2 y h
    · exact hF5.2 y h
  have HBT := Lib.hid hbt
  have hF6 := hF5.below hb6
  have hx6' := hx6.below (below_alloc w6 (.cells #[] 5))
  have hown0 : OwnB (w6.alloc (.cells #[] 5)) w6.heap.size (.slice (some ⟨w6.heap.size, 0, none⟩) 0 0) 0 [] := World.ownsRow_lit w6 #[] 0 (Nat.le_refl _) (Nat.zero_le _) rfl
  have HF6 := Lib.hid hF6
  clear hbt hF5 hF6 hx6 H5 e0 e1 e2 e3 q0 q1 q2 q3 q4 q5
  go_upto_region 7 with (first
    | (at_builtin; refine wpList_append_sl1 rfl _ _ 25 rfl u8_one w6.heap.size 5 iU (.int .u8 0) 1 Tryz.underlying25 hj hy0 hy1 hy2 rfl _ 0 [] rfl hown0 a6 k c6 x rfl hx6'.1 (by unfold maxLen; omega) (by omega) (by simp) ?_; intro v1 w7 hown1 hgrow1 hat1
       have hB7 : RowKit.Below w6.heap.size w6 w7 := (below_alloc w6 (.cells #[] 5)).grown hgrow1 (by simp) (fun k e => by cases e; exact Nat.le_refl _)
       have hF7 : Bys w7 aF T F := HF6.out.below hB7
       rw [Nat.zero_add, List.nil_append] at hown1)
    | (at_builtin; refine wpList_append_sl1 rfl _ _ 25 rfl u8_one w6.heap.size 5 iU (.int .u8 0) 1 Tryz.underlying25 hj hy0 hy1 hy2 rfl _ k _ rfl hown1 aF T cF F rfl hF7.1 (by unfold maxLen; omega) (by omega) hB7.size ?_; intro v2 w8 hown2 hgrow2 hat2))
  have hB8 : RowKit.Below w6.heap.size w6 w8 := hB7.grown hgrow2 hB7.size (fun j hj => (hown1.lt j hj).1)
  have hX8 : OwnB w8 w6.heap.size v2 (k + T) (x ++ F) := by
    unfold OwnB
    rw [List.map_append]
    exact hown2
  obtain ⟨a8, c8, rfl, hc8, hs8⟩ := own_bys hX8 HBT.out
  have hb58 := hb6.trans (hB8.mono hb6.size)
  have hbW8 := hbW5.trans (hb58.mono hbW5.size)
  have hT8 := hT5.below hb58
  have hO8 := (hb58.block Q (Array.getElem?_eq_some_iff.1 hO5).1).trans hO5
  have HS8 := Lib.hid hs8
  clear hown1 hown2 hX8 hgrow1 hgrow2 hat1 hat2 hB7 hF7 hown0 hx6' HF6 hB8 hb58 hT5 hO5 hb6 hs8
  obtain ⟨q0, q1, q2, q3, q4, q5⟩ := HO.out w8 hbW8
  have H8 := Lib.hid (HOC.out w8 hbW8 a8 (k + T) c8 (x ++ F) HS8.out (by omega) hc8)
  obtain ⟨OL, hOL⟩ : ∃ O, occD fold wss 0 (x ++ F) = O := ⟨_, rfl⟩
  rw [hOL] at H8 HOCI hOl HSD
  have HOL := Lib.hid hOL
  clear HOC hOL
  go_upto_region 8 with (go_at_call 50; refine H8.out.mono ?_; rintro e w9 ⟨v9, rfl, hown9, hb9⟩; obtain ⟨a9, c9, rfl, hc9, hs9⟩ := hown9.hts (fun h hh => by have h1 := HOCI.out h hh; unfold I64; omega))
  obtain ⟨nO, hnO⟩ : ∃ n, OL.length = n := ⟨_, rfl⟩
  rw [hnO] at hs9 hOl ⊢
  have HNO := Lib.hid hnO
  have hbW9 := hbW8.trans (hb9.mono hbW8.size)
  have hT9 := hT8.below hb9
  have hO9 := (hb9.block Q (Array.getElem?_eq_some_iff.1 hO8).1).trans hO8
  have hX9 := HS8.out.below hb9
  have HX9 := Lib.hid hX9
  have HS9 := Lib.hid hs9
  have HT9 := Lib.hid hT9
  have HO9 := Lib.hid hO9
  have HW9 := Lib.hid hbW9
  rw [hk] at HSD
  clear q0 q1 q2 q3 q4 q5 H8 HS8 hown9 hnO hT8 hO8 hT9 hO9 hX9 hs9 hbW8 hbW9 hb9 hbW5
  go_upto_region 10 with fail
  go_loopw [17, 18] (fun v s18 wr => ∃ i : Nat, i ≤ nO ∧ s18 = .int .i64 (i : Int) ∧ Hid (RowKit.Below w9.heap.size w9 wr) ∧ OwnH wr w9.heap.size v (keepH (k : Int) at_ (OL.take i))) (fun _ s _ => nO - (intOf s).toNat)
  case atStart => exact ⟨0, Nat.zero_le _, rfl, Below.refl _ _, World.ownsRow_nil _ _ _ _⟩
  case round =>
    obtain ⟨i, hi', rfl, HBr, hown⟩ := hrel
    by_cases hin : i < nO
    · have hd : decide ((i : Int) < (nO : Int)) = true := by simp; omega
      obtain ⟨bh, oh, hit, e4, hbh, k0, k1, hhit, hb0', hb1'⟩ := HS9.out.at_ hin
      subst e4
      obtain ⟨⟨p0, p1⟩, p2, p3⟩ := HOCI.out hit (List.mem_of_getElem? hhit)
      have KC : Hid (∀ V, RowKit.Below w9.heap.size w9 V → V.cell? ⟨bh, oh + i * 2, none⟩ = some (.int .i64 hit.1) ∧ V.cell? ⟨bh, oh + i * 2 + 1, none⟩ = some (.int .i64 hit.2) ∧ V.cell? ⟨w.heap.size + 1, 1, none⟩ = some (.int .i64 at_)) := fun V hV =>
        ⟨(hV.cell (p := ⟨bh, oh + i * 2, none⟩) hbh).trans k0, (hV.cell (p := ⟨bh, oh + i * 2 + 1, none⟩) hbh).trans k1, (HO.out V (HW9.out.trans (hV.mono HW9.out.size))).2.2.2.1⟩
      have i1 : (0 : Int) ≤ (i : Int) := by omega
      have i2 : (i : Int) < (nO : Int) := by omega
      have HSTEP := Lib.hid (keepH_step (k := (k : Int)) (at_ := at_) hhit)
      have hkl := keepH_len (k : Int) at_ (OL.take i)
      rw [List.length_take] at hkl
      obtain ⟨m, hm⟩ : ∃ m, (keepH (k : Int) at_ (OL.take i)).length = m := ⟨_, rfl⟩
      rw [hm] at hkl
      have hml : m ≤ 1000033 * 64 := by omega
      unfold OwnH at hown
      rw [hm] at hown
      have HMM := Lib.hid hm
      have hbs : w9.heap.size ≤ wr.heap.size := HBr.out.size
      obtain ⟨q0, q1, q2⟩ := KC.out wr HBr.out
      clear hhit k0 k1 hkl hm
      by_cases hc : (k : Int) < hit.1
      · have d3 : decide ((k : Int) < hit.1) = true := by simpa using hc
        have HST : Hid (keepH (k : Int) at_ (OL.take (i + 1)) = keepH (k : Int) at_ (OL.take i) ++ [(hit.1 - (k : Int) + at_, hit.2)]) := by rw [Hid, HSTEP.out, if_pos hc]
        clear HSTEP hc
        have wr1 : IntKind.i64.wrap (hit.1 - (k : Int)) = hit.1 - (k : Int) := by rw [IntKind.wrap_i64]; go_num
        have wr2 : IntKind.i64.wrap (hit.1 - (k : Int) + at_) = hit.1 - (k : Int) + at_ := by rw [IntKind.wrap_i64]; go_num
        go_upto_region 13 with fail
        refine wp_region_noPanic ?_
        refine wp_region_held_drew (S := RowKit.Below w9.heap.size w9) (by kernel_rfl) (HBr.out.trans ((bel_drewN wr 1).mono hbs)) (fun hS => ?_)
        obtain ⟨wd, hwd⟩ : ∃ X, X = wr.drew := ⟨_, rfl⟩
        have hownD := World.ownsRow.drew hown
        rw [← hwd] at hS hownD ⊢
        have hsk : SlK 2 (wd.alloc (.cells #[.int .i64 (hit.1 - (k : Int) + at_), .int .i64 hit.2] 61)) (some ⟨wd.heap.size, 0, none⟩) 1 [.int .i64 (hit.1 - (k : Int) + at_), .int .i64 hit.2] := slk_hit wd (hit.1 - (k : Int) + at_, hit.2)
        clear hwd hown q0 q1 q2
        refine tkW 0 (v := ?_) ?_ ?_
        rotate_left
        · intro V hV
          obtain ⟨q0, q1, q2⟩ := KC.out V hV
          first | (go_simp; done) | (go_simp; with_reducible rfl)
        try simp only [Act.put, pA, pB, pC]
        refine tkW 1 (v := ?_) ?_ ?_
        rotate_left
        · intro V hV
          obtain ⟨q0, q1, q2⟩ := KC.out V hV
          first | (go_simp; done) | (go_simp; with_reducible rfl)
        try simp only [Act.put, pA, pB, pC]
        refine tkW 2 (v := ?_) ?_ ?_
        rotate_left
        · intro V hV
          obtain ⟨q0, q1, q2⟩ := KC.out V hV
          first | (go_simp; done) | (go_simp; with_reducible rfl)
        try simp only [Act.put, pA, pB, pC]
        refine tkW 3 (v := ?_) ?_ ?_
        rotate_left
        · intro V hV
          obtain ⟨q0, q1, q2⟩ := KC.out V hV
          first | (go_simp; done) | (go_simp; with_reducible rfl)
        try simp only [Act.put, pA, pB, pC]
        refine tkW 4 (v := ?_) ?_ ?_
        rotate_left
        · intro V hV
          obtain ⟨q0, q1, q2⟩ := KC.out V hV
          first | (go_simp; done) | (go_simp; with_reducible rfl)
        try simp only [Act.put, pA, pB, pC]
        refine tkW 5 (v := ?_) ?_ ?_
        rotate_left
        · intro V hV
          obtain ⟨q0, q1, q2⟩ := KC.out V hV
          first | (go_simp; done) | (go_simp; with_reducible rfl)
        try simp only [Act.put, pA, pB, pC]
        refine tkW 6 (v := ?_) ?_ ?_
        rotate_left
        · intro V hV
          obtain ⟨q0, q1, q2⟩ := KC.out V hV
          first | (go_simp; done) | (go_simp; with_reducible rfl)
        try simp only [Act.put, pA, pB, pC]
        refine tkW 7 (v := ?_) ?_ ?_
        rotate_left
        · intro V hV
          obtain ⟨q0, q1, q2⟩ := KC.out V hV
          first | (go_simp; done) | (go_simp; with_reducible rfl)
        try simp only [Act.put, pA, pB, pC]
        refine tkW 8 (v := ?_) ?_ ?_
        rotate_left
        · intro V hV
          obtain ⟨q0, q1, q2⟩ := KC.out V hV
          first | (go_simp; done) | (go_simp; with_reducible rfl)
        try simp only [Act.put, pA, pB, pC]
        refine tkW 9 (v := ?_) ?_ ?_
        rotate_left
        · intro V hV
          obtain ⟨q0, q1, q2⟩ := KC.out V hV
          first | (go_simp; done) | (go_simp; with_reducible rfl)
        try simp only [Act.put, pA, pB, pC]
        refine tkW 10 (v := ?_) ?_ ?_
        rotate_left
        · intro V hV
          obtain ⟨q0, q1, q2⟩ := KC.out V hV
          first | (go_simp; done) | (go_simp; with_reducible rfl)
        try simp only [Act.put, pA, pB, pC]
        refine tkW 11 (v := ?_) ?_ ?_
        rotate_left
        · intro V hV
          obtain ⟨q0, q1, q2⟩ := KC.out V hV
          first | (go_simp; done) | (go_simp; with_reducible rfl)
        try simp only [Act.put, pA, pB, pC]
        refine tkW 12 (v := ?_) ?_ ?_
        rotate_left
        · intro V hV
          obtain ⟨q0, q1, q2⟩ := KC.out V hV
          first | (go_simp; done) | (go_simp; with_reducible rfl)
        try simp only [Act.put, pA, pB, pC]
        refine tkW 13 (v := ?_) ?_ ?_
        rotate_left
        · intro V hV
          obtain ⟨q0, q1, q2⟩ := KC.out V hV
          first | (go_simp; done) | (go_simp; with_reducible rfl)
        try simp only [Act.put, pA, pB, pC]
        refine tkW 14 (v := ?_) ?_ ?_
        rotate_left
        · intro V hV
          obtain ⟨q0, q1, q2⟩ := KC.out V hV
          first | (go_simp; done) | (go_simp; with_reducible rfl)
        try simp only [Act.put, pA, pB, pC]
        refine tkW 15 (v := ?_) ?_ ?_
        rotate_left
        · intro V hV
          obtain ⟨q0, q1, q2⟩ := KC.out V hV
          first | (go_simp; done) | (go_simp; with_reducible rfl)
        try simp only [Act.put, pA, pB, pC]
        refine tkW 16 (v := ?_) ?_ ?_
        rotate_left
        · intro V hV
          obtain ⟨q0, q1, q2⟩ := KC.out V hV
          first | (go_simp; done) | (go_simp; with_reducible rfl)
        try simp only [Act.put, pA, pB, pC]
        refine tkW 17 (v := ?_) ?_ ?_
        rotate_left
        · intro V hV
          obtain ⟨q0, q1, q2⟩ := KC.out V hV
          first | (go_simp; done) | (go_simp; with_reducible rfl)
        try simp only [Act.put, pA, pB, pC]
        refine rdy 18 (fun K hK => ?_)
        go_simp
        refine hK.out _ _ (hS.alloc hS.size _) (fun hS2 => ?_)
        clear hK K
        try simp only [Act.put, pA, pB, pC]
        refine rdy 19 (fun K hK => ?_)
        refine wanted_one (by kernel_rfl) ?_
        refine oper_append_slK _ _ _ 45 rfl w9.heap.size 61 i0 (.agg #[.int .i64 0, .int .i64 0]) 2 16 Tryz.underlying45 hi hz0 hz1 hz2 rfl (by decide) _ m _ rfl (hownD.alloc _) (some ⟨wd.heap.size, 0, none⟩) 1 1 [.int .i64 (hit.1 - (k : Int) + at_), .int .i64 hit.2] rfl hsk (by simp [Value.oneCell']) (by unfold maxLen; omega) (by omega) hS2.size ?_
        intro v' w10 hown' hgrow hat
        have hS3 : RowKit.Below w9.heap.size w9 w10 := hS2.grown hgrow hS2.size (fun j hj => (row_lt hownD j hj).1)
        refine hK.out _ _ hS3 (fun _ => ?_)
        clear hK K hgrow hat hS2 hS hownD
        try simp only [Act.put, pA, pB, pC]
        refine tkW 20 (v := ?_) ?_ ?_
        rotate_left
        · intro V hV
          first | (go_simp; done) | (go_simp; with_reducible rfl)
        try simp only [Act.put, pA, pB, pC]
        refine wpAnyH_done (by kernel_rfl) ?_ _
        refine NoPanic.normal ?_
        go_wp2
        go_roundw
        case rel =>
          refine ⟨i + 1, by omega, by go_num, hS3, ?_⟩
          unfold OwnH
          rw [HST.out, List.length_append, HMM.out, hcells_append]
          exact hown'
        case measure => simp [intOf]; omega
      · have d3 : decide ((k : Int) < hit.1) = false := by simpa using hc
        have HST : Hid (keepH (k : Int) at_ (OL.take (i + 1)) = keepH (k : Int) at_ (OL.take i)) := by rw [Hid, HSTEP.out, if_neg hc, List.append_nil]
        clear HSTEP hc
        go_wp2
        go_roundw
        case rel =>
          refine ⟨i + 1, by omega, by go_num, HBr, ?_⟩
          unfold OwnH
          rw [HST.out, HMM.out]
          exact hown
        case measure => simp [intOf]; omega
    · obtain rfl : nO = i := by omega
      have hd : decide ((nO : Int) < (nO : Int)) = false := by simp
      rw [List.take_of_length_le (by rw [HNO.out]; exact Nat.le_refl _), ← HSD.out] at hown
      have HOW := Lib.hid hown
      clear hown
      have hT1 := HT9.out.below HBr.out
      have hO1 := (HBr.out.block Q (Array.getElem?_eq_some_iff.1 HO9.out).1).trans HO9.out
      have hbWr := HW9.out.trans (HBr.out.mono HW9.out.size)
      have hXr := HX9.out.below HBr.out
      obtain ⟨q0, q1, q2, q3, q4, q5⟩ := HO.out wr hbWr
      have KD : Hid (∀ V, RowKit.Below wr.heap.size wr V → Tri V ⟨ua, un, uc, da, dn, dc, xa, xn, xc, ba, bn, bc⟩ (trieP wss) ∧ V.cell? ⟨Q, 0, none⟩ = some (.slice ua un uc) ∧ V.cell? ⟨Q, 1, none⟩ = some (.slice da dn dc) ∧ V.cell? ⟨Q, 2, none⟩ = some (.slice xa xn xc) ∧ V.cell? ⟨Q, 3, none⟩ = some (.slice ba bn bc)) := fun V hV => by
        have h := (hV.block Q (Array.getElem?_eq_some_iff.1 hO1).1).trans hO1
        exact ⟨hT1.below hV, by simp [World.cell?, h], by simp [World.cell?, h], by simp [World.cell?, h], by simp [World.cell?, h]⟩
      have HBW := Lib.hid hbWr
      have HXR := Lib.hid hXr
      clear hT1 hO1 hbWr hXr q4 hi'
      cases fold with
      | false =>
        have hDX : (deepT (trieP wss) (x ++ F)).1 = (zf : Int) := by
          have h := HDF.out
          rwa [show foldL false (x ++ F) = x ++ F by simp [foldL]] at h
        go_upto_region 16 with fail
        have hbT : RowKit.Below wr.heap.size wr wr := Below.refl _ _
        have hXT := HXR.out
        have hTC := hc8
        have H16 := Lib.hid (HDP.out _ wr (KD.out wr hbT).1 a8 (k + T) c8 (x ++ F) hXT (by omega) hTC)
        rw [hDX] at H16
        obtain ⟨_, e0, e1, e2, e3⟩ := KD.out wr hbT
        clear HDP
        go_upto_region 17 with (go_at_call 97; refine H16.out.mono ?_; rintro e w11 ⟨rfl, hb11⟩)
        have hb12 := hbT.trans (hb11.mono hbT.size)
        clear e0 e1 e2 e3 q0 q1 q2 q3 q5 H16
        obtain ⟨q0, q1, q2, q3, h6, q5⟩ := HO.out w11 (HBW.out.trans (hb12.mono HBW.out.size))
        have r0 : w11.cell? ⟨w.heap.size + 1 + 1, 0, none⟩ = some (.int .i64 0) := by simp [World.cell?, h6]
        have r1 : w11.cell? ⟨w.heap.size + 1 + 1, 1, none⟩ = some (.int .i64 0) := by simp [World.cell?, h6]
        have r2 : w11.frozen? ⟨w.heap.size + 1 + 1, 0, none⟩ = false := by simp [World.frozen?, h6]
        have r3 : w11.frozen? ⟨w.heap.size + 1 + 1, 1, none⟩ = false := by simp [World.frozen?, h6]
        have hz3 := set_at (i := 1) (set_at (i := 0) h6 (.int .i64 (zf : Int))) (.int .i64 (at_ + (T : Int)))
        have HZ3 := Lib.hid hz3
        have hBwX : RowKit.Below w.heap.size w w11 := HB.out.trans ((HBW.out.trans (hb12.mono HBW.out.size)).mono HB.out.size)
        have HBX := Lib.hid hBwX
        have HOX : Hid (OwnH w11 w9.heap.size _ hh) := own_below_ HOW.out hb12
        have hs9 : Hid (w.heap.size + 1 + 1 < w9.heap.size) := Nat.lt_of_lt_of_le hlW HW9.out.size
        clear hz3 h6 hBwX
        go_wp2
        refine bodyPost_ret (results_scan3 rfl rfl (by simpa using HZ3.out)) rfl ?_
        refine ⟨_, by rw [HFE.out, HZF.out, HTE.out]; rfl, ?_, (HBX.out.setCell (by show w.heap.size ≤ w.heap.size + 1 + 1; omega) _).setCell (by show w.heap.size ≤ w.heap.size + 1 + 1; omega) _⟩
        rw [HFE.out, HHE.out]
        have ho := HOX.out
        unfold OwnH at ho ⊢
        have h1 := (ho.kept (grown_set2 w11 (w.heap.size + 1 + 1) 0 (.int .i64 (zf : Int))) (.inr (fun e => by have := (row_lt ho _ e).1; have := hs9.out; omega)))
        have h2 := (h1.kept (grown_set2 _ (w.heap.size + 1 + 1) 1 (.int .i64 (at_ + (T : Int)))) (.inr (fun e => by have := (row_lt h1 _ e).1; have := hs9.out; omega)))
        exact row_lower h2 (by have := hs9.out; omega)
      | true =>
        have hDX : (deepT (trieP wss) ((x ++ F).map foldI)).1 = (zf : Int) := by
          have h := HDF.out
          rwa [show foldL true (x ++ F) = (x ++ F).map foldI by simp [foldL]] at h
        have H15 := Lib.hid (rfolded_any a8 (k + T) c8 (x ++ F) wr HXR.out (by omega))
        have HBF := Lib.hid (foldL_bd (fold := true) HXR.out.2)
        go_upto_region 16 with (go_at_call 96; refine H15.out.mono ?_; rintro e w10 ⟨vf, rfl, hof, hbT⟩)
        obtain ⟨af, cf, rfl, hTC, hXT⟩ := own_bys hof (by have h := HBF.out; rwa [show foldL true (x ++ F) = (x ++ F).map foldI by simp [foldL]] at h)
        clear H15 hof HBF
        clear q0 q1 q2 q3 q5
        obtain ⟨q0, q1, q2, q3, h6, q5⟩ := HO.out w10 (HBW.out.trans (hbT.mono HBW.out.size))
        clear h6
        have H16 := Lib.hid (HDP.out _ w10 (KD.out w10 hbT).1 af (k + T) cf ((x ++ F).map foldI) hXT (by omega) hTC)
        rw [hDX] at H16
        obtain ⟨_, e0, e1, e2, e3⟩ := KD.out w10 hbT
        clear HDP
        go_upto_region 17 with (go_at_call 97; refine H16.out.mono ?_; rintro e w11 ⟨rfl, hb11⟩)
        have hb12 := hbT.trans (hb11.mono hbT.size)
        clear e0 e1 e2 e3 q0 q1 q2 q3 q5 H16
        obtain ⟨q0, q1, q2, q3, h6, q5⟩ := HO.out w11 (HBW.out.trans (hb12.mono HBW.out.size))
        have r0 : w11.cell? ⟨w.heap.size + 1 + 1, 0, none⟩ = some (.int .i64 0) := by simp [World.cell?, h6]
        have r1 : w11.cell? ⟨w.heap.size + 1 + 1, 1, none⟩ = some (.int .i64 0) := by simp [World.cell?, h6]
        have r2 : w11.frozen? ⟨w.heap.size + 1 + 1, 0, none⟩ = false := by simp [World.frozen?, h6]
        have r3 : w11.frozen? ⟨w.heap.size + 1 + 1, 1, none⟩ = false := by simp [World.frozen?, h6]
        have hz3 := set_at (i := 1) (set_at (i := 0) h6 (.int .i64 (zf : Int))) (.int .i64 (at_ + (T : Int)))
        have HZ3 := Lib.hid hz3
        have hBwX : RowKit.Below w.heap.size w w11 := HB.out.trans ((HBW.out.trans (hb12.mono HBW.out.size)).mono HB.out.size)
        have HBX := Lib.hid hBwX
        have HOX : Hid (OwnH w11 w9.heap.size _ hh) := own_below_ HOW.out hb12
        have hs9 : Hid (w.heap.size + 1 + 1 < w9.heap.size) := Nat.lt_of_lt_of_le hlW HW9.out.size
        clear hz3 h6 hBwX
        go_wp2
        refine bodyPost_ret (results_scan3 rfl rfl (by simpa using HZ3.out)) rfl ?_
        refine ⟨_, by rw [HFE.out, HZF.out, HTE.out]; rfl, ?_, (HBX.out.setCell (by show w.heap.size ≤ w.heap.size + 1 + 1; omega) _).setCell (by show w.heap.size ≤ w.heap.size + 1 + 1; omega) _⟩
        rw [HFE.out, HHE.out]
        have ho := HOX.out
        unfold OwnH at ho ⊢
        have h1 := (ho.kept (grown_set2 w11 (w.heap.size + 1 + 1) 0 (.int .i64 (zf : Int))) (.inr (fun e => by have := (row_lt ho _ e).1; have := hs9.out; omega)))
        have h2 := (h1.kept (grown_set2 _ (w.heap.size + 1 + 1) 1 (.int .i64 (at_ + (T : Int)))) (.inr (fun e => by have := (row_lt h1 _ e).1; have := hs9.out; omega)))
        exact row_lower h2 (by have := hs9.out; omega)
end Go.Proofs.YtbiinfnekhhfkaaGreat

/- Streams (layer 14): All, Count; walked. Printed by exp.py. -/



namespace Go.Proofs.YtbiinfnekhhfkaaGreat
open Go.RowKit Go.Sort Go.Maps Go.WideAt Go.WideMaps
set_option linter.unusedVariables false
set_option linter.unusedSimpArgs false

/-- Numbers told, each once. -/
def dd (ks : List Int) (x : Int) : List Int := if x ∈ ks then ks else ks ++ [x]
def distN (l : List Int) : Nat := (l.foldl dd []).length
theorem mem_dd (ks : List Int) (x y : Int) : y ∈ dd ks x ↔ y ∈ ks ∨ y = x := by
  unfold dd
  split
  · constructor
    · exact .inl
    · rintro (h | rfl)
      · exact h
      · assumption
  · simp
theorem nodup_dd {ks : List Int} (h : ks.Nodup) (x : Int) : (dd ks x).Nodup := by
  unfold dd
  split
  · exact h
  · rename_i hx
    rw [List.nodup_append]
    exact ⟨h, by simp, fun a ha b hb => by simp at hb; rintro rfl; exact hx (hb ▸ ha)⟩
theorem dds (l : List Int) : ∀ ks : List Int, ks.Nodup → (l.foldl dd ks).Nodup ∧ ∀ y, y ∈ l.foldl dd ks ↔ y ∈ ks ∨ y ∈ l := by
  induction l with
  | nil => intro ks h; exact ⟨h, fun y => by simp⟩
  | cons x l ih =>
    intro ks h
    obtain ⟨h1, h2⟩ := ih (dd ks x) (nodup_dd h x)
    refine ⟨h1, fun y => ?_⟩
    rw [List.foldl_cons, h2, mem_dd, List.mem_cons, or_assoc]
theorem distN_count {l : List Int} {n : Nat} (h : ∀ x ∈ l, 0 ≤ x ∧ x < (n : Int)) : distN l = ((List.range n).filter fun w : Nat => decide ((w : Int) ∈ l)).length := by
  obtain ⟨h1, h2⟩ := dds l [] (by simp)
  have hnd : (((List.range n).filter fun w : Nat => decide ((w : Int) ∈ l)).map fun w : Nat => (w : Int)).Nodup := by
    refine List.Pairwise.map _ (fun a b hab => ?_) (List.Pairwise.filter _ List.nodup_range)
    intro e
    have e2 : (a : Int) = (b : Int) := e
    exact hab (by omega)
  have hp : (l.foldl dd []).Perm (((List.range n).filter fun w : Nat => decide ((w : Int) ∈ l)).map fun w : Nat => (w : Int)) := by
    rw [List.perm_ext_iff_of_nodup h1 hnd]
    intro y
    rw [h2]
    simp only [List.not_mem_nil, false_or, List.mem_map, List.mem_filter, List.mem_range, decide_eq_true_eq]
    constructor
    · intro hy
      obtain ⟨h3, h4⟩ := h y hy
      exact ⟨y.toNat, ⟨by omega, by rwa [Int.toNat_of_nonneg h3]⟩, Int.toNat_of_nonneg h3⟩
    · rintro ⟨w, ⟨_, hw⟩, rfl⟩
      exact hw
  have := hp.length_eq
  rw [List.length_map] at this
  exact this

theorem wf64 {x : Int} (h : I64 x) : (Lit.int .i64 x).wf = true := by
  unfold I64 at h
  simp [Lit.wf, IntKind.min, IntKind.max, IntKind.signed, IntKind.bits]
  omega
theorem int_law14 : Keyed Tryz.prog 3 := int_keyed Tryz.underlying3
/-- A map of numbers to numbers, of the call's own: which numbers it has. -/
def MI (W : World) (b n : Nat) (ks : List Int) : Prop :=
  ∃ D : DataW Unit, W.ownsMap Tryz.prog 3 (plainElem Tryz.prog 3) b n D ∧ Tidy D ∧ Maps.size D = ks.length ∧ ∀ k : Int, Maps.has D (.int .i64 k) = decide (k ∈ ks) ∧ ∃ c : Nat, c ≤ n ∧ D.atKey (.int .i64 k) (.lit (.int .i64 0)) = .lit (.int .i64 (c : Int))
theorem MI.start {b : Nat} (w : World) (hD : w.ownsMap Tryz.prog 3 (plainElem Tryz.prog 3) b 0 (.map [] : DataW Unit)) : MI w b 0 [] :=
  ⟨_, hD, ⟨[], rfl, List.Pairwise.nil⟩, rfl, fun k => ⟨rfl, 0, Nat.le_refl _, rfl⟩⟩
theorem MI.kept {W W' : World} {b n : Nat} {ks : List Int} {row : Option Nat} (h : MI W b n ks) (hg : W.grownBy W' row) (hne : row ≠ some b) : MI W' b n ks := by
  obtain ⟨D, h1, h2⟩ := h
  exact ⟨D, h1.kept hg (fun e => hne e.symm), h2⟩
theorem MI.alloc {W : World} {b n : Nat} {ks : List Int} (h : MI W b n ks) (o : Obj) : MI (W.alloc o) b n ks := by
  obtain ⟨D, h1, h2⟩ := h
  exact ⟨D, h1.alloc o, h2⟩
section
variable {w : World} {ops : Array Oper} {rest : List Oper} {o : Oper} {a : Act} {Q : Exit → Act → World → Prop} {b n : Nat} {ks : List Int}
theorem wpList_mi_get (hg : o.guard = none) (m x : Operand) (hop : o.op = Op.lookup 154 m x false) (hm : a.eval m = .map (some b)) (hown : MI w b n ks) (l : Int) (hl : (Lit.int .i64 l).wf = true) (hx : a.eval x = .int .i64 l)
    (hK : ∀ c : Nat, c ≤ n → wpList Tryz.prog ops Q rest (a.put o.dst (.int .i64 (c : Int))) w) : wpList Tryz.prog ops Q (o :: rest) a w := by
  obtain ⟨D, h1, h2, h3, h4⟩ := hown
  refine wpList_lookup_own_int _ hg m x 154 hop 3 3 .i64 int_law14 Tryz.underlying154 Tryz.underlying3 (zero_int7 _) b n D hm h1 _ _ hx (keyOf_int_mk Tryz.underlying3 hl) ?_
  intro c hat _
  obtain ⟨_, c', hc, e⟩ := h4 l
  have e2 : c = (c' : Int) := by have := hat.symm.trans e; simpa using this
  rw [e2]
  exact hK c' hc
theorem wpList_mi_put (hg : o.guard = none) (m x y : Operand) (hop : o.op = Op.mapUpdate 154 m x y) (hm : a.eval m = .map (some b)) (hown : MI w b n ks) (hn : n < maxLen) (l : Int) (c : Nat) (hc : c ≤ n + 1) (hl : (Lit.int .i64 l).wf = true) (hv : (Lit.int .i64 (c : Int)).wf = true) (hx : a.eval x = .int .i64 l) (hy : a.eval y = .int .i64 (c : Int))
    (hK : ∀ w', MI w' b (n + 1) (dd ks l) → w.grownBy w' (some b) → wpList Tryz.prog ops Q rest (a.put o.dst undef) w') : wpList Tryz.prog ops Q (o :: rest) a w := by
  obtain ⟨D, h1, h2, h3, h4⟩ := hown
  have hkk := int_law14.key (keyOf_int_mk (P := Tryz.prog) Tryz.underlying3 hl)
  refine wpList_mapUpdate_own _ hg m x y 154 hop 3 3 int_law14 Tryz.underlying154 _ b n D hm h1 hn _ _ _ hx hy (keyOf_int_mk Tryz.underlying3 hl) _ [] (plainElem_int Tryz.underlying3 hv) ?_
  intro w' hw hgr
  refine hK w' ⟨_, hw, h2.put hkk _, ?_, fun k => ?_⟩ hgr
  · rw [size_put h2, (h4 l).1, h3]
    unfold dd
    by_cases hm : l ∈ ks
    · simp [hm]
    · simp [hm]
  · by_cases e : k = l
    · subst e
      refine ⟨?_, c, hc, by rw [atKey_put_same h2.isMap hkk]⟩
      rw [has_put_same h2.isMap hkk, decide_eq_true ((mem_dd _ _ _).2 (.inr rfl))]
    · have e' : (Lit.int .i64 k) ≠ Lit.int .i64 l := fun h => e (by injection h)
      obtain ⟨h5, c', h6, h7⟩ := h4 k
      refine ⟨?_, c', by omega, by rw [atKey_put_other e', h7]⟩
      rw [has_put_other e', h5]
      simp [mem_dd, e]
end

/-- What a Feed tells, of whatever machine. -/
def FedOK (w : World) (p : Value) (z at_ : Int) (a : Option Addr) (n cn : Nat) (zf af ef : Int) (hs : List HitP) : Prop :=
  ∀ V, Below w.heap.size w V → Calls Tryz.prog 55 #[p, scV z at_, .slice a n cn] V fun e w' => ∃ v, e = .returned (.tuple #[scV zf af, v, .int .i64 ef]) ∧ OwnH w' V.heap.size v hs ∧ Below V.heap.size V w'

set_option maxRecDepth 100000 in
set_option maxHeartbeats 4000000 in
theorem all14_run (p : Value) (frm : Int) (a : Option Addr) (n cn : Nat) (zf af ef : Int) (hs : List HitP) (w : World) (HF : newE frm = 0 → FedOK w p 0 frm a n cn zf af ef hs) :
    Calls Tryz.prog 63 #[p, .int .i64 frm, .slice a n cn] w fun e w' => ∃ v, e = .returned (.tuple #[v, .int .i64 (if newE frm = 0 then ef else 2)]) ∧ OwnH w' w.heap.size v (if newE frm = 0 then hs else []) ∧ Below w.heap.size w w' := by
  have HN := Lib.hid (new14_any frm w)
  by_cases h0 : newE frm = 0
  · have h1 : newA frm = frm := by
      unfold newE at h0
      unfold newA
      split at h0
      · rename_i h; rw [if_pos h]
      · cases h0
    rw [h0, h1] at HN
    rw [if_pos h0, if_pos h0]
    have HF := Lib.hid (HF h0)
    clear h0 h1
    go_enter Tryz.func63, Tryz.ntmps63
    go_upto_region 2 with (go_at_call 61; refine HN.out.mono ?_; rintro e w1 ⟨rfl, hb1⟩)
    have hb2 := hb1.trans ((below_alloc w1 (.cells #[.int .i64 0, .int .i64 frm] 88)).mono hb1.size)
    have H4 := Lib.hid (HF.out _ hb2)
    have HB2 := Lib.hid hb2
    clear hb1 hb2 HN
    go_wp2_with (go_at_call 55; refine H4.out.mono ?_; rintro e w2 ⟨v, rfl, hown, hb3⟩)
    refine bodyPost_ret (results_tmp2 rfl _ _ _) rfl ?_
    have hb4 := HB2.out.trans (hb3.mono HB2.out.size)
    refine ⟨v, rfl, ?_, hb4.alloc hb4.size _⟩
    exact own_below_ (row_lower hown HB2.out.size) (below_alloc _ _)
  · have h2 : newE frm = 2 := by
      unfold newE at h0 ⊢
      split at h0
      · exact absurd rfl h0
      · rename_i h; rw [if_neg h]
    rw [h2] at HN
    rw [if_neg h0, if_neg h0]
    clear h0 h2 HF
    go_enter Tryz.func63, Tryz.ntmps63
    go_wp2_with (go_at_call 61; refine HN.out.mono ?_; rintro e w1 ⟨rfl, hb1⟩)
    refine bodyPost_ret (results_tmp2 rfl _ _ _) rfl ?_
    exact ⟨_, rfl, World.ownsRow_nil _ _ _ _, hb1.alloc hb1.size _⟩

set_option maxRecDepth 100000 in
set_option maxHeartbeats 4000000 in
theorem count14_run (p : Value) (z at_ : Int) (a : Option Addr) (n cn : Nat) (zf af ef : Int) (hs : List HitP) (w : World) (HF : FedOK w p z at_ a n cn zf af ef hs) (hl : hs.length ≤ 1000000000) (hi : ∀ x ∈ hs, I64 x.1 ∧ I64 x.2) (he : ef = 0 ∨ ef = 2) :
    Calls Tryz.prog 59 #[p, scV z at_, .slice a n cn] w fun e w' => e = .returned (.tuple #[.int .i64 (if ef = 0 then (hs.length : Int) else 0), .int .i64 (if ef = 0 then (distN (hs.map (·.2)) : Int) else 0)]) ∧ Below w.heap.size w w' := by
  have hB := below_alloc w (.cells #[.int .i64 z, .int .i64 at_] 88)
  have H1 := Lib.hid (HF _ hB)
  have HB := Lib.hid hB
  have hmm := @run_makeMap Tryz.prog
  have HI := Lib.hid hi
  clear HF hB hi
  rcases he with rfl | rfl
  · rw [if_pos rfl, if_pos rfl]
    go_enter Tryz.func59, Tryz.ntmps59
    go_upto_region 4 with (go_at_call 55; refine H1.out.mono ?_; rintro e w1 ⟨v, rfl, hown, hb1⟩; obtain ⟨a1, c1, rfl, hc1, hs1⟩ := hown.hts HI.out)
    obtain ⟨W2, hW2⟩ : ∃ X, X = w1.alloc (.cells #[.int .i64 zf, .int .i64 af] 88) := ⟨_, rfl⟩
    have hb12 : RowKit.Below w1.heap.size w1 W2 := by rw [hW2]; exact below_alloc _ _
    rw [← hW2]
    have hB2 := HB.out.trans ((hb1.trans (hb12.mono hb1.size)).mono HB.out.size)
    have HS2 := Lib.hid (hs1.below hb12)
    have m0 : (W2.alloc (Obj.map #[] 0)).ownsMap Tryz.prog 3 (plainElem Tryz.prog 3) W2.heap.size 0 (.map [] : DataW Unit) := World.ownsMap_made W2 Tryz.prog 3 (plainElem Tryz.prog 3)
    have hm0 := MI.start _ m0
    obtain ⟨W3, hW3⟩ : ∃ X, X = W2.alloc (Obj.map #[] 0) := ⟨_, rfl⟩
    rw [← hW3] at hm0
    have hb23 : RowKit.Below W2.heap.size W2 W3 := by rw [hW3]; exact below_alloc _ _
    obtain ⟨bm, hbm⟩ : ∃ b, W2.heap.size = b := ⟨_, rfl⟩
    rw [hbm] at hm0 hb23
    have hbl : bm < W3.heap.size := by rw [hW3, ← hbm]; simp
    obtain ⟨nh, hnh⟩ : ∃ nh, hs.length = nh := ⟨_, rfl⟩
    rw [hnh] at HS2 hl ⊢
    have HNH := Lib.hid hnh
    have HB2 := Lib.hid hB2
    have HBM := Lib.hid hbm
    clear hs1 hown hb1 hb12 hB2 hnh H1 hW2 m0
    go_upto_region 5 with fail
    rw [← hW3]
    clear hW3
    go_upto_region 6 with fail
    go_loopw [27] (fun s27 wr => ∃ q : Nat, q ≤ nh ∧ s27 = .int .i64 (q : Int) ∧ Hid (MI wr bm q (((hs.take q).map (·.2)).foldl dd [])) ∧ Hid (RowKit.Below bm W2 wr)) (fun s _ => nh - (intOf s).toNat)
    case atStart => exact ⟨0, Nat.zero_le _, rfl, hm0, hb23⟩
    case round =>
      clear hm0 hb23
      obtain ⟨q, hq, rfl, HMI, HBr⟩ := hrel
      by_cases hqn : q < nh
      · have hd : decide ((q : Int) < (nh : Int)) = true := by simp; omega
        obtain ⟨bh, oh, hit, e4, hbh, k0, k1, hhit, hb0', hb1'⟩ := (HS2.out.below (by rw [HBM.out]; exact HBr.out)).at_ hqn
        subst e4
        have q1 : (0 : Int) ≤ (q : Int) := by omega
        have q2 : (q : Int) < (nh : Int) := by omega
        have HHIT := Lib.hid hhit
        have hwf : (Lit.int .i64 hit.2).wf = true := wf64 hb1'
        have hmi := HMI.out.alloc (.cells #[.int .i64 hit.1, .int .i64 hit.2] 61)
        have hbl2 : bm ≤ wr.heap.size := by have := HBr.out.size; have := HBM.out; omega
        clear hhit
        go_wp2_with (first
          | (at_lookup; refine wpList_mi_get rfl _ _ rfl rfl hmi hit.2 hwf rfl ?_; intro c hc)
          | (at_mapUpdate; refine wpList_mi_put rfl _ _ _ rfl rfl hmi (by unfold maxLen; omega) hit.2 (c + 1) (by omega) hwf (wf64 (by unfold I64; omega)) rfl rfl ?_; intro w5 hmi5 hg5))
        have hb5 : RowKit.Below bm W2 w5 := (HBr.out.alloc hbl2 _).grown hg5 (by simp; omega) (fun k e => by cases e; exact Nat.le_refl _)
        go_roundw
        case rel => exact ⟨q + 1, by omega, by go_num, by rw [take_step HHIT.out, List.map_append, List.foldl_append]; exact hmi5, hb5⟩
        case measure => simp [intOf]; omega
      · obtain rfl : nh = q := by omega
        have hd : decide ((nh : Int) < (nh : Int)) = false := by simp
        have hmi := HMI.out
        rw [List.take_of_length_le (by rw [HNH.out]; exact Nat.le_refl _)] at hmi
        have hlen : (Builtin.len_ #[154] 3 #[.map (some bm)]).run Tryz.prog wr = .ok (.int .i64 (distN (hs.map (·.2)) : Int)) wr := by
          obtain ⟨D, h1, h2, h3, _⟩ := hmi
          have h := h1.len Tryz.underlying154 3
          rw [h3] at h
          exact h
        clear hmi
        go_wp2_with fail
        refine bodyPost_ret (results_tmp2 rfl _ _ _) rfl ?_
        refine ⟨by first | rfl | (rw [HNH.out]; rfl), HB2.out.trans (HBr.out.mono (by rw [← HBM.out]; exact HB2.out.size))⟩
  · rw [if_neg (by decide), if_neg (by decide)]
    go_enter Tryz.func59, Tryz.ntmps59
    go_wp2_with (go_at_call 55; refine H1.out.mono ?_; rintro e w1 ⟨v, rfl, hown, hb1⟩)
    refine bodyPost_ret (results_tmp2 rfl _ _ _) rfl ?_
    have hb4 := HB.out.trans (hb1.mono HB.out.size)
    exact ⟨rfl, hb4.alloc hb4.size _⟩
end Go.Proofs.YtbiinfnekhhfkaaGreat

/- Streams (layer 14): the document's Feed and Count, unified; what may be told; the law's bound. -/



namespace Go.Proofs.YtbiinfnekhhfkaaGreat
open Go.RowKit Go.Sort
set_option linter.unusedVariables false
set_option linter.unusedSimpArgs false

theorem scanH_bd {fold : Bool} {ws : List (List Int)} (hn : ws.Nodup) (h0 : ∀ y ∈ ws, y.length ≠ 0) : ∀ (b : List Int) (z : Nat) (at_ : Int), z < (nodesL ws).length → ∀ h ∈ scanH fold ws z at_ b, (at_ < h.1 ∧ h.1 ≤ at_ + b.length) ∧ 0 ≤ h.2 ∧ h.2 < (ws.length : Int)
  | [], z, at_, _, h, hh => by simp [scanH] at hh
  | c :: b, z, at_, hz, h, hh => by
    have hx : (nodesL ws)[z]? = some (nodesL ws)[z] := List.getElem?_eq_getElem hz
    have hn1 := (nextZ_at (fold := fold) hx c).1
    have hnl := (List.getElem?_eq_some_iff.1 hn1).1
    simp only [scanH, List.mem_append, List.mem_map] at hh
    rw [List.length_cons]
    rcases hh with ⟨v, hv, rfl⟩ | hh
    · rw [words9_suf h0 hn1, mem_sufW hn h0] at hv
      obtain ⟨k, y, h1, _, rfl⟩ := hv
      have := (List.getElem?_eq_some_iff.1 h1).1
      dsimp only
      omega
    · have := scanH_bd hn h0 b _ (at_ + 1) hnl h hh
      omega
theorem fdH_bd {fold : Bool} {wss : List (List Int)} (hr : rightP fold wss = true) (z at_ : Int) (F : List Int) : ∀ h ∈ fdH fold wss z at_ F, (I64 h.1 ∧ I64 h.2) ∧ 0 ≤ h.2 ∧ h.2 < (wss.length : Int) := by
  intro h hh
  unfold fdH at hh
  split at hh
  · rename_i hok
    unfold fdOK at hok
    rw [Bool.and_eq_true] at hok
    obtain ⟨h1, h2⟩ := hok
    have h2 := of_decide_eq_true h2
    obtain ⟨⟨h3, h4⟩, h5, h6⟩ := of_decide_eq_true h1
    have h8 := (right_spec hr).1
    have := scanH_bd (right_nodup hr).1 (fun y hy => ((right_spec hr).2.2.1 y hy).1) F z.toNat at_ (by omega) h hh
    unfold I64
    omega
  · simp at hh
theorem fdH_len {fold : Bool} {wss : List (List Int)} (hr : rightP fold wss = true) (z at_ : Int) (F : List Int) : (fdH fold wss z at_ F).length ≤ 400 * F.length := by
  unfold fdH
  split
  · rename_i hok
    unfold fdOK at hok
    rw [Bool.and_eq_true] at hok
    obtain ⟨⟨h3, h4⟩, _⟩ := of_decide_eq_true hok.1
    have hn4 : (nodesL wss).length ≤ 400 := read_n (readP_iff.2 ⟨right_false hr, rfl, rfl⟩)
    have h := scanH_len (fold := fold) F z.toNat at_ (show z.toNat < (nodesL wss).length by omega)
    exact Nat.le_trans h (Nat.mul_le_mul_right _ hn4)
  · simp

theorem rfeed14_r (fold : Bool) (a : Option Addr) (la ca : Nat) (z at_ : Int) (b : Option Addr) (n cn : Nat) (css wss : List (List Int)) (w : World) (hA : Wds w a la wss) (hC : Wds w b n css) (hla : la ≤ 1000) (hM : ∀ x ∈ wss, x.length ≤ 1000000) (hn : n ≤ 1000000) (hT : css.flatten.length ≤ 900000)
    (hr : rightP fold wss = true) :
    Calls Tryz.prog 56 #[.agg (setV fold a la ca), scV z at_, .slice b n cn] w fun e w' => ∃ v, e = .returned (.tuple #[scV (fdZ fold wss z at_ css.flatten) (fdA wss z at_ css.flatten), v, .int .i64 (fdE wss z at_ css.flatten)]) ∧ OwnH w' w.heap.size v (fdH fold wss z at_ css.flatten) ∧ Below w.heap.size w w' := by
  by_cases hok : fdOK wss z at_ css.flatten = true
  · unfold fdZ fdA fdE fdH
    rw [if_pos hok, if_pos hok, if_pos hok, if_pos hok]
    unfold fdOK at hok
    rw [Bool.and_eq_true] at hok
    obtain ⟨h1, h2⟩ := hok
    have h2 := of_decide_eq_true h2
    obtain ⟨⟨h3, h4⟩, h5, h6⟩ := of_decide_eq_true h1
    obtain ⟨y, rfl⟩ : ∃ y : Nat, z = (y : Int) := ⟨z.toNat, by omega⟩
    rw [Int.toNat_natCast]
    exact rfeed14_yes fold a la ca y at_ b n cn css wss w hA hC hla hM hn hT hr (by omega) h5 h2
  · unfold fdZ fdA fdE fdH
    rw [if_neg hok, if_neg hok, if_neg hok, if_neg hok]
    refine (rfeed14_no fold a la ca z at_ b n cn css wss w hA hC (by omega) hM hn (by omega) (by rw [hr, Bool.true_and]; simpa using hok)).mono ?_
    rintro e w' ⟨rfl, hb⟩
    exact ⟨_, rfl, World.ownsRow_nil _ _ _ _, hb⟩

/-- Of so many words those that are told. -/
def cntW (ks : List Int) (n : Nat) : Nat := ((List.range n).filter fun w : Nat => decide ((w : Int) ∈ ks)).length
theorem cntW_step (ks : List Int) (n : Nat) : cntW ks (n + 1) = cntW ks n + if (n : Int) ∈ ks then 1 else 0 := by
  unfold cntW
  rw [List.range_succ, List.filter_append, List.length_append]
  congr 1
  by_cases h : (n : Int) ∈ ks
  · simp [h]
  · simp [h]
theorem cntW_le (ks : List Int) (n : Nat) : cntW ks n ≤ n := by
  unfold cntW
  have := List.length_filter_le (fun w : Nat => decide ((w : Int) ∈ ks)) (List.range n)
  rwa [List.length_range] at this

set_option maxRecDepth 100000 in
set_option maxHeartbeats 4000000 in
theorem rcount14_run (fold : Bool) (a : Option Addr) (la ca : Nat) (z at_ : Int) (b : Option Addr) (n cn : Nat) (zf af ef : Int) (hs : List HitP) (wss : List (List Int)) (w : World) (hA : Wds w a la wss) (hla : la ≤ 1000)
    (HF : ∀ V, Below w.heap.size w V → Calls Tryz.prog 56 #[.agg (setV fold a la ca), scV z at_, .slice b n cn] V fun e w' => ∃ v, e = .returned (.tuple #[scV zf af, v, .int .i64 ef]) ∧ OwnH w' V.heap.size v hs ∧ Below V.heap.size V w') (hl : hs.length ≤ 1000000000) (hi : ∀ x ∈ hs, I64 x.1 ∧ I64 x.2) :
    Calls Tryz.prog 60 #[.agg (setV fold a la ca), scV z at_, .slice b n cn] w fun e w' => e = .returned (.tuple #[.int .i64 (hs.length : Int), .int .i64 (cntW (hs.map (·.2)) la : Int)]) ∧ Below w.heap.size w w' := by
  obtain ⟨W, hW⟩ : ∃ W, W = (w.alloc (.cells (setV fold a la ca) 24)).alloc (.cells #[.int .i64 z, .int .i64 at_] 88) := ⟨_, rfl⟩
  have hB : Below w.heap.size w W := by rw [hW]; exact ((Below.refl _ _).alloc (Nat.le_refl _) _).alloc (by simp) _
  have hO : Bx w.heap.size [.cells (setV fold a la ca) 24, .cells #[.int .i64 z, .int .i64 at_] 88] W := by rw [hW]; exact ((Bx.nil _ w).snoc _ rfl).snoc _ (by simp)
  have hlW : w.heap.size + 1 < W.heap.size := by rw [hW]; simp
  have HO : Hid (∀ V, RowKit.Below W.heap.size W V → V.cell? ⟨w.heap.size, 0, none⟩ = some (.bool fold) ∧ V.cell? ⟨w.heap.size, 1, none⟩ = some (.slice a la ca) ∧ V.cell? ⟨w.heap.size + 1, 0, none⟩ = some (.int .i64 z) ∧ V.cell? ⟨w.heap.size + 1, 1, none⟩ = some (.int .i64 at_) ∧ w.heap.size + 1 < V.heap.size) := fun V hV => by
    have h := hO.below hV
    exact ⟨h.cell (i := 0) rfl rfl, h.cell (i := 0) rfl rfl, h.cell (i := 1) rfl rfl, h.cell (i := 1) rfl rfl, Nat.lt_of_lt_of_le hlW hV.size⟩
  have H1 := Lib.hid (HF W hB)
  have HB := Lib.hid hB
  have HI := Lib.hid hi
  clear hA hO hB HF hi
  obtain ⟨q0, q1, q2, q3, q4⟩ := HO.out W (Below.refl _ _)
  go_enter Tryz.func60, Tryz.ntmps60
  go_upto_region 1 with fail
  rw [← hW]
  clear hW
  go_upto_region 2 with (go_at_call 56; refine H1.out.mono ?_; rintro e w1 ⟨v, rfl, hown, hb1⟩; obtain ⟨a1, c1, rfl, hc1, hs1⟩ := hown.hts HI.out)
  obtain ⟨W2, hW2⟩ : ∃ X, X = w1.alloc (.cells #[.int .i64 zf, .int .i64 af] 88) := ⟨_, rfl⟩
  have hb12 : RowKit.Below w1.heap.size w1 W2 := by rw [hW2]; exact below_alloc _ _
  rw [← hW2]
  obtain ⟨nh, hnh⟩ : ∃ nh, hs.length = nh := ⟨_, rfl⟩
  rw [hnh] at hs1 hl ⊢
  have HNH := Lib.hid hnh
  have HS2 := Lib.hid (hs1.below hb12)
  have HB2 := Lib.hid (hb1.trans (hb12.mono hb1.size))
  clear hW2 hb1 hb12 hown hs1 hnh H1 q0 q1 q2 q3 q4
  obtain ⟨q0, q1, q2, q3, q4⟩ := HO.out W2 HB2.out
  go_upto_region 4 with fail
  clear q0 q1 q2 q3 q4
  go_loopw [11, 12] (fun s11 s12 wr => ∃ i : Nat, i ≤ la ∧ s12 = .int .i64 (i : Int) ∧ s11 = .int .i64 (cntW (hs.map (·.2)) i : Int) ∧ Hid (RowKit.Below W2.heap.size W2 wr)) (fun _ s _ => la - (intOf s).toNat)
  case atStart => exact ⟨0, Nat.zero_le _, rfl, rfl, Below.refl _ _⟩
  case round =>
    obtain ⟨i, hi', rfl, rfl, HBr⟩ := hrel
    obtain ⟨q0, q1, q2, q3, q4⟩ := HO.out wr (HB2.out.trans (HBr.out.mono HB2.out.size))
    by_cases hil : i < la
    · have hd : decide ((i : Int) < (la : Int)) = true := by simp; omega
      have hcl := cntW_le (hs.map (·.2)) i
      have HCS := Lib.hid (cntW_step (hs.map (·.2)) i)
      obtain ⟨cc, hcc⟩ : ∃ c, cntW (hs.map (·.2)) i = c := ⟨_, rfl⟩
      rw [hcc] at hcl ⊢
      rw [hcc] at HCS
      clear hcc
      go_wp2_with fail
      clear q0 q1 q2 q3 q4
      go_loopw [13, 14] (fun s13 s14 wq => ∃ j : Nat, j ≤ nh ∧ s14 = .int .i64 (j : Int) ∧ s13 = .int .i64 (if (i : Int) ∈ (hs.take j).map (·.2) then 1 else 0) ∧ Hid (RowKit.Below W2.heap.size W2 wq)) (fun _ s _ => nh - (intOf s).toNat)
      case atStart => exact ⟨0, Nat.zero_le _, rfl, by simp, HBr⟩
      case round =>
        clear HBr
        obtain ⟨j, hj, rfl, rfl, HBr⟩ := hrel
        by_cases hjn : j < nh
        · have hdj : decide ((j : Int) < (nh : Int)) = true := by simp; omega
          obtain ⟨bh, oh, hit, e4, hbh, k0, k1, hhit, hb0', hb1'⟩ := (HS2.out.below HBr.out).at_ hjn
          subst e4
          have j1 : (0 : Int) ≤ (j : Int) := by omega
          have j2 : (j : Int) < (nh : Int) := by omega
          obtain ⟨D, hD⟩ : ∃ D : Int, (if (i : Int) ∈ (hs.take j).map (·.2) then (1 : Int) else 0) = D := ⟨_, rfl⟩
          rw [hD]
          by_cases he : hit.2 = (i : Int)
          · have hq : (hit.2 == (i : Int)) = true := by simpa using he
            have HN : Hid ((if (i : Int) ∈ (hs.take (j + 1)).map (·.2) then (1 : Int) else 0) = 1) := by
              rw [Hid, if_pos]
              rw [take_step hhit, List.map_append, List.mem_append]
              exact .inr (by simp [he])
            clear hhit hD he
            go_wp2_with fail
            go_roundw
            case rel => exact ⟨j + 1, by omega, by go_num, by rw [HN.out], HBr⟩
            case measure => simp [intOf]; omega
          · have hq : (hit.2 == (i : Int)) = false := by simpa using he
            have HN : Hid ((if (i : Int) ∈ (hs.take (j + 1)).map (·.2) then (1 : Int) else 0) = D) := by
              rw [Hid, ← hD, take_step hhit, List.map_append]
              have : (i : Int) ∈ (hs.take j).map (·.2) ++ [hit].map (·.2) ↔ (i : Int) ∈ (hs.take j).map (·.2) := by
                rw [List.mem_append]
                simp [Ne.symm he]
              simp only [this]
            clear hhit hD he
            go_wp2_with fail
            go_roundw
            case rel => exact ⟨j + 1, by omega, by go_num, by rw [HN.out], HBr⟩
            case measure => simp [intOf]; omega
        · obtain rfl : nh = j := by omega
          have hdj : decide ((nh : Int) < (nh : Int)) = false := by simp
          rw [List.take_of_length_le (by rw [HNH.out]; exact Nat.le_refl _)]
          by_cases hm : (i : Int) ∈ hs.map (·.2)
          · rw [if_pos hm]
            have HN : Hid (cntW (hs.map (·.2)) (i + 1) = cc + 1) := by rw [Hid, HCS.out, if_pos hm]
            clear hm
            go_wp2_with fail
            go_roundw
            case rel => exact ⟨i + 1, by omega, by go_num, by first | (rw [HN.out]; done) | (rw [HN.out]; go_num), HBr⟩
            case measure => simp [intOf]; omega
          · rw [if_neg hm]
            have HN : Hid (cntW (hs.map (·.2)) (i + 1) = cc) := by rw [Hid, HCS.out, if_neg hm]; rfl
            clear hm
            go_wp2_with fail
            go_roundw
            case rel => exact ⟨i + 1, by omega, by go_num, by first | (rw [HN.out]; done) | (rw [HN.out]; go_num), HBr⟩
            case measure => simp [intOf]; omega
    · obtain rfl : la = i := by omega
      have hd : decide ((la : Int) < (la : Int)) = false := by simp
      obtain ⟨cc, hcc⟩ : ∃ c, cntW (hs.map (·.2)) la = c := ⟨_, rfl⟩
      rw [hcc]
      have HCC := Lib.hid hcc
      clear hcc
      go_wp2_with fail
      refine bodyPost_ret (results_tmp2 rfl _ _ _) rfl ?_
      exact ⟨by first | rfl | (rw [HNH.out, HCC.out]; rfl), HB.out.trans ((HB2.out.trans (HBr.out.mono HB2.out.size)).mono HB.out.size)⟩

/-- Are a set or chunks too great to be asked? -/
def great14 (wss css : List (List Int)) : Bool := greatP wss || decide (30 < css.length) || greatP css || decide (200 < css.flatten.length)
end Go.Proofs.YtbiinfnekhhfkaaGreat

/- Streams (layer 14): what the document says of us, he, r: walked. Printed by gen_eb.py and exp.py. -/





namespace Go.Proofs.YtbiinfnekhhfkaaGreat
open Go.RowKit Go.Sort
set_option linter.unusedVariables false
set_option linter.unusedSimpArgs false

theorem he_row (w W : World) (hW : W = (((w.alloc (.cells #[.int .u8 104, .int .u8 101] 5 (2, 3))).alloc (.cells #[.int .u8 115, .int .u8 104, .int .u8 101] 5 (3, 4))).alloc (.cells #[.int .u8 104, .int .u8 101, .int .u8 114] 5 (3, 4))).alloc
      (.cells #[.slice (some ⟨w.heap.size, 0, none⟩) 2 2, .slice (some ⟨w.heap.size + 1, 0, none⟩) 3 3, .slice (some ⟨w.heap.size + 1 + 1, 0, none⟩) 3 3] 25)) : Wds W (some ⟨w.heap.size + 1 + 1 + 1, 0, none⟩) 3 heW ∧ Below w.heap.size w W := by
  obtain ⟨A2, hA2⟩ : ∃ A2, A2 = w.alloc (.cells #[.int .u8 104, .int .u8 101] 5 (2, 3)) := ⟨_, rfl⟩
  rw [← hA2] at hW
  have z2 : A2.heap.size = w.heap.size + 1 := by rw [hA2]; simp
  have y1 : Bys A2 (some ⟨w.heap.size, 0, none⟩) 2 [104, 101] := by rw [hA2]; exact bys_lay [104, 101] (by simp) _ _ rfl
  have B2 : Below w.heap.size w A2 := by rw [hA2]; exact below_alloc _ _
  clear hA2
  obtain ⟨A3, hA3⟩ : ∃ A3, A3 = A2.alloc (.cells #[.int .u8 115, .int .u8 104, .int .u8 101] 5 (3, 4)) := ⟨_, rfl⟩
  rw [← hA3] at hW
  have z3 : A3.heap.size = w.heap.size + 1 + 1 := by rw [hA3]; simp [z2]
  have y2 : Bys A3 (some ⟨w.heap.size + 1, 0, none⟩) 3 [115, 104, 101] := by rw [hA3]; exact bys_lay [115, 104, 101] (by simp) _ _ z2
  have B3 : Below A2.heap.size A2 A3 := by rw [hA3]; exact below_alloc _ _
  clear hA3
  obtain ⟨A4, hA4⟩ : ∃ A4, A4 = A3.alloc (.cells #[.int .u8 104, .int .u8 101, .int .u8 114] 5 (3, 4)) := ⟨_, rfl⟩
  rw [← hA4] at hW
  have z4 : A4.heap.size = w.heap.size + 1 + 1 + 1 := by rw [hA4]; simp [z3]
  have y3 : Bys A4 (some ⟨w.heap.size + 1 + 1, 0, none⟩) 3 [104, 101, 114] := by rw [hA4]; exact bys_lay [104, 101, 114] (by simp) _ _ z3
  have B4 : Below A3.heap.size A3 A4 := by rw [hA4]; exact below_alloc _ _
  clear hA4
  have y4 : Sl1 (fun v : Option Addr × Nat × Nat => Value.slice v.1 v.2.1 v.2.2) W (some ⟨w.heap.size + 1 + 1 + 1, 0, none⟩) 3 [(some ⟨w.heap.size, 0, none⟩, 2, 2), (some ⟨w.heap.size + 1, 0, none⟩, 3, 3), (some ⟨w.heap.size + 1 + 1, 0, none⟩, 3, 3)] := by
    rw [hW]
    exact Sl1.lay (α := Option Addr × Nat × Nat) _ A4 [(some ⟨w.heap.size, 0, none⟩, 2, 2), (some ⟨w.heap.size + 1, 0, none⟩, 3, 3), (some ⟨w.heap.size + 1 + 1, 0, none⟩, 3, 3)] _ _ z4
  have B5 : Below A4.heap.size A4 W := by rw [hW]; exact below_alloc _ _
  exact ⟨wds3 y4 (((y1.below B3).below B4).below B5) ((y2.below B4).below B5) (y3.below B5) (Nat.le_refl _) (Nat.le_refl _) (Nat.le_refl _), B2.trans ((B3.trans ((B4.trans (B5.mono (by omega))).mono (by omega))).mono (by omega))⟩
theorem wds1 {w : World} {a : Option Addr} {v1 : Option Addr × Nat × Nat} {x1 : List Int} (h : Sl1 (fun v : Option Addr × Nat × Nat => Value.slice v.1 v.2.1 v.2.2) w a 1 [v1]) (h1 : Bys w v1.1 v1.2.1 x1) (c1 : v1.2.1 ≤ v1.2.2) : Wds w a 1 [x1] := by
  refine ⟨_, h, rfl, fun i v xs hv hx => ?_⟩
  match i with
  | 0 => simp at hv hx; subst hv hx; exact ⟨h1, c1⟩
  | n + 1 => simp at hv
theorem wds2 {w : World} {a : Option Addr} {v1 v2 : Option Addr × Nat × Nat} {x1 x2 : List Int} (h : Sl1 (fun v : Option Addr × Nat × Nat => Value.slice v.1 v.2.1 v.2.2) w a 2 [v1, v2]) (h1 : Bys w v1.1 v1.2.1 x1) (h2 : Bys w v2.1 v2.2.1 x2) (c1 : v1.2.1 ≤ v1.2.2) (c2 : v2.2.1 ≤ v2.2.2) : Wds w a 2 [x1, x2] := by
  refine ⟨_, h, rfl, fun i v xs hv hx => ?_⟩
  match i with
  | 0 => simp at hv hx; subst hv hx; exact ⟨h1, c1⟩
  | 1 => simp at hv hx; subst hv hx; exact ⟨h2, c2⟩
  | n + 2 => simp at hv
/-- One chunk that is written out. -/
theorem chunk1 (w : World) (xs : List Int) (hb : ∀ x ∈ xs, 0 ≤ x ∧ x ≤ 255) : Wds ((w.alloc (.cells (xs.map (Value.int .u8)).toArray 5 (xs.length, xs.length + 1))).alloc (.cells #[.slice (some ⟨w.heap.size, 0, none⟩) xs.length xs.length] 25)) (some ⟨w.heap.size + 1, 0, none⟩) 1 [xs] ∧
    Below w.heap.size w ((w.alloc (.cells (xs.map (Value.int .u8)).toArray 5 (xs.length, xs.length + 1))).alloc (.cells #[.slice (some ⟨w.heap.size, 0, none⟩) xs.length xs.length] 25)) := by
  have y1 := bys_lay (w := w) xs hb 5 (xs.length, xs.length + 1) rfl
  have B2 := below_alloc (w.alloc (.cells (xs.map (Value.int .u8)).toArray 5 (xs.length, xs.length + 1))) (.cells #[.slice (some ⟨w.heap.size, 0, none⟩) xs.length xs.length] 25)
  refine ⟨wds1 (v1 := (some ⟨w.heap.size, 0, none⟩, xs.length, xs.length)) ?_ (y1.below B2) (Nat.le_refl _), (below_alloc w _).trans (B2.mono (by simp))⟩
  exact Sl1.lay (α := Option Addr × Nat × Nat) _ _ [(some ⟨w.heap.size, 0, none⟩, xs.length, xs.length)] _ _ (by simp)
theorem he_fed1 : fdZ false heW 0 10 [117, 115] = 2 ∧ fdA heW 0 10 [117, 115] = 12 ∧ fdH false heW 0 10 [117, 115] = [] ∧ fdE heW 0 10 [117, 115] = 0 := by decide +kernel
theorem he_fed2 : fdZ false heW 2 12 [104, 101] = 6 ∧ fdA heW 2 12 [104, 101] = 14 ∧ fdH false heW 2 12 [104, 101] = [(14, 1), (14, 0)] ∧ fdE heW 2 12 [104, 101] = 0 := by decide +kernel
theorem he_fed3 : fdZ false heW 6 14 [114] = 5 ∧ fdA heW 6 14 [114] = 15 ∧ fdH false heW 6 14 [114] = [(15, 2)] ∧ fdE heW 6 14 [114] = 0 := by decide +kernel
theorem he_fed4 : fdH false heW 0 10 [117, 115, 104, 101, 114] = [(14, 1), (14, 0), (15, 2)] ∧ fdE heW 0 10 [117, 115, 104, 101, 114] = 0 := by decide +kernel
theorem he_fed5 : fdH false heW 0 10 [104, 101, 104, 101] = [(12, 0), (14, 0)] ∧ fdE heW 0 10 [104, 101, 104, 101] = 0 ∧ distN [0, 0] = 1 := by decide +kernel
theorem he_new : newA 10 = 10 ∧ newE 10 = 0 ∧ newA (-1) = 0 ∧ newE (-1) = 2 := by decide +kernel
theorem he_scr : scanR 7 5 15 = true ∧ scanR 7 7 0 = false := by decide +kernel
theorem he_i64 : ∀ (node : Int), ∀ v ∈ words13 heW node, I64 v := fun node => words13_i64 (by decide) (right_nodup he_right11).1 (fun y hy => ((right_spec he_right11).2.2.1 y hy).1) node

/-- What a machine of he, she, her is fed. -/
theorem he_feed {W0 V : World} {B : Nat} (hU : MUse W0 B false heW V) (z at_ : Int) (a : Option Addr) (n cn : Nat) (css : List (List Int)) (hC : Wds V a n css) (hn : n ≤ 10) (hl : ∀ x ∈ css, x.length ≤ 10) (hT : css.flatten.length ≤ 100) :
    Calls Tryz.prog 55 #[.pointer (some ⟨B, 0, none⟩), scV z at_, .slice a n cn] V fun e w' => ∃ (a1 : Option Addr) (c1 : Nat), e = .returned (.tuple #[scV (fdZ false heW z at_ css.flatten) (fdA heW z at_ css.flatten), .slice a1 (fdH false heW z at_ css.flatten).length c1, .int .i64 (fdE heW z at_ css.flatten)]) ∧
      Hts w' a1 (fdH false heW z at_ css.flatten).length (fdH false heW z at_ css.flatten) ∧ OwnH w' V.heap.size (.slice a1 (fdH false heW z at_ css.flatten).length c1) (fdH false heW z at_ css.flatten) ∧ Below V.heap.size V w' := by
  refine (feed14_uni (fold := false) (wss := heW) z at_ a n cn css V hU hC (by omega) (fun x hx => by have := hl x hx; omega) (by omega) (by rw [he_n11]; decide) he_i64).mono ?_
  rintro e w' ⟨v, rfl, ho, hb⟩
  obtain ⟨a1, c1, rfl, _, hs⟩ := ho.hts (fun h hh => (fdH_bd he_right11 z at_ _ h hh).1)
  exact ⟨a1, c1, rfl, hs, ho, hb⟩

theorem chunk2 (w : World) (xs ys : List Int) (hx : ∀ x ∈ xs, 0 ≤ x ∧ x ≤ 255) (hy : ∀ x ∈ ys, 0 ≤ x ∧ x ≤ 255) : Wds (((w.alloc (.cells (xs.map (Value.int .u8)).toArray 5 (xs.length, xs.length + 1))).alloc (.cells (ys.map (Value.int .u8)).toArray 5 (ys.length, ys.length + 1))).alloc (.cells #[.slice (some ⟨w.heap.size, 0, none⟩) xs.length xs.length, .slice (some ⟨w.heap.size + 1, 0, none⟩) ys.length ys.length] 25)) (some ⟨w.heap.size + 1 + 1, 0, none⟩) 2 [xs, ys] ∧
    Below w.heap.size w (((w.alloc (.cells (xs.map (Value.int .u8)).toArray 5 (xs.length, xs.length + 1))).alloc (.cells (ys.map (Value.int .u8)).toArray 5 (ys.length, ys.length + 1))).alloc (.cells #[.slice (some ⟨w.heap.size, 0, none⟩) xs.length xs.length, .slice (some ⟨w.heap.size + 1, 0, none⟩) ys.length ys.length] 25)) := by
  have y1 := bys_lay (w := w) xs hx 5 (xs.length, xs.length + 1) rfl
  obtain ⟨A, hA⟩ : ∃ X, X = w.alloc (.cells (xs.map (Value.int .u8)).toArray 5 (xs.length, xs.length + 1)) := ⟨_, rfl⟩
  have zA : A.heap.size = w.heap.size + 1 := by rw [hA]; simp
  have bA : Below w.heap.size w A := by rw [hA]; exact below_alloc _ _
  rw [← hA] at y1 ⊢
  have y2 := bys_lay (w := A) ys hy 5 (ys.length, ys.length + 1) zA
  obtain ⟨C, hC⟩ : ∃ X, X = A.alloc (.cells (ys.map (Value.int .u8)).toArray 5 (ys.length, ys.length + 1)) := ⟨_, rfl⟩
  have zC : C.heap.size = w.heap.size + 1 + 1 := by rw [hC]; simp [zA]
  have bC : Below A.heap.size A C := by rw [hC]; exact below_alloc _ _
  rw [← hC] at y2 ⊢
  have B2 := below_alloc C (.cells #[.slice (some ⟨w.heap.size, 0, none⟩) xs.length xs.length, .slice (some ⟨w.heap.size + 1, 0, none⟩) ys.length ys.length] 25)
  refine ⟨wds2 (v1 := (some ⟨w.heap.size, 0, none⟩, xs.length, xs.length)) (v2 := (some ⟨w.heap.size + 1, 0, none⟩, ys.length, ys.length)) ?_ ((y1.below bC).below B2) (y2.below B2) (Nat.le_refl _) (Nat.le_refl _), bA.trans ((bC.trans (B2.mono bC.size)).mono bA.size)⟩
  exact Sl1.lay (α := Option Addr × Nat × Nat) _ C [(some ⟨w.heap.size, 0, none⟩, xs.length, xs.length), (some ⟨w.heap.size + 1, 0, none⟩, ys.length, ys.length)] _ _ zC
theorem he_fedOK {W0 V : World} {B : Nat} (hU : MUse W0 B false heW V) (z at_ : Int) (a : Option Addr) (n cn : Nat) (css : List (List Int)) (hC : Wds V a n css) (hn : n ≤ 10) (hl : ∀ x ∈ css, x.length ≤ 10) (hT : css.flatten.length ≤ 100) : FedOK V (.pointer (some ⟨B, 0, none⟩)) z at_ a n cn (fdZ false heW z at_ css.flatten) (fdA heW z at_ css.flatten) (fdE heW z at_ css.flatten) (fdH false heW z at_ css.flatten) :=
  fun V2 hV => feed14_uni (fold := false) (wss := heW) z at_ a n cn css V2 (hU.below hV) (hC.below hV) (by omega) (fun x hx => by have := hl x hx; omega) (by omega) (by rw [he_n11]; decide) he_i64
theorem he_all {W0 V : World} {B : Nat} (hU : MUse W0 B false heW V) (a : Option Addr) (cn : Nat) (hC : Wds V a 2 [[117, 115], [104, 101, 114]]) :
    Calls Tryz.prog 63 #[.pointer (some ⟨B, 0, none⟩), .int .i64 10, .slice a 2 cn] V fun e w' => ∃ (a1 : Option Addr) (c1 : Nat), e = .returned (.tuple #[.slice a1 3 c1, .int .i64 0]) ∧ Hts w' a1 3 [(14, 1), (14, 0), (15, 2)] ∧ Below V.heap.size V w' := by
  have h := all14_run (.pointer (some ⟨B, 0, none⟩)) 10 a 2 cn _ _ _ _ V (fun _ => he_fedOK hU 0 10 a 2 cn _ hC (by decide) (by decide) (by decide))
  rw [show ([[117, 115], [104, 101, 114]] : List (List Int)).flatten = [117, 115, 104, 101, 114] from rfl, if_pos he_new.2.1, if_pos he_new.2.1, he_fed4.1, he_fed4.2] at h
  refine h.mono ?_
  rintro e w' ⟨v, rfl, ho, hb⟩
  obtain ⟨a1, c1, rfl, _, hs⟩ := ho.hts (by unfold I64; decide)
  exact ⟨a1, c1, rfl, hs, hb⟩
theorem he_count {W0 V : World} {B : Nat} (hU : MUse W0 B false heW V) (a : Option Addr) (cn : Nat) (hC : Wds V a 1 [[104, 101, 104, 101]]) :
    Calls Tryz.prog 59 #[.pointer (some ⟨B, 0, none⟩), scV 0 10, .slice a 1 cn] V fun e w' => e = .returned (.tuple #[.int .i64 2, .int .i64 1]) ∧ Below V.heap.size V w' := by
  have hf := he_fedOK hU 0 10 a 1 cn _ hC (by decide) (by decide) (by decide)
  rw [show ([[104, 101, 104, 101]] : List (List Int)).flatten = [104, 101, 104, 101] from rfl, he_fed5.1, he_fed5.2.1] at hf
  have h := count14_run (.pointer (some ⟨B, 0, none⟩)) 0 10 a 1 cn _ _ _ _ V hf (by decide) (by unfold I64; decide) (.inl rfl)
  rw [if_pos rfl, if_pos rfl, show ([(12, 0), (14, 0)] : List HitP).map (·.2) = [0, 0] from rfl, he_fed5.2.2] at h
  exact h
theorem eql_scan00 (W : World) : (binOp .eql 88 (.agg #[.int .i64 0, .int .i64 10]) (.agg #[.int .i64 0, .int .i64 10])).run Tryz.prog W = .ok (.bool true) W := by kernel_rfl

set_option maxRecDepth 100000 in
set_option maxHeartbeats 8000000 in
theorem wakes14 (w : World) : Calls Tryz.prog 54 #[] w fun e w' => e = .returned (.bool true) ∧ Below w.heap.size w w' := by
  have kc := conv_lit
  obtain ⟨W, hW⟩ : ∃ W, W = (((w.alloc (.cells #[.int .u8 104, .int .u8 101] 5 (2, 3))).alloc (.cells #[.int .u8 115, .int .u8 104, .int .u8 101] 5 (3, 4))).alloc (.cells #[.int .u8 104, .int .u8 101, .int .u8 114] 5 (3, 4))).alloc
      (.cells #[.slice (some ⟨w.heap.size, 0, none⟩) 2 2, .slice (some ⟨w.heap.size + 1, 0, none⟩) 3 3, .slice (some ⟨w.heap.size + 1 + 1, 0, none⟩) 3 3] 25) := ⟨_, rfl⟩
  obtain ⟨hA, hB⟩ := he_row w W hW
  have HM := compile13_use false (some ⟨w.heap.size + 1 + 1 + 1, 0, none⟩) 3 3 heW W hA (by decide) he_len he_beg he_right11
  have HB := Lib.hid hB
  rw [hW] at HM
  have HM := Lib.hid HM
  have HWW := Lib.hid hW
  clear hA hB hW
  go_enter Tryz.func54, Tryz.ntmps54
  go_upto_region 2 with (go_at_call 17; refine HM.out.mono ?_; rintro e w1 ⟨B, rfl, hU⟩)
  rw [← HWW.out] at hU
  have hB1 : RowKit.Below w.heap.size w w1 := HB.out.trans (hU.bel.mono HB.out.size)
  have HU1 : Hid (∀ V, RowKit.Below w1.heap.size w1 V → MUse W B false heW V ∧ RowKit.Below w.heap.size w V) := fun V hV => ⟨hU.below hV, hB1.trans (hV.mono hB1.size)⟩
  clear hU hB1 HM HB HWW kc
  have HN2 := Lib.hid (new14_any 10 w1)
  rw [he_new.1, he_new.2.1] at HN2
  go_upto_region 3 with (go_at_call 61; refine HN2.out.mono ?_; rintro e w2 ⟨rfl, hb2⟩)
  obtain ⟨V2, hV2⟩ : ∃ X, X = w2.alloc (.cells #[.int .i64 0, .int .i64 10] 88) := ⟨_, rfl⟩
  have hb12 : RowKit.Below w1.heap.size w1 V2 := by rw [hV2]; exact hb2.alloc hb2.size _
  have hO3 : V2.heap[w2.heap.size]? = some (.cells #[.int .i64 0, .int .i64 10] 88 (0, 0)) := by rw [hV2]; exact World.alloc_heap_new _ _
  rw [← hV2]
  obtain ⟨b3, hb3⟩ : ∃ b, w2.heap.size = b := ⟨_, rfl⟩
  rw [hb3] at hO3 ⊢
  have K3 : Hid (∀ V, RowKit.Below V2.heap.size V2 V → V.cell? ⟨b3, 0, none⟩ = some (.int .i64 0) ∧ V.cell? ⟨b3, 1, none⟩ = some (.int .i64 10) ∧ b3 < V.heap.size) := fun V hV => by
    have h := (hV.block b3 (Array.getElem?_eq_some_iff.1 hO3).1).trans hO3
    exact ⟨by simp [World.cell?, h], by simp [World.cell?, h], (Array.getElem?_eq_some_iff.1 h).1⟩
  clear hV2 hb2 hb3 hO3 HN2
  have HN3 := Lib.hid (new14_any (-1) V2)
  rw [he_new.2.2.1, he_new.2.2.2] at HN3
  go_upto_region 4 with (go_at_call 61; refine HN3.out.mono ?_; rintro e w3 ⟨rfl, hb3⟩)
  have hb23 : RowKit.Below V2.heap.size V2 (w3.alloc (.cells #[.int .i64 0, .int .i64 0] 88)) := hb3.alloc hb3.size _
  obtain ⟨V3, hV3⟩ : ∃ X, X = w3.alloc (.cells #[.int .i64 0, .int .i64 0] 88) := ⟨_, rfl⟩
  rw [← hV3] at hb23 ⊢
  clear hV3 hb3 HN3

  have HB23 := Lib.hid hb23
  have HB12 := Lib.hid hb12
  have KU : Hid (∀ V, RowKit.Below V3.heap.size V3 V → MUse W B false heW V ∧ RowKit.Below w.heap.size w V ∧ V.cell? ⟨b3, 0, none⟩ = some (.int .i64 0) ∧ V.cell? ⟨b3, 1, none⟩ = some (.int .i64 10) ∧ b3 < V.heap.size) := fun V hV => by
    have h2 := HB23.out.trans (hV.mono HB23.out.size)
    obtain ⟨h3, h4⟩ := HU1.out V (HB12.out.trans (h2.mono HB12.out.size))
    exact ⟨h3, h4, K3.out V h2⟩
  have hv3 : RowKit.Below V3.heap.size V3 V3 := Below.refl _ _
  clear hb23 hb12 K3 HU1 HB23 HB12
  have kc := conv_lit
  obtain ⟨A, hA⟩ : ∃ X, X = (V3.alloc (.cells #[.int .u8 117, .int .u8 115] 5 (2, 3))).alloc (.cells #[.slice (some ⟨V3.heap.size, 0, none⟩) 2 2] 25) := ⟨_, rfl⟩
  have hc : Wds A (some ⟨V3.heap.size + 1, 0, none⟩) 1 [[117, 115]] ∧ RowKit.Below V3.heap.size V3 A := by rw [hA]; exact chunk1 V3 [117, 115] (by decide)
  obtain ⟨hc, hbA⟩ := hc
  have hbA3 := hv3.trans (hbA.mono hv3.size)
  have HF := he_feed (KU.out A hbA3).1 0 10 _ 1 1 [[117, 115]] hc (by decide) (by decide) (by decide)
  rw [show ([[117, 115]] : List (List Int)).flatten = [117, 115] from rfl, he_fed1.1, he_fed1.2.1, he_fed1.2.2.1, he_fed1.2.2.2] at HF
  rw [hA] at HF
  have HF := Lib.hid HF
  have HA := Lib.hid hA
  obtain ⟨q0, q1, q2, q3, q4⟩ := KU.out V3 hv3
  clear hc hA
  go_upto_region 5 with (go_at_call 55; refine HF.out.mono ?_; rintro e u3 ⟨a3, c3, rfl, hs3, ho3, hb3⟩)
  rw [← HA.out] at hb3
  have hbu := hbA3.trans (hb3.mono hbA3.size)
  obtain ⟨V4, hV⟩ : ∃ X, X = u3.alloc (.cells #[.int .i64 2, .int .i64 12] 88) := ⟨_, rfl⟩
  have hv4 : RowKit.Below V3.heap.size V3 V4 := by rw [hV]; exact hbu.alloc hbu.size _
  have hbb : RowKit.Below u3.heap.size u3 V4 := by rw [hV]; exact below_alloc _ _
  have hBX : V4.heap[u3.heap.size]? = some (.cells #[.int .i64 2, .int .i64 12] 88 (0, 0)) := by rw [hV]; exact World.alloc_heap_new _ _
  rw [← hV]
  have HS3 := Lib.hid (hs3.below hbb)
  obtain ⟨x3, hx⟩ : ∃ b, u3.heap.size = b := ⟨_, rfl⟩
  rw [hx] at hBX ⊢
  have X3 : Hid (∀ V, RowKit.Below V4.heap.size V4 V → V.cell? ⟨x3, 0, none⟩ = some (.int .i64 2) ∧ V.cell? ⟨x3, 1, none⟩ = some (.int .i64 12) ∧ x3 < V.heap.size) := fun V hV => by
    have h := (hV.block x3 (Array.getElem?_eq_some_iff.1 hBX).1).trans hBX
    exact ⟨by simp [World.cell?, h], by simp [World.cell?, h], (Array.getElem?_eq_some_iff.1 h).1⟩
  have hvv : Hid (RowKit.Below V3.heap.size V3 V4) := hbA.trans ((hb3.trans (hbb.mono hb3.size)).mono hbA.size)
  have HV3 := hvv
  clear hV hx hBX hbb hbu hs3 ho3 hb3 hbA hbA3 HF HA kc hvv
  clear q0 q1 q2 q3 q4
  have kc := conv_lit
  obtain ⟨A, hA⟩ : ∃ X, X = (V4.alloc (.cells #[.int .u8 104, .int .u8 101] 5 (2, 3))).alloc (.cells #[.slice (some ⟨V4.heap.size, 0, none⟩) 2 2] 25) := ⟨_, rfl⟩
  have hc : Wds A (some ⟨V4.heap.size + 1, 0, none⟩) 1 [[104, 101]] ∧ RowKit.Below V4.heap.size V4 A := by rw [hA]; exact chunk1 V4 [104, 101] (by decide)
  obtain ⟨hc, hbA⟩ := hc
  have hbA3 := hv4.trans (hbA.mono hv4.size)
  have HF := he_feed (KU.out A hbA3).1 2 12 _ 1 1 [[104, 101]] hc (by decide) (by decide) (by decide)
  rw [show ([[104, 101]] : List (List Int)).flatten = [104, 101] from rfl, he_fed2.1, he_fed2.2.1, he_fed2.2.2.1, he_fed2.2.2.2] at HF
  rw [hA] at HF
  have HF := Lib.hid HF
  have HA := Lib.hid hA
  obtain ⟨q0, q1, q2⟩ := X3.out V4 (Below.refl _ _)
  clear hc hA
  go_upto_region 6 with (go_at_call 55; refine HF.out.mono ?_; rintro e u4 ⟨a4, c4, rfl, hs4, ho4, hb4⟩)
  rw [← HA.out] at hb4
  have hbu := hbA3.trans (hb4.mono hbA3.size)
  obtain ⟨V5, hV⟩ : ∃ X, X = u4.alloc (.cells #[.int .i64 6, .int .i64 14] 88) := ⟨_, rfl⟩
  have hv5 : RowKit.Below V3.heap.size V3 V5 := by rw [hV]; exact hbu.alloc hbu.size _
  have hbb : RowKit.Below u4.heap.size u4 V5 := by rw [hV]; exact below_alloc _ _
  have hBX : V5.heap[u4.heap.size]? = some (.cells #[.int .i64 6, .int .i64 14] 88 (0, 0)) := by rw [hV]; exact World.alloc_heap_new _ _
  rw [← hV]
  have HS4 := Lib.hid (hs4.below hbb)
  obtain ⟨x4, hx⟩ : ∃ b, u4.heap.size = b := ⟨_, rfl⟩
  rw [hx] at hBX ⊢
  have X4 : Hid (∀ V, RowKit.Below V5.heap.size V5 V → V.cell? ⟨x4, 0, none⟩ = some (.int .i64 6) ∧ V.cell? ⟨x4, 1, none⟩ = some (.int .i64 14) ∧ x4 < V.heap.size) := fun V hV => by
    have h := (hV.block x4 (Array.getElem?_eq_some_iff.1 hBX).1).trans hBX
    exact ⟨by simp [World.cell?, h], by simp [World.cell?, h], (Array.getElem?_eq_some_iff.1 h).1⟩
  have hvv : Hid (RowKit.Below V4.heap.size V4 V5) := hbA.trans ((hb4.trans (hbb.mono hb4.size)).mono hbA.size)
  have HV4 := hvv
  clear hV hx hBX hbb hbu hs4 ho4 hb4 hbA hbA3 HF HA kc hvv
  clear q0 q1 q2
  have kc := conv_lit
  obtain ⟨A, hA⟩ : ∃ X, X = (V5.alloc (.cells #[.int .u8 114] 5 (1, 2))).alloc (.cells #[.slice (some ⟨V5.heap.size, 0, none⟩) 1 1] 25) := ⟨_, rfl⟩
  have hc : Wds A (some ⟨V5.heap.size + 1, 0, none⟩) 1 [[114]] ∧ RowKit.Below V5.heap.size V5 A := by rw [hA]; exact chunk1 V5 [114] (by decide)
  obtain ⟨hc, hbA⟩ := hc
  have hbA3 := hv5.trans (hbA.mono hv5.size)
  have HF := he_feed (KU.out A hbA3).1 6 14 _ 1 1 [[114]] hc (by decide) (by decide) (by decide)
  rw [show ([[114]] : List (List Int)).flatten = [114] from rfl, he_fed3.1, he_fed3.2.1, he_fed3.2.2.1, he_fed3.2.2.2] at HF
  rw [hA] at HF
  have HF := Lib.hid HF
  have HA := Lib.hid hA
  obtain ⟨q0, q1, q2⟩ := X4.out V5 (Below.refl _ _)
  clear hc hA
  go_upto_region 7 with (go_at_call 55; refine HF.out.mono ?_; rintro e u5 ⟨a5, c5, rfl, hs5, ho5, hb5⟩)
  rw [← HA.out] at hb5
  have hbu := hbA3.trans (hb5.mono hbA3.size)
  obtain ⟨V6, hV⟩ : ∃ X, X = u5.alloc (.cells #[.int .i64 5, .int .i64 15] 88) := ⟨_, rfl⟩
  have hv6 : RowKit.Below V3.heap.size V3 V6 := by rw [hV]; exact hbu.alloc hbu.size _
  have hbb : RowKit.Below u5.heap.size u5 V6 := by rw [hV]; exact below_alloc _ _
  have hBX : V6.heap[u5.heap.size]? = some (.cells #[.int .i64 5, .int .i64 15] 88 (0, 0)) := by rw [hV]; exact World.alloc_heap_new _ _
  rw [← hV]
  have HS5 := Lib.hid (hs5.below hbb)
  obtain ⟨x5, hx⟩ : ∃ b, u5.heap.size = b := ⟨_, rfl⟩
  rw [hx] at hBX ⊢
  have X5 : Hid (∀ V, RowKit.Below V6.heap.size V6 V → V.cell? ⟨x5, 0, none⟩ = some (.int .i64 5) ∧ V.cell? ⟨x5, 1, none⟩ = some (.int .i64 15) ∧ x5 < V.heap.size) := fun V hV => by
    have h := (hV.block x5 (Array.getElem?_eq_some_iff.1 hBX).1).trans hBX
    exact ⟨by simp [World.cell?, h], by simp [World.cell?, h], (Array.getElem?_eq_some_iff.1 h).1⟩
  have hvv : Hid (RowKit.Below V5.heap.size V5 V6) := hbA.trans ((hb5.trans (hbb.mono hb5.size)).mono hbA.size)
  have HV5 := hvv
  clear hV hx hBX hbb hbu hs5 ho5 hb5 hbA hbA3 HF HA kc hvv
  clear q0 q1 q2
  have kc := conv_lit
  obtain ⟨A, hA⟩ : ∃ X, X = ((V6.alloc (.cells #[.int .u8 117, .int .u8 115] 5 (2, 3))).alloc (.cells #[.int .u8 104, .int .u8 101, .int .u8 114] 5 (3, 4))).alloc (.cells #[.slice (some ⟨V6.heap.size, 0, none⟩) 2 2, .slice (some ⟨V6.heap.size + 1, 0, none⟩) 3 3] 25) := ⟨_, rfl⟩
  have hc : Wds A (some ⟨V6.heap.size + 1 + 1, 0, none⟩) 2 [[117, 115], [104, 101, 114]] ∧ RowKit.Below V6.heap.size V6 A := by rw [hA]; exact chunk2 V6 [117, 115] [104, 101, 114] (by decide) (by decide)
  obtain ⟨hc, hbA⟩ := hc
  have hbA3 := hv6.trans (hbA.mono hv6.size)
  have HF := he_all (KU.out A hbA3).1 _ 2 hc
  rw [hA] at HF
  have HF := Lib.hid HF
  have HA := Lib.hid hA
  clear hc hA
  go_upto_region 8 with (go_at_call 63; refine HF.out.mono ?_; rintro e V7 ⟨a7, c7, rfl, hs7, hb7⟩)
  rw [← HA.out] at hb7
  have hv7 := hbA3.trans (hb7.mono hbA3.size)
  have HV6 : Hid (RowKit.Below V6.heap.size V6 V7) := hbA.trans (hb7.mono hbA.size)
  have HS7 := Lib.hid hs7
  clear hbA hbA3 hb7 HF HA kc hs7
  have kc := conv_lit
  obtain ⟨A, hA⟩ : ∃ X, X = (V7.alloc (.cells #[.int .u8 104, .int .u8 101, .int .u8 104, .int .u8 101] 5 (4, 5))).alloc (.cells #[.slice (some ⟨V7.heap.size, 0, none⟩) 4 4] 25) := ⟨_, rfl⟩
  have hc : Wds A (some ⟨V7.heap.size + 1, 0, none⟩) 1 [[104, 101, 104, 101]] ∧ RowKit.Below V7.heap.size V7 A := by rw [hA]; exact chunk1 V7 [104, 101, 104, 101] (by decide)
  obtain ⟨hc, hbA⟩ := hc
  have hbA3 := hv7.trans (hbA.mono hv7.size)
  have HF := he_count (KU.out A hbA3).1 _ 1 hc
  rw [hA] at HF
  have HF := Lib.hid HF
  have HA := Lib.hid hA
  obtain ⟨_, _, q2, q3, q4⟩ := KU.out V7 hv7
  clear hc hA
  go_upto_region 9 with (go_at_call 59; refine HF.out.mono ?_; rintro e V8 ⟨rfl, hb8⟩)
  rw [← HA.out] at hb8
  have hv8 := hbA3.trans (hb8.mono hbA3.size)
  have HV7 : Hid (RowKit.Below V7.heap.size V7 V8) := hbA.trans (hb8.mono hbA.size)
  clear hbA hbA3 hb8 HF HA kc q2 q3 q4
  obtain ⟨_, _, q2, q3, q4⟩ := KU.out V8 hv8
  have HF := Lib.hid (feed14_nil 0 10 none 0 0 V8)
  go_upto_region 10 with (go_at_call 55; refine HF.out.mono ?_; rintro e u9 ⟨rfl, hb9⟩)
  obtain ⟨V9, hV9⟩ : ∃ X, X = u9.alloc (.cells #[.int .i64 0, .int .i64 10] 88) := ⟨_, rfl⟩
  have hb89 : RowKit.Below V8.heap.size V8 V9 := by rw [hV9]; exact hb9.alloc hb9.size _
  rw [← hV9]
  have hv9 := hv8.trans (hb89.mono hv8.size)
  have h79 := HV7.out.trans (hb89.mono HV7.out.size)
  have h69 := HV6.out.trans (h79.mono HV6.out.size)
  have h59 := HV5.out.trans (h69.mono HV5.out.size)
  clear hV9 hb9 hb89 HF q2 q3 q4
  go_upto_region 12 with fail
  have HP := Lib.hid (HS4.out.below h59)
  have HQ := Lib.hid (HS5.out.below h69)
  have HR := Lib.hid (HS7.out.below h79)
  have HX5 := Lib.hid (fun V (hV : RowKit.Below V9.heap.size V9 V) => X5.out V (h69.trans (hV.mono h69.size)))
  have HK := Lib.hid (fun V (hV : RowKit.Below V9.heap.size V9 V) => KU.out V (hv9.trans (hV.mono hv9.size)))
  clear h59 h69 h79 hv9 hv8 hv7 hv6 hv5 hv4 hv3 HV3 HV4 HV5 HV6 HV7 HS3 HS4 HS5 HS7 X3 X4 X5 KU
  obtain ⟨pb, po, rfl, _, hpc⟩ := HP.out.1.2.resolve_left (by decide)
  obtain ⟨qb, qo, rfl, _, hqc⟩ := HQ.out.1.2.resolve_left (by decide)
  obtain ⟨rb, ro, rfl, _, hrc⟩ := HR.out.1.2.resolve_left (by decide)
  have HCC : Hid (∀ V, RowKit.Below V9.heap.size V9 V → V.cell? ⟨pb, po, none⟩ = some (.int .i64 14) ∧ V.cell? ⟨pb, po + 1, none⟩ = some (.int .i64 1) ∧ V.cell? ⟨pb, po + 2, none⟩ = some (.int .i64 14) ∧ V.cell? ⟨pb, po + 2 + 1, none⟩ = some (.int .i64 0) ∧ V.cell? ⟨qb, qo, none⟩ = some (.int .i64 15) ∧ V.cell? ⟨qb, qo + 1, none⟩ = some (.int .i64 2) ∧
      V.cell? ⟨rb, ro + 4, none⟩ = some (.int .i64 15) ∧ V.cell? ⟨rb, ro + 4 + 1, none⟩ = some (.int .i64 2)) := fun V hV => by
    have f1 := (HP.out.below hV).1.2.resolve_left (by decide)
    have f2 := (HQ.out.below hV).1.2.resolve_left (by decide)
    have f3 := (HR.out.below hV).1.2.resolve_left (by decide)
    obtain ⟨_, _, e1, _, g1⟩ := f1
    obtain ⟨_, _, e2, _, g2⟩ := f2
    obtain ⟨_, _, e3, _, g3⟩ := f3
    cases e1
    cases e2
    cases e3
    exact ⟨g1 0 _ rfl, g1 1 _ rfl, g1 2 _ rfl, g1 3 _ rfl, g2 0 _ rfl, g2 1 _ rfl, g3 4 _ rfl, g3 5 _ rfl⟩
  have k1 : ∀ W, (binOp .eql 61 (.agg #[.int .i64 14, .int .i64 1]) (.agg #[.int .i64 14, .int .i64 1])).run Tryz.prog W = .ok (.bool true) W := fun W => eql_hit (14, 1) (14, 1) W
  have k2 : ∀ W, (binOp .eql 61 (.agg #[.int .i64 14, .int .i64 0]) (.agg #[.int .i64 14, .int .i64 0])).run Tryz.prog W = .ok (.bool true) W := fun W => eql_hit (14, 0) (14, 0) W
  have k3 : ∀ W, (binOp .eql 61 (.agg #[.int .i64 15, .int .i64 2]) (.agg #[.int .i64 15, .int .i64 2])).run Tryz.prog W = .ok (.bool true) W := fun W => eql_hit (15, 2) (15, 2) W
  clear hpc hqc hrc
  refine wp_region_noPanic ?_
  refine wp_region_held_drew (S := RowKit.Below V9.heap.size V9) (by kernel_rfl) (bel_drewN V9 1) (fun hS => ?_)
  obtain ⟨w10, hw10⟩ : ∃ X, X = V9.drew := ⟨_, rfl⟩
  rw [← hw10] at hS ⊢
  clear hw10
  change wpAnyH _ _ _ _ _ 29 _ _ _
  iterate 29 (refine tkF 28 (v := ?_) ?_ ?_; rotate_left; (· intro V hV; obtain ⟨q0, q1, q2, q3, q4, q5, q6, q7⟩ := HCC.out V hV; first | (go_simp; done) | (go_simp; with_reducible rfl)); try simp only [Act.put, pA, pB, pC])
  refine wpAnyH_done (by kernel_rfl) ?_ _
  refine NoPanic.normal ?_
  clear k1 k2 k3 HP HQ HR HCC
  have k4 := eql_scan00
  have H1 := right14_any 5 15 w10 (HK.out w10 hS).1
  rw [he_n11, he_scr.1] at H1
  have H1 := Lib.hid H1
  obtain ⟨_, _, q2, q3, q4⟩ := HK.out w10 hS
  obtain ⟨x0, x1, x2⟩ := HX5.out w10 hS
  go_wp2_with fail
  refine H1.out.mono ?_
  rintro e w11 ⟨rfl, hb11⟩
  have hS11 := hS.trans (hb11.mono hS.size)
  clear q2 q3 q4 x0 x1 x2 H1
  have H2 := right14_any 7 0 w11 (HK.out w11 hS11).1
  rw [he_n11, he_scr.2] at H2
  have H2 := Lib.hid H2
  go_wp2_with fail
  refine H2.out.mono ?_
  rintro e w12 ⟨rfl, hb12⟩
  have hS12 := hS11.trans (hb12.mono hS11.size)
  obtain ⟨_, _, q2, q3, q4⟩ := HK.out w12 hS12
  go_wp2_with fail
  refine (right14_nil 0 10 w12).mono ?_
  rintro e w13 ⟨rfl, hb13⟩
  go_wp2
  go_ret
  exact ⟨rfl, (HK.out w13 (hS12.trans (hb13.mono hS12.size))).2.1⟩
end Go.Proofs.YtbiinfnekhhfkaaGreat
