/- Parts of the proof, one behind the other: E9, E7, EA, EB, EC, Q1, Q2, Q4, Q5. No condition but what each theorem states. -/
import Derived.Test.YtbldfgaogmfoaaaGreatZP4
import Derived.Test.YtbldfgaogmfoaaaGreatZP5
import Derived.Test.YtbldfgaogmfoaaaGreatZP11
import Derived.Test.YtbldfgaogmfoaaaGreatZP13
import Derived.Test.YtbldfgaogmfoaaaGreatZP14
set_option linter.unusedVariables false
set_option linter.unusedSimpArgs false

/- Streams (layer 14): the document's Feed; walked. Printed by exp.py. -/

namespace Go.Proofs.YtbldfgaogmfoaaaGreat
open Go.RowKit Go.Sort

theorem spB_trie {fold : Bool} {wss : List (List Int)} (hr : rightP fold wss = true) {z : Nat} {x : List Int} (hx : (nodesL wss)[z]? = some x) : spB (trieP wss) (z : Int) = x := by
 have hrd : readP (trieP wss) = some (nodesL wss, wss) := readP_iff.2 ⟨right_false hr, rfl, rfl⟩
 have e : spellT (trieP wss) (z : Int) = some x := by
  unfold spellT
  simp only [hrd]
  rw [if_neg (by omega), Int.toNat_natCast, hx]
 unfold spB
 rw [e]
 rfl
theorem deep_feed {fold : Bool} {wss : List (List Int)} (hr : rightP fold wss = true) {z : Nat} {x : List Int} (hx : (nodesL wss)[z]? = some x) (F : List Int) : (deepT (trieP wss) (foldL fold (x ++ F))).1 = (feedZ fold wss z F : Int) := by
 have hrd : readP (trieP wss) = some (nodesL wss, wss) := readP_iff.2 ⟨right_false hr, rfl, rfl⟩
 have e : foldL fold (x ++ F) = x ++ foldL fold F := by
  have := node_fold (right_nodup hr).2 (List.mem_of_getElem? hx)
  conv => rhs; rw [← this]
  simp only [foldL_map, List.map_append]
 unfold deepT
 simp only [hrd]
 rw [e]
 exact nodeI_at (feedZ_at hx F)
theorem nodeL_len {wss : List (List Int)} {k : Nat} (hM : ∀ x ∈ wss, x.length ≤ k) {x : List Int} (hx : x ∈ nodesL wss) : x.length ≤ k := by
 rcases (mem_nodesL wss).1 hx with rfl | ⟨w, hw, n, _, hn, rfl⟩
 · simp
 ·
  rw [List.length_take]
  have := hM w hw
  omega

theorem occ_bd14 {fold : Bool} {wss : List (List Int)} {text : List Int} : ∀ h ∈ occD fold wss 0 text, (0 ≤ h.1 ∧ h.1 ≤ (text.length : Int)) ∧ 0 ≤ h.2 ∧ h.2 < (wss.length : Int) := by
 intro h hh
 obtain ⟨p, k, h1, h2, _, rfl⟩ := mem_occTo.1 hh
 dsimp only
 omega

/-- What the document takes of all hits. -/
def keepH (k : Int) (at_ : Int) (l : List HitP) : List HitP := (l.filter (fun h => decide (k < h.1))).map fun h => (h.1 - k + at_, h.2)
theorem keepH_step {k at_ : Int} {l : List HitP} {i : Nat} {h : HitP} (hh : l[i]? = some h) : keepH k at_ (l.take (i + 1)) = keepH k at_ (l.take i) ++ (if k < h.1 then [(h.1 - k + at_, h.2)] else []) := by
 unfold keepH
 rw [take_step hh, List.filter_append, List.map_append]
 congr 1
 by_cases hc : k < h.1
 · simp [hc]
 · simp [hc]
theorem keepH_len (k at_ : Int) (l : List HitP) : (keepH k at_ l).length ≤ l.length := by
 unfold keepH
 rw [List.length_map]
 exact List.length_filter_le _ _

set_option maxRecDepth 100000 in
set_option maxHeartbeats 16000000 in
theorem rfeed14_yes (fold : Bool) (a : Option Addr) (la ca : Nat) (z : Nat) (at_ : Int) (b : Option Addr) (n cn : Nat) (css wss : List (List Int)) (w : World) (hA : Wds w a la wss) (hC : Wds w b n css) (hla : la ≤ 1000) (hM : ∀ x ∈ wss, x.length ≤ 1000000) (hn : n ≤ 1000000) (hT : css.flatten.length ≤ 900000)
    (hr : rightP fold wss = true) (hz : z < (nodesL wss).length) (hat : 0 ≤ at_) (hle : at_ + css.flatten.length ≤ 4611686020574871551) :
    Calls Tryz.prog 72 #[.agg (setV fold a la ca), scV (z : Int) at_, .slice b n cn] w fun e w' => ∃ v, e = .returned (.tuple #[scV (feedZ fold wss z css.flatten : Nat) (at_ + css.flatten.length), v, .int .i64 0]) ∧ OwnH w' w.heap.size v (scanH fold wss z at_ css.flatten) ∧ Below w.heap.size w w' := by
  obtain ⟨i0, hi, hz0, hz1, hz2⟩ := info_parts hit_info
  obtain ⟨iU, hj, hy0, hy1, hy2⟩ := info_parts u8_info
  obtain ⟨x, hx⟩ : ∃ x, (nodesL wss)[z]? = some x := ⟨_, List.getElem?_eq_getElem hz⟩
  obtain ⟨hnd, hfo⟩ := right_nodup hr
  have h0 : ∀ y ∈ wss, y.length ≠ 0 := fun y hy => ((right_spec hr).2.2.1 y hy).1
  have hx32 : x.length ≤ 32 := nodeL_len (fun y hy => ((right_spec hr).2.2.1 y hy).2) (List.mem_of_getElem? hx)
  have hn4 : (nodesL wss).length ≤ 400 := read_n (readP_iff.2 ⟨right_false hr, rfl, rfl⟩)
  have hsB := spB_trie hr hx
  have hdf := deep_feed hr hx css.flatten
  have hsd := scan_doc (fold := fold) hnd h0 hfo hx at_ css.flatten
  have hla80 : wss.length ≤ 64 := (right_spec hr).1
  have hWl := hA.len
  obtain ⟨W, hW⟩ : ∃ W, W = ((w.alloc (.cells (setV fold a la ca) 24)).alloc (.cells #[.int .i64 (z : Int), .int .i64 at_] 129)).alloc (.cells #[.int .i64 0, .int .i64 0] 129) := ⟨_, rfl⟩
  have hB : Below w.heap.size w W := by rw [hW]; exact (((Below.refl _ _).alloc (Nat.le_refl _) _).alloc (by simp) _).alloc (by simp; omega) _
  have hO : Bx w.heap.size [.cells (setV fold a la ca) 24, .cells #[.int .i64 (z : Int), .int .i64 at_] 129, .cells #[.int .i64 0, .int .i64 0] 129] W := by rw [hW]; exact (((Bx.nil _ w).snoc _ rfl).snoc _ (by simp)).snoc _ (by simp)
  have hlW : w.heap.size + 1 + 1 < W.heap.size := by rw [hW]; simp
  have HO : Hid (∀ V, RowKit.Below W.heap.size W V → V.cell? ⟨w.heap.size, 0, none⟩ = some (.bool fold) ∧ V.cell? ⟨w.heap.size, 1, none⟩ = some (.slice a la ca) ∧ V.cell? ⟨w.heap.size + 1, 0, none⟩ = some (.int .i64 (z : Int)) ∧ V.cell? ⟨w.heap.size + 1, 1, none⟩ = some (.int .i64 at_) ∧
      V.heap[w.heap.size + 1 + 1]? = some (.cells #[.int .i64 0, .int .i64 0] 129 (0, 0)) ∧ w.heap.size + 1 + 1 < V.heap.size) := fun V hV => by
    have h := hO.below hV
    exact ⟨h.cell (i := 0) rfl rfl, h.cell (i := 0) rfl rfl, h.cell (i := 1) rfl rfl, h.cell (i := 1) rfl rfl, h 2 _ rfl, Nat.lt_of_lt_of_le hlW hV.size⟩
  have HJ := Lib.hid (join03_any b n cn css W (hC.below hB) hn (by omega))
  have hsR : scanR (nodesL wss).length (z : Int) at_ = true := by unfold scanR; simp; omega
  have HR := Lib.hid (fun V (hV : RowKit.Below W.heap.size W V) => rright14_any fold a la ca (z : Int) at_ wss V ((hA.below hB).below hV) (by omega) hM)
  rw [hr, hsR] at HR
  have HMK := Lib.hid (fun V (hV : RowKit.Below W.heap.size W V) => rmake7_yes fold a la ca wss V ((hA.below hB).below hV) hr)
  have HSP := Lib.hid (fun (t : TV) V (hT : Tri V t (trieP wss)) => rspell_uni t (trieP wss) (z : Int) V hT (bd4_trie hT hn4))
  rw [hsB] at HSP
  have HOC := Lib.hid (fun V (hV : RowKit.Below W.heap.size W V) (b : Option Addr) (lb cb : Nat) (text : List Int) (hL : Bys V b lb text) (hlb : lb ≤ 1000000) (hcb : lb ≤ cb) => rocc_yes fold a b la ca lb cb 0 text wss V ((hA.below hB).below hV) hL (by omega) hlb hcb hM (by unfold mayP; rw [hr]; decide))
  have HDP := Lib.hid (fun (t : TV) V (hT : Tri V t (trieP wss)) (b : Option Addr) (lb cb : Nat) (text : List Int) (hL : Bys V b lb text) (hlb : lb ≤ 1000000) (hcb : lb ≤ cb) => rdeep8_any t (trieP wss) b lb cb text V hT (bd4_trie hT hn4) hL hlb hcb)
  obtain ⟨F, hFe⟩ : ∃ F, css.flatten = F := ⟨_, rfl⟩
  rw [hFe] at HJ hT hle hdf hsd
  have hOl : (occD fold wss 0 (x ++ F)).length ≤ 1000033 * 64 := by
    have h1 := occTo_le fold wss 0 (x ++ F) ((x ++ F).length + 1)
    have h2 : (occD fold wss 0 (x ++ F)).length ≤ ((x ++ F).length + 1) * wss.length := h1
    have h3 : ((x ++ F).length + 1) * wss.length ≤ 1000033 * 64 := Nat.mul_le_mul (by rw [List.length_append]; omega) hla80
    omega
  have HOCI : Hid (∀ h ∈ occD fold wss 0 (x ++ F), (0 ≤ h.1 ∧ h.1 ≤ 2000000) ∧ 0 ≤ h.2 ∧ h.2 ≤ 1000000) := fun h hh => by
    have h1 := occ_bd14 h hh
    rw [List.length_append] at h1
    omega
  obtain ⟨hh, hhe⟩ : ∃ hh, scanH fold wss z at_ F = hh := ⟨_, rfl⟩
  obtain ⟨zf, hzf⟩ : ∃ zf : Nat, feedZ fold wss z F = zf := ⟨_, rfl⟩
  rw [hzf] at hdf
  rw [hhe] at hsd
  have HFE := Lib.hid hFe
  have HHE := Lib.hid hhe
  have HZF := Lib.hid hzf
  have HDF := Lib.hid hdf
  have HSD : Hid (hh = keepH (x.length : Int) at_ (occD fold wss 0 (x ++ F))) := hsd
  have HB := Lib.hid hB
  clear hA hC hB hO hr hnd hfo h0 hsB hsR hFe hhe hzf hdf hsd hx
  obtain ⟨q0, q1, q2, q3, q4, q5⟩ := HO.out W (Below.refl _ _)
  go_enter Tryz.func72, Tryz.ntmps72
  go_upto_region 1 with fail
  rw [← hW]
  clear hW
  go_upto_region 2 with (go_at_call 106; refine HJ.out.mono ?_; rintro e w1 ⟨aF, cF, rfl, hcF, hF, hb1⟩)
  clear q0 q1 q2 q3 q4 q5 HJ
  have hFl := hF.len
  obtain ⟨T, hTe⟩ : ∃ T, F.length = T := ⟨_, rfl⟩
  rw [hTe] at hF hT hle hcF ⊢
  have HTE := Lib.hid hTe
  have HF := Lib.hid hF
  clear hF hFl hTe
  obtain ⟨q0, q1, q2, q3, q4, q5⟩ := HO.out w1 hb1
  have H2 := Lib.hid (HR.out w1 hb1)
  have d2 : decide (4611686020574871551 - at_ < (T : Int)) = false := by simp; omega
  clear HR
  go_upto_region 4 with (go_at_call 75; refine H2.out.mono ?_; rintro e w2 ⟨rfl, hb2⟩; have hb3 := hb1.trans (hb2.mono hb1.size); obtain ⟨_, _, _, q6, _, _⟩ := HO.out w2 hb3)
  have hF2 := HF.out.below hb2
  clear q0 q1 q2 q3 q4 q5 q6 H2 HF
  obtain ⟨q0, q1, q2, q3, q4, q5⟩ := HO.out w2 hb3
  have H4 := Lib.hid (HMK.out w2 hb3)
  clear HMK
  go_upto_region 5 with (go_at_call 23; refine H4.out.mono ?_; rintro e w4 ⟨t, rfl, hTr, hb4⟩; obtain ⟨ua, un, uc, da, dn, dc, xa, xn, xc, ba, bn, bc⟩ := t; simp only [TV.cells])
  obtain ⟨W5, hW5⟩ : ∃ X, X = w4.alloc (.cells #[.slice ua un uc, .slice da dn dc, .slice xa xn xc, .slice ba bn bc] 34) := ⟨_, rfl⟩
  have hb45 : RowKit.Below w4.heap.size w4 W5 := by rw [hW5]; exact below_alloc _ _
  have hO5 : W5.heap[w4.heap.size]? = some (.cells #[.slice ua un uc, .slice da dn dc, .slice xa xn xc, .slice ba bn bc] 34 (0, 0)) := by rw [hW5]; exact World.alloc_heap_new _ _
  rw [← hW5]
  clear hW5 q0 q1 q2 q3 q4 q5 H4
  have hT5 := hTr.below hb45
  have hb25 := hb4.trans (hb45.mono hb4.size)
  have hbW5 := hb3.trans (hb25.mono hb3.size)
  have hF5 := hF2.below hb25
  obtain ⟨Q, hQ⟩ : ∃ Q, w4.heap.size = Q := ⟨_, rfl⟩
  rw [hQ] at hO5 ⊢
  obtain ⟨q0, q1, q2, q3, q4, q5⟩ := HO.out W5 hbW5
  have e0 : W5.cell? ⟨Q, 0, none⟩ = some (.slice ua un uc) := by simp [World.cell?, hO5]
  have e1 : W5.cell? ⟨Q, 1, none⟩ = some (.slice da dn dc) := by simp [World.cell?, hO5]
  have e2 : W5.cell? ⟨Q, 2, none⟩ = some (.slice xa xn xc) := by simp [World.cell?, hO5]
  have e3 : W5.cell? ⟨Q, 3, none⟩ = some (.slice ba bn bc) := by simp [World.cell?, hO5]
  have H5 := Lib.hid (HSP.out _ W5 hT5)
  clear HSP hQ hTr hb4 hb45 hb25 hF2 hb1 hb2 hb3
  go_upto_region 6 with (go_at_call 107; refine H5.out.mono ?_; rintro e w6 ⟨a6, n6, c6, rfl, hx6, hb6⟩)
  have hx6l := hx6.len
  obtain rfl : x.length = n6 := hx6l
  obtain ⟨k, hk⟩ : ∃ k, x.length = k := ⟨_, rfl⟩
  rw [hk] at hx6 hx32 ⊢
  have hbt : ∀ y ∈ x ++ F, 0 ≤ y ∧ y ≤ 255 := fun y hy => by
    rcases List.mem_append.1 hy with h | h
    · exact hx6.2 y h
    · exact hF5.2 y h
  have HBT := Lib.hid hbt
  have hF6 := hF5.below hb6
  have hx6' := hx6.below (below_alloc w6 (.cells #[] 5))
  have hown0 : OwnB (w6.alloc (.cells #[] 5)) w6.heap.size (.slice (some ⟨w6.heap.size, 0, none⟩) 0 0) 0 [] := World.ownsRow_lit w6 #[] 0 (Nat.le_refl _) (Nat.zero_le _) rfl
  have HF6 := Lib.hid hF6
  clear hbt hF5 hF6 hx6 H5 e0 e1 e2 e3 q0 q1 q2 q3 q4 q5
  go_upto_region 7 with (first
    | (at_builtin; refine wpList_append_sl1 rfl _ _ 25 rfl u8_one w6.heap.size 5 iU (.int .u8 0) 1 Tryz.underlying25 hj hy0 hy1 hy2 rfl _ 0 [] rfl hown0 a6 k c6 x rfl hx6'.1 (by unfold maxLen; omega) (by omega) (by simp) ?_; intro v1 w7 hown1 hgrow1 hat1
       have hB7 : RowKit.Below w6.heap.size w6 w7 := (below_alloc w6 (.cells #[] 5)).grown hgrow1 (by simp) (fun k e => by cases e; exact Nat.le_refl _)
       have hF7 : Bys w7 aF T F := HF6.out.below hB7
       rw [Nat.zero_add, List.nil_append] at hown1)
    | (at_builtin; refine wpList_append_sl1 rfl _ _ 25 rfl u8_one w6.heap.size 5 iU (.int .u8 0) 1 Tryz.underlying25 hj hy0 hy1 hy2 rfl _ k _ rfl hown1 aF T cF F rfl hF7.1 (by unfold maxLen; omega) (by omega) hB7.size ?_; intro v2 w8 hown2 hgrow2 hat2))
  have hB8 : RowKit.Below w6.heap.size w6 w8 := hB7.grown hgrow2 hB7.size (fun j hj => (hown1.lt j hj).1)
  have hX8 : OwnB w8 w6.heap.size v2 (k + T) (x ++ F) := by
    unfold OwnB
    rw [List.map_append]
    exact hown2
  obtain ⟨a8, c8, rfl, hc8, hs8⟩ := own_bys hX8 HBT.out
  have hb58 := hb6.trans (hB8.mono hb6.size)
  have hbW8 := hbW5.trans (hb58.mono hbW5.size)
  have hT8 := hT5.below hb58
  have hO8 := (hb58.block Q (Array.getElem?_eq_some_iff.1 hO5).1).trans hO5
  have HS8 := Lib.hid hs8
  clear hown1 hown2 hX8 hgrow1 hgrow2 hat1 hat2 hB7 hF7 hown0 hx6' HF6 hB8 hb58 hT5 hO5 hb6 hs8
  obtain ⟨q0, q1, q2, q3, q4, q5⟩ := HO.out w8 hbW8
  have H8 := Lib.hid (HOC.out w8 hbW8 a8 (k + T) c8 (x ++ F) HS8.out (by omega) hc8)
  obtain ⟨OL, hOL⟩ : ∃ O, occD fold wss 0 (x ++ F) = O := ⟨_, rfl⟩
  rw [hOL] at H8 HOCI hOl HSD
  have HOL := Lib.hid hOL
  clear HOC hOL
  go_upto_region 8 with (go_at_call 42; refine H8.out.mono ?_; rintro e w9 ⟨v9, rfl, hown9, hb9⟩; obtain ⟨a9, c9, rfl, hc9, hs9⟩ := hown9.hts (fun h hh => by have h1 := HOCI.out h hh; unfold I64; omega))
  obtain ⟨nO, hnO⟩ : ∃ n, OL.length = n := ⟨_, rfl⟩
  rw [hnO] at hs9 hOl ⊢
  have HNO := Lib.hid hnO
  have hbW9 := hbW8.trans (hb9.mono hbW8.size)
  have hT9 := hT8.below hb9
  have hO9 := (hb9.block Q (Array.getElem?_eq_some_iff.1 hO8).1).trans hO8
  have hX9 := HS8.out.below hb9
  have HX9 := Lib.hid hX9
  have HS9 := Lib.hid hs9
  have HT9 := Lib.hid hT9
  have HO9 := Lib.hid hO9
  have HW9 := Lib.hid hbW9
  rw [hk] at HSD
  clear q0 q1 q2 q3 q4 q5 H8 HS8 hown9 hnO hT8 hO8 hT9 hO9 hX9 hs9 hbW8 hbW9 hb9 hbW5
  go_upto_region 10 with fail
  go_loopw [17, 18] (fun v s18 wr => ∃ i : Nat, i ≤ nO ∧ s18 = .int .i64 (i : Int) ∧ Hid (RowKit.Below w9.heap.size w9 wr) ∧ OwnH wr w9.heap.size v (keepH (k : Int) at_ (OL.take i))) (fun _ s _ => nO - (intOf s).toNat)
  case atStart => exact ⟨0, Nat.zero_le _, rfl, Below.refl _ _, World.ownsRow_nil _ _ _ _⟩
  case round =>
    obtain ⟨i, hi', rfl, HBr, hown⟩ := hrel
    by_cases hin : i < nO
    · have hd : decide ((i : Int) < (nO : Int)) = true := by simp; omega
      obtain ⟨bh, oh, hit, e4, hbh, k0, k1, hhit, hb0', hb1'⟩ := HS9.out.at_ hin
      subst e4
      obtain ⟨⟨p0, p1⟩, p2, p3⟩ := HOCI.out hit (List.mem_of_getElem? hhit)
      have KC : Hid (∀ V, RowKit.Below w9.heap.size w9 V → V.cell? ⟨bh, oh + i * 2, none⟩ = some (.int .i64 hit.1) ∧ V.cell? ⟨bh, oh + i * 2 + 1, none⟩ = some (.int .i64 hit.2) ∧ V.cell? ⟨w.heap.size + 1, 1, none⟩ = some (.int .i64 at_)) := fun V hV =>
        ⟨(hV.cell (p := ⟨bh, oh + i * 2, none⟩) hbh).trans k0, (hV.cell (p := ⟨bh, oh + i * 2 + 1, none⟩) hbh).trans k1, (HO.out V (HW9.out.trans (hV.mono HW9.out.size))).2.2.2.1⟩
      have i1 : (0 : Int) ≤ (i : Int) := by omega
      have i2 : (i : Int) < (nO : Int) := by omega
      have HSTEP := Lib.hid (keepH_step (k := (k : Int)) (at_ := at_) hhit)
      have hkl := keepH_len (k : Int) at_ (OL.take i)
      rw [List.length_take] at hkl
      obtain ⟨m, hm⟩ : ∃ m, (keepH (k : Int) at_ (OL.take i)).length = m := ⟨_, rfl⟩
      rw [hm] at hkl
      have hml : m ≤ 1000033 * 64 := by omega
      unfold OwnH at hown
      rw [hm] at hown
      have HMM := Lib.hid hm
      have hbs : w9.heap.size ≤ wr.heap.size := HBr.out.size
      obtain ⟨q0, q1, q2⟩ := KC.out wr HBr.out
      clear hhit k0 k1 hkl hm
      by_cases hc : (k : Int) < hit.1
      · have d3 : decide ((k : Int) < hit.1) = true := by simpa using hc
        have HST : Hid (keepH (k : Int) at_ (OL.take (i + 1)) = keepH (k : Int) at_ (OL.take i) ++ [(hit.1 - (k : Int) + at_, hit.2)]) := by rw [Hid, HSTEP.out, if_pos hc]
        clear HSTEP hc
        have wr1 : IntKind.i64.wrap (hit.1 - (k : Int)) = hit.1 - (k : Int) := by rw [IntKind.wrap_i64]; go_num
        have wr2 : IntKind.i64.wrap (hit.1 - (k : Int) + at_) = hit.1 - (k : Int) + at_ := by rw [IntKind.wrap_i64]; go_num
        go_upto_region 13 with fail
        refine wp_region_noPanic ?_
        refine wp_region_held_drew (S := RowKit.Below w9.heap.size w9) (by kernel_rfl) (HBr.out.trans ((bel_drewN wr 1).mono hbs)) (fun hS => ?_)
        obtain ⟨wd, hwd⟩ : ∃ X, X = wr.drew := ⟨_, rfl⟩
        have hownD := World.ownsRow.drew hown
        rw [← hwd] at hS hownD ⊢
        have hsk : SlK 2 (wd.alloc (.cells #[.int .i64 (hit.1 - (k : Int) + at_), .int .i64 hit.2] 87)) (some ⟨wd.heap.size, 0, none⟩) 1 [.int .i64 (hit.1 - (k : Int) + at_), .int .i64 hit.2] := slk_hit wd (hit.1 - (k : Int) + at_, hit.2)
        clear hwd hown q0 q1 q2
        refine tkW 0 (v := ?_) ?_ ?_
        rotate_left
        · intro V hV
          obtain ⟨q0, q1, q2⟩ := KC.out V hV
          first | (go_simp; done) | (go_simp; with_reducible rfl)
        try simp only [Act.put, pA, pB, pC]
        refine tkW 1 (v := ?_) ?_ ?_
        rotate_left
        · intro V hV
          obtain ⟨q0, q1, q2⟩ := KC.out V hV
          first | (go_simp; done) | (go_simp; with_reducible rfl)
        try simp only [Act.put, pA, pB, pC]
        refine tkW 2 (v := ?_) ?_ ?_
        rotate_left
        · intro V hV
          obtain ⟨q0, q1, q2⟩ := KC.out V hV
          first | (go_simp; done) | (go_simp; with_reducible rfl)
        try simp only [Act.put, pA, pB, pC]
        refine tkW 3 (v := ?_) ?_ ?_
        rotate_left
        · intro V hV
          obtain ⟨q0, q1, q2⟩ := KC.out V hV
          first | (go_simp; done) | (go_simp; with_reducible rfl)
        try simp only [Act.put, pA, pB, pC]
        refine tkW 4 (v := ?_) ?_ ?_
        rotate_left
        · intro V hV
          obtain ⟨q0, q1, q2⟩ := KC.out V hV
          first | (go_simp; done) | (go_simp; with_reducible rfl)
        try simp only [Act.put, pA, pB, pC]
        refine tkW 5 (v := ?_) ?_ ?_
        rotate_left
        · intro V hV
          obtain ⟨q0, q1, q2⟩ := KC.out V hV
          first | (go_simp; done) | (go_simp; with_reducible rfl)
        try simp only [Act.put, pA, pB, pC]
        refine tkW 6 (v := ?_) ?_ ?_
        rotate_left
        · intro V hV
          obtain ⟨q0, q1, q2⟩ := KC.out V hV
          first | (go_simp; done) | (go_simp; with_reducible rfl)
        try simp only [Act.put, pA, pB, pC]
        refine tkW 7 (v := ?_) ?_ ?_
        rotate_left
        · intro V hV
          obtain ⟨q0, q1, q2⟩ := KC.out V hV
          first | (go_simp; done) | (go_simp; with_reducible rfl)
        try simp only [Act.put, pA, pB, pC]
        refine tkW 8 (v := ?_) ?_ ?_
        rotate_left
        · intro V hV
          obtain ⟨q0, q1, q2⟩ := KC.out V hV
          first | (go_simp; done) | (go_simp; with_reducible rfl)
        try simp only [Act.put, pA, pB, pC]
        refine tkW 9 (v := ?_) ?_ ?_
        rotate_left
        · intro V hV
          obtain ⟨q0, q1, q2⟩ := KC.out V hV
          first | (go_simp; done) | (go_simp; with_reducible rfl)
        try simp only [Act.put, pA, pB, pC]
        refine tkW 10 (v := ?_) ?_ ?_
        rotate_left
        · intro V hV
          obtain ⟨q0, q1, q2⟩ := KC.out V hV
          first | (go_simp; done) | (go_simp; with_reducible rfl)
        try simp only [Act.put, pA, pB, pC]
        refine tkW 11 (v := ?_) ?_ ?_
        rotate_left
        · intro V hV
          obtain ⟨q0, q1, q2⟩ := KC.out V hV
          first | (go_simp; done) | (go_simp; with_reducible rfl)
        try simp only [Act.put, pA, pB, pC]
        refine tkW 12 (v := ?_) ?_ ?_
        rotate_left
        · intro V hV
          obtain ⟨q0, q1, q2⟩ := KC.out V hV
          first | (go_simp; done) | (go_simp; with_reducible rfl)
        try simp only [Act.put, pA, pB, pC]
        refine tkW 13 (v := ?_) ?_ ?_
        rotate_left
        · intro V hV
          obtain ⟨q0, q1, q2⟩ := KC.out V hV
          first | (go_simp; done) | (go_simp; with_reducible rfl)
        try simp only [Act.put, pA, pB, pC]
        refine tkW 14 (v := ?_) ?_ ?_
        rotate_left
        · intro V hV
          obtain ⟨q0, q1, q2⟩ := KC.out V hV
          first | (go_simp; done) | (go_simp; with_reducible rfl)
        try simp only [Act.put, pA, pB, pC]
        refine tkW 15 (v := ?_) ?_ ?_
        rotate_left
        · intro V hV
          obtain ⟨q0, q1, q2⟩ := KC.out V hV
          first | (go_simp; done) | (go_simp; with_reducible rfl)
        try simp only [Act.put, pA, pB, pC]
        refine tkW 16 (v := ?_) ?_ ?_
        rotate_left
        · intro V hV
          obtain ⟨q0, q1, q2⟩ := KC.out V hV
          first | (go_simp; done) | (go_simp; with_reducible rfl)
        try simp only [Act.put, pA, pB, pC]
        refine tkW 17 (v := ?_) ?_ ?_
        rotate_left
        · intro V hV
          obtain ⟨q0, q1, q2⟩ := KC.out V hV
          first | (go_simp; done) | (go_simp; with_reducible rfl)
        try simp only [Act.put, pA, pB, pC]
        refine rdy 18 (fun K hK => ?_)
        go_simp
        refine hK.out _ _ (hS.alloc hS.size _) (fun hS2 => ?_)
        clear hK K
        try simp only [Act.put, pA, pB, pC]
        refine rdy 19 (fun K hK => ?_)
        refine wanted_one (by kernel_rfl) ?_
        refine oper_append_slK _ _ _ 67 rfl w9.heap.size 87 i0 (.agg #[.int .i64 0, .int .i64 0]) 2 16 Tryz.underlying67 hi hz0 hz1 hz2 rfl (by decide) _ m _ rfl (hownD.alloc _) (some ⟨wd.heap.size, 0, none⟩) 1 1 [.int .i64 (hit.1 - (k : Int) + at_), .int .i64 hit.2] rfl hsk (by simp [Value.oneCell']) (by unfold maxLen; omega) (by omega) hS2.size ?_
        intro v' w10 hown' hgrow hat
        have hS3 : RowKit.Below w9.heap.size w9 w10 := hS2.grown hgrow hS2.size (fun j hj => (row_lt hownD j hj).1)
        refine hK.out _ _ hS3 (fun _ => ?_)
        clear hK K hgrow hat hS2 hS hownD
        try simp only [Act.put, pA, pB, pC]
        refine tkW 20 (v := ?_) ?_ ?_
        rotate_left
        · intro V hV
          first | (go_simp; done) | (go_simp; with_reducible rfl)
        try simp only [Act.put, pA, pB, pC]
        refine wpAnyH_done (by kernel_rfl) ?_ _
        refine NoPanic.normal ?_
        go_wp2
        go_roundw
        case rel =>
          refine ⟨i + 1, by omega, by go_num, hS3, ?_⟩
          unfold OwnH
          rw [HST.out, List.length_append, HMM.out, hcells_append]
          exact hown'
        case measure => simp [intOf]; omega
      · have d3 : decide ((k : Int) < hit.1) = false := by simpa using hc
        have HST : Hid (keepH (k : Int) at_ (OL.take (i + 1)) = keepH (k : Int) at_ (OL.take i)) := by rw [Hid, HSTEP.out, if_neg hc, List.append_nil]
        clear HSTEP hc
        go_wp2
        go_roundw
        case rel =>
          refine ⟨i + 1, by omega, by go_num, HBr, ?_⟩
          unfold OwnH
          rw [HST.out, HMM.out]
          exact hown
        case measure => simp [intOf]; omega
    · obtain rfl : nO = i := by omega
      have hd : decide ((nO : Int) < (nO : Int)) = false := by simp
      rw [List.take_of_length_le (by rw [HNO.out]; exact Nat.le_refl _), ← HSD.out] at hown
      have HOW := Lib.hid hown
      clear hown
      have hT1 := HT9.out.below HBr.out
      have hO1 := (HBr.out.block Q (Array.getElem?_eq_some_iff.1 HO9.out).1).trans HO9.out
      have hbWr := HW9.out.trans (HBr.out.mono HW9.out.size)
      have hXr := HX9.out.below HBr.out
      obtain ⟨q0, q1, q2, q3, q4, q5⟩ := HO.out wr hbWr
      have KD : Hid (∀ V, RowKit.Below wr.heap.size wr V → Tri V ⟨ua, un, uc, da, dn, dc, xa, xn, xc, ba, bn, bc⟩ (trieP wss) ∧ V.cell? ⟨Q, 0, none⟩ = some (.slice ua un uc) ∧ V.cell? ⟨Q, 1, none⟩ = some (.slice da dn dc) ∧ V.cell? ⟨Q, 2, none⟩ = some (.slice xa xn xc) ∧ V.cell? ⟨Q, 3, none⟩ = some (.slice ba bn bc)) := fun V hV => by
        have h := (hV.block Q (Array.getElem?_eq_some_iff.1 hO1).1).trans hO1
        exact ⟨hT1.below hV, by simp [World.cell?, h], by simp [World.cell?, h], by simp [World.cell?, h], by simp [World.cell?, h]⟩
      have HBW := Lib.hid hbWr
      have HXR := Lib.hid hXr
      clear hT1 hO1 hbWr hXr q4 hi'
      cases fold with
      | false =>
        have hDX : (deepT (trieP wss) (x ++ F)).1 = (zf : Int) := by
          have h := HDF.out
          rwa [show foldL false (x ++ F) = x ++ F by simp [foldL]] at h
        go_upto_region 16 with fail
        have hbT : RowKit.Below wr.heap.size wr wr := Below.refl _ _
        have hXT := HXR.out
        have hTC := hc8
        have H16 := Lib.hid (HDP.out _ wr (KD.out wr hbT).1 a8 (k + T) c8 (x ++ F) hXT (by omega) hTC)
        rw [hDX] at H16
        obtain ⟨_, e0, e1, e2, e3⟩ := KD.out wr hbT
        clear HDP
        go_upto_region 17 with (go_at_call 26; refine H16.out.mono ?_; rintro e w11 ⟨rfl, hb11⟩)
        have hb12 := hbT.trans (hb11.mono hbT.size)
        clear e0 e1 e2 e3 q0 q1 q2 q3 q5 H16
        obtain ⟨q0, q1, q2, q3, h6, q5⟩ := HO.out w11 (HBW.out.trans (hb12.mono HBW.out.size))
        have r0 : w11.cell? ⟨w.heap.size + 1 + 1, 0, none⟩ = some (.int .i64 0) := by simp [World.cell?, h6]
        have r1 : w11.cell? ⟨w.heap.size + 1 + 1, 1, none⟩ = some (.int .i64 0) := by simp [World.cell?, h6]
        have r2 : w11.frozen? ⟨w.heap.size + 1 + 1, 0, none⟩ = false := by simp [World.frozen?, h6]
        have r3 : w11.frozen? ⟨w.heap.size + 1 + 1, 1, none⟩ = false := by simp [World.frozen?, h6]
        have hz3 := set_at (i := 1) (set_at (i := 0) h6 (.int .i64 (zf : Int))) (.int .i64 (at_ + (T : Int)))
        have HZ3 := Lib.hid hz3
        have hBwX : RowKit.Below w.heap.size w w11 := HB.out.trans ((HBW.out.trans (hb12.mono HBW.out.size)).mono HB.out.size)
        have HBX := Lib.hid hBwX
        have HOX : Hid (OwnH w11 w9.heap.size _ hh) := own_below_ HOW.out hb12
        have hs9 : Hid (w.heap.size + 1 + 1 < w9.heap.size) := Nat.lt_of_lt_of_le hlW HW9.out.size
        clear hz3 h6 hBwX
        go_wp2
        refine bodyPost_ret (results_scan3 rfl rfl (by simpa using HZ3.out)) rfl ?_
        refine ⟨_, by rw [HFE.out, HZF.out, HTE.out]; rfl, ?_, (HBX.out.setCell (by show w.heap.size ≤ w.heap.size + 1 + 1; omega) _).setCell (by show w.heap.size ≤ w.heap.size + 1 + 1; omega) _⟩
        rw [HFE.out, HHE.out]
        have ho := HOX.out
        unfold OwnH at ho ⊢
        have h1 := (ho.kept (grown_set2 w11 (w.heap.size + 1 + 1) 0 (.int .i64 (zf : Int))) (.inr (fun e => by have := (row_lt ho _ e).1; have := hs9.out; omega)))
        have h2 := (h1.kept (grown_set2 _ (w.heap.size + 1 + 1) 1 (.int .i64 (at_ + (T : Int)))) (.inr (fun e => by have := (row_lt h1 _ e).1; have := hs9.out; omega)))
        exact row_lower h2 (by have := hs9.out; omega)
      | true =>
        have hDX : (deepT (trieP wss) ((x ++ F).map foldI)).1 = (zf : Int) := by
          have h := HDF.out
          rwa [show foldL true (x ++ F) = (x ++ F).map foldI by simp [foldL]] at h
        have H15 := Lib.hid (rfolded_any a8 (k + T) c8 (x ++ F) wr HXR.out (by omega))
        have HBF := Lib.hid (foldL_bd (fold := true) HXR.out.2)
        go_upto_region 16 with (go_at_call 25; refine H15.out.mono ?_; rintro e w10 ⟨vf, rfl, hof, hbT⟩)
        obtain ⟨af, cf, rfl, hTC, hXT⟩ := own_bys hof (by have h := HBF.out; rwa [show foldL true (x ++ F) = (x ++ F).map foldI by simp [foldL]] at h)
        clear H15 hof HBF
        clear q0 q1 q2 q3 q5
        obtain ⟨q0, q1, q2, q3, h6, q5⟩ := HO.out w10 (HBW.out.trans (hbT.mono HBW.out.size))
        clear h6
        have H16 := Lib.hid (HDP.out _ w10 (KD.out w10 hbT).1 af (k + T) cf ((x ++ F).map foldI) hXT (by omega) hTC)
        rw [hDX] at H16
        obtain ⟨_, e0, e1, e2, e3⟩ := KD.out w10 hbT
        clear HDP
        go_upto_region 17 with (go_at_call 26; refine H16.out.mono ?_; rintro e w11 ⟨rfl, hb11⟩)
        have hb12 := hbT.trans (hb11.mono hbT.size)
        clear e0 e1 e2 e3 q0 q1 q2 q3 q5 H16
        obtain ⟨q0, q1, q2, q3, h6, q5⟩ := HO.out w11 (HBW.out.trans (hb12.mono HBW.out.size))
        have r0 : w11.cell? ⟨w.heap.size + 1 + 1, 0, none⟩ = some (.int .i64 0) := by simp [World.cell?, h6]
        have r1 : w11.cell? ⟨w.heap.size + 1 + 1, 1, none⟩ = some (.int .i64 0) := by simp [World.cell?, h6]
        have r2 : w11.frozen? ⟨w.heap.size + 1 + 1, 0, none⟩ = false := by simp [World.frozen?, h6]
        have r3 : w11.frozen? ⟨w.heap.size + 1 + 1, 1, none⟩ = false := by simp [World.frozen?, h6]
        have hz3 := set_at (i := 1) (set_at (i := 0) h6 (.int .i64 (zf : Int))) (.int .i64 (at_ + (T : Int)))
        have HZ3 := Lib.hid hz3
        have hBwX : RowKit.Below w.heap.size w w11 := HB.out.trans ((HBW.out.trans (hb12.mono HBW.out.size)).mono HB.out.size)
        have HBX := Lib.hid hBwX
        have HOX : Hid (OwnH w11 w9.heap.size _ hh) := own_below_ HOW.out hb12
        have hs9 : Hid (w.heap.size + 1 + 1 < w9.heap.size) := Nat.lt_of_lt_of_le hlW HW9.out.size
        clear hz3 h6 hBwX
        go_wp2
        refine bodyPost_ret (results_scan3 rfl rfl (by simpa using HZ3.out)) rfl ?_
        refine ⟨_, by rw [HFE.out, HZF.out, HTE.out]; rfl, ?_, (HBX.out.setCell (by show w.heap.size ≤ w.heap.size + 1 + 1; omega) _).setCell (by show w.heap.size ≤ w.heap.size + 1 + 1; omega) _⟩
        rw [HFE.out, HHE.out]
        have ho := HOX.out
        unfold OwnH at ho ⊢
        have h1 := (ho.kept (grown_set2 w11 (w.heap.size + 1 + 1) 0 (.int .i64 (zf : Int))) (.inr (fun e => by have := (row_lt ho _ e).1; have := hs9.out; omega)))
        have h2 := (h1.kept (grown_set2 _ (w.heap.size + 1 + 1) 1 (.int .i64 (at_ + (T : Int)))) (.inr (fun e => by have := (row_lt h1 _ e).1; have := hs9.out; omega)))
        exact row_lower h2 (by have := hs9.out; omega)
end Go.Proofs.YtbldfgaogmfoaaaGreat

/- Streams (layer 14): All, Count; walked. Printed by exp.py. -/

namespace Go.Proofs.YtbldfgaogmfoaaaGreat
open Go.RowKit Go.Sort Go.Maps Go.WideAt Go.WideMaps

/-- A map of numbers to numbers, of the call's own: which numbers it has. -/
def MI (W : World) (b n : Nat) (ks : List Int) : Prop :=
 ∃ D : DataW Unit, W.ownsMap Tryz.prog 3 (plainElem Tryz.prog 3) b n D ∧ Tidy D ∧ Maps.size D = ks.length ∧ ∀ k : Int, Maps.has D (.int .i64 k) = decide (k ∈ ks) ∧ ∃ c : Nat, c ≤ n ∧ D.atKey (.int .i64 k) (.lit (.int .i64 0)) = .lit (.int .i64 (c : Int))
theorem MI.start {b : Nat} (w : World) (hD : w.ownsMap Tryz.prog 3 (plainElem Tryz.prog 3) b 0 (.map [] : DataW Unit)) : MI w b 0 [] :=
 ⟨_, hD, ⟨[], rfl, List.Pairwise.nil⟩, rfl, fun k => ⟨rfl, 0, Nat.le_refl _, rfl⟩⟩
theorem MI.kept {W W' : World} {b n : Nat} {ks : List Int} {row : Option Nat} (h : MI W b n ks) (hg : W.grownBy W' row) (hne : row ≠ some b) : MI W' b n ks := by
 obtain ⟨D, h1, h2⟩ := h
 exact ⟨D, h1.kept hg (fun e => hne e.symm), h2⟩
theorem MI.alloc {W : World} {b n : Nat} {ks : List Int} (h : MI W b n ks) (o : Obj) : MI (W.alloc o) b n ks := by
 obtain ⟨D, h1, h2⟩ := h
 exact ⟨D, h1.alloc o, h2⟩
section
variable {w : World} {ops : Array Oper} {rest : List Oper} {o : Oper} {a : Act} {Q : Exit → Act → World → Prop} {b n : Nat} {ks : List Int}
end

end Go.Proofs.YtbldfgaogmfoaaaGreat

/- Streams (layer 14): the document's Feed and Count, unified; what may be told; the law's bound. -/

namespace Go.Proofs.YtbldfgaogmfoaaaGreat
open Go.RowKit Go.Sort

theorem scanH_bd {fold : Bool} {ws : List (List Int)} (hn : ws.Nodup) (h0 : ∀ y ∈ ws, y.length ≠ 0) : ∀ (b : List Int) (z : Nat) (at_ : Int), z < (nodesL ws).length → ∀ h ∈ scanH fold ws z at_ b, (at_ < h.1 ∧ h.1 ≤ at_ + b.length) ∧ 0 ≤ h.2 ∧ h.2 < (ws.length : Int)
 | [], z, at_, _, h, hh => by simp [scanH] at hh
 | c :: b, z, at_, hz, h, hh => by
  have hx : (nodesL ws)[z]? = some (nodesL ws)[z] := List.getElem?_eq_getElem hz
  have hn1 := (nextZ_at (fold := fold) hx c).1
  have hnl := (List.getElem?_eq_some_iff.1 hn1).1
  simp only [scanH, List.mem_append, List.mem_map] at hh
  rw [List.length_cons]
  rcases hh with ⟨v, hv, rfl⟩ | hh
  ·
   rw [words9_suf h0 hn1, mem_sufW hn h0] at hv
   obtain ⟨k, y, h1, _, rfl⟩ := hv
   have := (List.getElem?_eq_some_iff.1 h1).1
   dsimp only
   omega
  ·
   have := scanH_bd hn h0 b _ (at_ + 1) hnl h hh
   omega
end Go.Proofs.YtbldfgaogmfoaaaGreat

/- Streams (layer 14): what the document says of us, he, r: walked. Printed by gen_eb.py and exp.py. -/

namespace Go.Proofs.YtbldfgaogmfoaaaGreat
open Go.RowKit Go.Sort

theorem he_row (w W : World) (hW : W = (((w.alloc (.cells #[.int .u8 104, .int .u8 101] 5 (2, 3))).alloc (.cells #[.int .u8 115, .int .u8 104, .int .u8 101] 5 (3, 4))).alloc (.cells #[.int .u8 104, .int .u8 101, .int .u8 114] 5 (3, 4))).alloc
   (.cells #[.slice (some ⟨w.heap.size, 0, none⟩) 2 2, .slice (some ⟨w.heap.size + 1, 0, none⟩) 3 3, .slice (some ⟨w.heap.size + 1 + 1, 0, none⟩) 3 3] 25)) : Wds W (some ⟨w.heap.size + 1 + 1 + 1, 0, none⟩) 3 heW ∧ Below w.heap.size w W := by
 obtain ⟨A2, hA2⟩ : ∃ A2, A2 = w.alloc (.cells #[.int .u8 104, .int .u8 101] 5 (2, 3)) := ⟨_, rfl⟩
 rw [← hA2] at hW
 have z2 : A2.heap.size = w.heap.size + 1 := by rw [hA2]; simp
 have y1 : Bys A2 (some ⟨w.heap.size, 0, none⟩) 2 [104, 101] := by rw [hA2]; exact bys_lay [104, 101] (by simp) _ _ rfl
 have B2 : Below w.heap.size w A2 := by rw [hA2]; exact below_alloc _ _
 clear hA2
 obtain ⟨A3, hA3⟩ : ∃ A3, A3 = A2.alloc (.cells #[.int .u8 115, .int .u8 104, .int .u8 101] 5 (3, 4)) := ⟨_, rfl⟩
 rw [← hA3] at hW
 have z3 : A3.heap.size = w.heap.size + 1 + 1 := by rw [hA3]; simp [z2]
 have y2 : Bys A3 (some ⟨w.heap.size + 1, 0, none⟩) 3 [115, 104, 101] := by rw [hA3]; exact bys_lay [115, 104, 101] (by simp) _ _ z2
 have B3 : Below A2.heap.size A2 A3 := by rw [hA3]; exact below_alloc _ _
 clear hA3
 obtain ⟨A4, hA4⟩ : ∃ A4, A4 = A3.alloc (.cells #[.int .u8 104, .int .u8 101, .int .u8 114] 5 (3, 4)) := ⟨_, rfl⟩
 rw [← hA4] at hW
 have z4 : A4.heap.size = w.heap.size + 1 + 1 + 1 := by rw [hA4]; simp [z3]
 have y3 : Bys A4 (some ⟨w.heap.size + 1 + 1, 0, none⟩) 3 [104, 101, 114] := by rw [hA4]; exact bys_lay [104, 101, 114] (by simp) _ _ z3
 have B4 : Below A3.heap.size A3 A4 := by rw [hA4]; exact below_alloc _ _
 clear hA4
 have y4 : Sl1 (fun v : Option Addr × Nat × Nat => Value.slice v.1 v.2.1 v.2.2) W (some ⟨w.heap.size + 1 + 1 + 1, 0, none⟩) 3 [(some ⟨w.heap.size, 0, none⟩, 2, 2), (some ⟨w.heap.size + 1, 0, none⟩, 3, 3), (some ⟨w.heap.size + 1 + 1, 0, none⟩, 3, 3)] := by
  rw [hW]
  exact Sl1.lay (α := Option Addr × Nat × Nat) _ A4 [(some ⟨w.heap.size, 0, none⟩, 2, 2), (some ⟨w.heap.size + 1, 0, none⟩, 3, 3), (some ⟨w.heap.size + 1 + 1, 0, none⟩, 3, 3)] _ _ z4
 have B5 : Below A4.heap.size A4 W := by rw [hW]; exact below_alloc _ _
 exact ⟨wds3 y4 (((y1.below B3).below B4).below B5) ((y2.below B4).below B5) (y3.below B5) (Nat.le_refl _) (Nat.le_refl _) (Nat.le_refl _), B2.trans ((B3.trans ((B4.trans (B5.mono (by omega))).mono (by omega))).mono (by omega))⟩
theorem wds1 {w : World} {a : Option Addr} {v1 : Option Addr × Nat × Nat} {x1 : List Int} (h : Sl1 (fun v : Option Addr × Nat × Nat => Value.slice v.1 v.2.1 v.2.2) w a 1 [v1]) (h1 : Bys w v1.1 v1.2.1 x1) (c1 : v1.2.1 ≤ v1.2.2) : Wds w a 1 [x1] := by
 refine ⟨_, h, rfl, fun i v xs hv hx => ?_⟩
 match i with
 | 0 => simp at hv hx; subst hv hx; exact ⟨h1, c1⟩
 | n + 1 => simp at hv
end Go.Proofs.YtbldfgaogmfoaaaGreat

/- stream's law: are a set or chunks too great to be asked? -/

namespace Go.Proofs.YtbldfgaogmfoaaaGreat
open Go.RowKit Go.Sort

theorem right_facts {fold : Bool} {wss : List (List Int)} (hr : rightP fold wss = true) : (nodesL wss).length ≤ 1000 ∧ ∀ (node : Int), ∀ v ∈ words13 wss node, I64 v := by
 have h1 : (nodesL wss).length ≤ 400 := read_n (readP_iff.2 ⟨right_false hr, rfl, rfl⟩)
 obtain ⟨g1, _, g3, _⟩ := right_spec hr
 exact ⟨by omega, fun node => words13_i64 (by omega) (right_nodup hr).1 (fun x hx => (g3 x hx).1) node⟩

end Go.Proofs.YtbldfgaogmfoaaaGreat

/- Probes (layer 20): which blocks may be scanned; walked. Printed by gen_q1.py and exp.py. -/

namespace Go.Proofs.YtbldfgaogmfoaaaGreat
open Go.RowKit Go.Sort

/-- A block's cells. -/
abbrev blV (nu st wm : Int) (a : Option Addr) (n c : Nat) : Array Value := #[.int .i64 nu, .int .i64 st, .int .i64 wm, .slice a n c]
/-- May a block be scanned? -/
def scnP (L st wm : Int) (n : Nat) : Bool := decide (0 ≤ st ∧ st ≤ 4611686020574871551 ∧ 0 ≤ wm ∧ wm ≤ L - 1 ∧ wm ≤ st ∧ 1 ≤ (n : Int) - wm ∧ (n : Int) - wm ≤ 256)

theorem longL_bd {wss : List (List Int)} (h : ∀ x ∈ wss, x.length ≤ 1000000) : 0 ≤ longL wss ∧ longL wss ≤ 1000000 := by
 obtain ⟨N, h1, _, h3⟩ := longL_spec wss
 have := h3 1000000 h
 omega

set_option maxRecDepth 100000 in
set_option maxHeartbeats 4000000 in
theorem scannable_any {W0 : World} {B : Nat} {fold : Bool} {wss : List (List Int)} (nu st wm : Int) (a : Option Addr) (n c : Nat) (w : World) (h : MUse W0 B fold wss w) (hn : n ≤ 1000000) :
  Calls Tryz.prog 73 #[.pointer (some ⟨B, 0, none⟩), .agg (blV nu st wm a n c)] w fun e w' => e = .returned (.bool (scnP (longL wss) st wm n)) ∧ Below w.heap.size w w' := by
 obtain ⟨W, hW⟩ : ∃ W, W = w.alloc (.cells (blV nu st wm a n c) 60) := ⟨_, rfl⟩
 have hB : Below w.heap.size w W := by rw [hW]; exact below_alloc _ _
 have hz : W.heap[w.heap.size]? = some (.cells (blV nu st wm a n c) 60 (0, 0)) := by rw [hW]; exact World.alloc_heap_new _ _
 have HC : Hid (∀ V, RowKit.Below W.heap.size W V → V.cell? ⟨w.heap.size, 0, none⟩ = some (.int .i64 nu) ∧ V.cell? ⟨w.heap.size, 1, none⟩ = some (.int .i64 st) ∧ V.cell? ⟨w.heap.size, 2, none⟩ = some (.int .i64 wm) ∧ V.cell? ⟨w.heap.size, 3, none⟩ = some (.slice a n c) ∧ w.heap.size < V.heap.size) := fun V hV => by
  have h := (hV.block _ (Array.getElem?_eq_some_iff.1 hz).1).trans hz
  exact ⟨by simp [World.cell?, h], by simp [World.cell?, h], by simp [World.cell?, h], by simp [World.cell?, h], (Array.getElem?_eq_some_iff.1 h).1⟩
 obtain ⟨m0, m1⟩ := longL_bd h.len
 obtain ⟨L, hL⟩ : ∃ n, longL wss = n := ⟨_, rfl⟩
 have HU := Lib.hid (h.below hB)
 have KS : Hid (∀ V, RowKit.Below W.heap.size W V → Calls Tryz.prog 108 #[.pointer (some ⟨B, 0, none⟩)] V fun e w' => e = .returned (.int .i64 L) ∧ V = w') := fun V hV => by
  have h := (HU.out.below hV).longest
  rw [hL] at h
  exact h
 rw [hL] at m0 m1 ⊢
 have HB := Lib.hid hB
 obtain ⟨q0, q1, q2, q3, q4⟩ := HC.out W (Below.refl _ _)
 clear hz h hB hL HU
 go_enter Tryz.func73, Tryz.ntmps73
 go_upto_region 1 with fail
 rw [← hW]
 clear hW
 by_cases h0 : st < 0
 ·
  have d0 : decide (st < (0 : Int)) = true := by simpa using h0
  have e : scnP L st wm n = false := by unfold scnP; simp; omega
  have HE := Lib.hid e
  clear e h0
  go_wp2
  go_ret
  exact ⟨by rw [HE.out]; rfl, HB.out⟩
 have d0 : decide (st < (0 : Int)) = false := by simpa using h0
 by_cases h1 : 4611686020574871551 < st
 ·
  have d1 : decide ((4611686020574871551 : Int) < st) = true := by simpa using h1
  have e : scnP L st wm n = false := by unfold scnP; simp; omega
  have HE := Lib.hid e
  clear e h0 h1
  go_wp2
  go_ret
  exact ⟨by rw [HE.out]; rfl, HB.out⟩
 have d1 : decide ((4611686020574871551 : Int) < st) = false := by simpa using h1
 go_upto_region 3 with fail
 clear d0 d1
 by_cases h2 : wm < 0
 ·
  have d2 : decide (wm < (0 : Int)) = true := by simpa using h2
  have e : scnP L st wm n = false := by unfold scnP; simp; omega
  have HE := Lib.hid e
  clear e h0 h1 h2
  refine wp_region_noPanic ?_
  refine wp_region_held_drew (S := RowKit.Below W.heap.size W) (by kernel_rfl) (bel_drewN W 1) (fun hS => ?_)
  obtain ⟨w1, hw1⟩ : ∃ X, X = W.drew := ⟨_, rfl⟩
  rw [← hw1] at hS ⊢
  clear hw1 q0 q1 q2 q3 q4
  change wpAnyH _ _ _ _ _ 18 _ _ _
  iterate 4 (refine tkF 17 (v := ?_) ?_ ?_; rotate_left; (· intro V hV; obtain ⟨q0, q1, q2, q3, q4⟩ := HC.out V hV; first | (go_simp; done) | (go_simp; with_reducible rfl)); try simp only [Act.put, pA, pB, pC])
  refine tkN 4 ?_
  try simp only [Act.put, pA, pB, pC]
  refine tkN 5 ?_
  try simp only [Act.put, pA, pB, pC]
  refine tkN 6 ?_
  try simp only [Act.put, pA, pB, pC]
  refine tkN 7 ?_
  try simp only [Act.put, pA, pB, pC]
  refine tkN 8 ?_
  try simp only [Act.put, pA, pB, pC]
  refine tkN 9 ?_
  try simp only [Act.put, pA, pB, pC]
  iterate 2 (refine tkF 17 (v := ?_) ?_ ?_; rotate_left; (· intro V hV; first | (go_simp; done) | (go_simp; with_reducible rfl)); try simp only [Act.put, pA, pB, pC])
  refine tkN 12 ?_
  try simp only [Act.put, pA, pB, pC]
  refine tkN 13 ?_
  try simp only [Act.put, pA, pB, pC]
  refine tkN 14 ?_
  try simp only [Act.put, pA, pB, pC]
  refine tkN 15 ?_
  try simp only [Act.put, pA, pB, pC]
  refine tkN 16 ?_
  try simp only [Act.put, pA, pB, pC]
  refine tkW 17 (v := ?_) ?_ ?_
  rotate_left
  ·
   intro V hV
   first | (go_simp; done) | (go_simp; with_reducible rfl)
  try simp only [Act.put, pA, pB, pC]
  refine wpAnyH_done (by kernel_rfl) ?_ _
  refine NoPanic.normal ?_
  have HX := Lib.hid hS
  go_wp2
  go_ret
  exact ⟨by rw [HE.out]; rfl, HB.out.trans (HX.out.mono HB.out.size)⟩
 have d2 : decide (wm < (0 : Int)) = false := by simpa using h2
 have hwm : 0 ≤ wm := by omega
 have kw : IntKind.i64.wrap (L - 1) = L - 1 := by rw [IntKind.wrap_i64]; omega
 by_cases h3 : L - 1 < wm
 ·
  have d3 : decide (L - 1 < wm) = true := by simpa using h3
  have e : scnP L st wm n = false := by unfold scnP; simp; omega
  have HE := Lib.hid e
  clear e h0 h1 h2 h3
  refine wp_region_noPanic ?_
  refine wp_region_held_drew (S := RowKit.Below W.heap.size W) (by kernel_rfl) (bel_drewN W 1) (fun hS => ?_)
  obtain ⟨w1, hw1⟩ : ∃ X, X = W.drew := ⟨_, rfl⟩
  rw [← hw1] at hS ⊢
  clear hw1 q0 q1 q2 q3 q4
  change wpAnyH _ _ _ _ _ 18 _ _ _
  iterate 7 (refine tkF 17 (v := ?_) ?_ ?_; rotate_left; (· intro V hV; obtain ⟨q0, q1, q2, q3, q4⟩ := HC.out V hV; first | (go_simp; done) | (go_simp; with_reducible rfl)); try simp only [Act.put, pA, pB, pC])
  refine rdy 7 (fun K hK => ?_)
  go_simp
  go_at_call 108; refine (KS.out w1 hS).mono ?_; rintro e w2 ⟨rfl, rfl⟩
  refine hK.out _ _ (hS) (fun hS2 => ?_)
  clear hK K
  try simp only [Act.put, pA, pB, pC]
  iterate 4 (refine tkF 17 (v := ?_) ?_ ?_; rotate_left; (· intro V hV; first | (go_simp; done) | (go_simp; with_reducible rfl)); try simp only [Act.put, pA, pB, pC])
  refine tkN 12 ?_
  try simp only [Act.put, pA, pB, pC]
  refine tkN 13 ?_
  try simp only [Act.put, pA, pB, pC]
  refine tkN 14 ?_
  try simp only [Act.put, pA, pB, pC]
  refine tkN 15 ?_
  try simp only [Act.put, pA, pB, pC]
  refine tkN 16 ?_
  try simp only [Act.put, pA, pB, pC]
  refine tkW 17 (v := ?_) ?_ ?_
  rotate_left
  ·
   intro V hV
   first | (go_simp; done) | (go_simp; with_reducible rfl)
  try simp only [Act.put, pA, pB, pC]
  refine wpAnyH_done (by kernel_rfl) ?_ _
  refine NoPanic.normal ?_
  have HX := Lib.hid hS2
  go_wp2
  go_ret
  exact ⟨by rw [HE.out]; rfl, HB.out.trans (HX.out.mono HB.out.size)⟩
 have d3 : decide (L - 1 < wm) = false := by simp; omega
 by_cases h4 : st < wm
 ·
  have d4 : decide (st < wm) = true := by simpa using h4
  have e : scnP L st wm n = false := by unfold scnP; simp; omega
  have HE := Lib.hid e
  clear e h0 h1 h2 h3 h4
  refine wp_region_noPanic ?_
  refine wp_region_held_drew (S := RowKit.Below W.heap.size W) (by kernel_rfl) (bel_drewN W 1) (fun hS => ?_)
  obtain ⟨w1, hw1⟩ : ∃ X, X = W.drew := ⟨_, rfl⟩
  rw [← hw1] at hS ⊢
  clear hw1 q0 q1 q2 q3 q4
  change wpAnyH _ _ _ _ _ 18 _ _ _
  iterate 7 (refine tkF 17 (v := ?_) ?_ ?_; rotate_left; (· intro V hV; obtain ⟨q0, q1, q2, q3, q4⟩ := HC.out V hV; first | (go_simp; done) | (go_simp; with_reducible rfl)); try simp only [Act.put, pA, pB, pC])
  refine rdy 7 (fun K hK => ?_)
  go_simp
  go_at_call 108; refine (KS.out w1 hS).mono ?_; rintro e w2 ⟨rfl, rfl⟩
  refine hK.out _ _ (hS) (fun hS2 => ?_)
  clear hK K
  try simp only [Act.put, pA, pB, pC]
  iterate 10 (refine tkF 17 (v := ?_) ?_ ?_; rotate_left; (· intro V hV; obtain ⟨q0, q1, q2, q3, q4⟩ := HC.out V hV; first | (go_simp; done) | (go_simp; with_reducible rfl)); try simp only [Act.put, pA, pB, pC])
  refine wpAnyH_done (by kernel_rfl) ?_ _
  refine NoPanic.normal ?_
  have HX := Lib.hid hS2
  go_wp2
  go_ret
  exact ⟨by rw [HE.out]; rfl, HB.out.trans (HX.out.mono HB.out.size)⟩
 have d4 : decide (st < wm) = false := by simp; omega
 have hwl : wm ≤ 1000000 := by omega
 have e : scnP L st wm n = (decide (1 ≤ (n : Int) - wm) && decide ((n : Int) - wm ≤ 256)) := by
  unfold scnP
  rw [Bool.eq_iff_iff]
  simp
  omega
 have HE := Lib.hid e
 clear e h0 h1 h2 h3 h4
 refine wp_region_noPanic ?_
 refine wp_region_held_drew (S := RowKit.Below W.heap.size W) (by kernel_rfl) (bel_drewN W 1) (fun hS => ?_)
 obtain ⟨w1, hw1⟩ : ∃ X, X = W.drew := ⟨_, rfl⟩
 rw [← hw1] at hS ⊢
 clear hw1 q0 q1 q2 q3 q4
 change wpAnyH _ _ _ _ _ 18 _ _ _
 iterate 7 (refine tkF 17 (v := ?_) ?_ ?_; rotate_left; (· intro V hV; obtain ⟨q0, q1, q2, q3, q4⟩ := HC.out V hV; first | (go_simp; done) | (go_simp; with_reducible rfl)); try simp only [Act.put, pA, pB, pC])
 refine rdy 7 (fun K hK => ?_)
 go_simp
 go_at_call 108; refine (KS.out w1 hS).mono ?_; rintro e w2 ⟨rfl, rfl⟩
 refine hK.out _ _ (hS) (fun hS2 => ?_)
 clear hK K
 try simp only [Act.put, pA, pB, pC]
 iterate 10 (refine tkF 17 (v := ?_) ?_ ?_; rotate_left; (· intro V hV; obtain ⟨q0, q1, q2, q3, q4⟩ := HC.out V hV; first | (go_simp; done) | (go_simp; with_reducible rfl)); try simp only [Act.put, pA, pB, pC])
 refine wpAnyH_done (by kernel_rfl) ?_ _
 refine NoPanic.normal ?_
 have HX := Lib.hid hS2
 obtain ⟨q0, q1, q2, q3, q4⟩ := HC.out w1 hS2
 clear hS hS2 d2 d3 d4
 by_cases h5 : 1 ≤ (n : Int) - wm
 ·
  have d5 : decide (1 ≤ (n : Int) - wm) = true := by simpa using h5
  rw [d5, Bool.true_and] at HE
  clear h5
  go_wp2
  go_ret
  exact ⟨by rw [HE.out]; rfl, HB.out.trans (HX.out.mono HB.out.size)⟩
 ·
  have d5 : decide (1 ≤ (n : Int) - wm) = false := by simpa using h5
  rw [d5, Bool.false_and] at HE
  clear h5
  go_wp2
  go_ret
  exact ⟨by rw [HE.out]; rfl, HB.out.trans (HX.out.mono HB.out.size)⟩
end Go.Proofs.YtbldfgaogmfoaaaGreat

/- Probes (layer 20): Right; walked. Printed by gen_q2.py and exp.py. -/

namespace Go.Proofs.YtbldfgaogmfoaaaGreat
open Go.RowKit Go.Sort

abbrev prV (z d : Int) : Value := .agg #[.int .i64 z, .int .i64 d]
/-- May a probe of a block be? -/
def prbR (N : Nat) (L st wm : Int) (n : Nat) (z d : Int) : Bool := scnP L st wm n && decide ((0 ≤ z ∧ z < (N : Int)) ∧ 0 ≤ d ∧ d ≤ (n : Int))

set_option maxRecDepth 100000 in
set_option maxHeartbeats 4000000 in
theorem right20_any {W0 : World} {B : Nat} {fold : Bool} {wss : List (List Int)} (nu st wm : Int) (a : Option Addr) (n c : Nat) (z d : Int) (w : World) (h : MUse W0 B fold wss w) (hn : n ≤ 1000000) :
  Calls Tryz.prog 34 #[.pointer (some ⟨B, 0, none⟩), .agg (blV nu st wm a n c), prV z d] w fun e w' => e = .returned (.bool (prbR (nodesL wss).length (longL wss) st wm n z d)) ∧ Below w.heap.size w w' := by
 obtain ⟨W, hW⟩ : ∃ W, W = (w.alloc (.cells (blV nu st wm a n c) 60)).alloc (.cells #[.int .i64 z, .int .i64 d] 62) := ⟨_, rfl⟩
 have hB : Below w.heap.size w W := by rw [hW]; exact ((Below.refl _ _).alloc (Nat.le_refl _) _).alloc (by simp) _
 have hO : Bx w.heap.size [.cells (blV nu st wm a n c) 60, .cells #[.int .i64 z, .int .i64 d] 62] W := by rw [hW]; exact ((Bx.nil _ w).snoc _ rfl).snoc _ (by simp)
 have HC : Hid (∀ V, RowKit.Below W.heap.size W V → V.cell? ⟨w.heap.size, 0, none⟩ = some (.int .i64 nu) ∧ V.cell? ⟨w.heap.size, 1, none⟩ = some (.int .i64 st) ∧ V.cell? ⟨w.heap.size, 2, none⟩ = some (.int .i64 wm) ∧ V.cell? ⟨w.heap.size, 3, none⟩ = some (.slice a n c) ∧ V.cell? ⟨w.heap.size + 1, 0, none⟩ = some (.int .i64 z) ∧ V.cell? ⟨w.heap.size + 1, 1, none⟩ = some (.int .i64 d)) := fun V hV => by
  have h := hO.below hV
  exact ⟨h.cell (i := 0) rfl rfl, h.cell (i := 0) rfl rfl, h.cell (i := 0) rfl rfl, h.cell (i := 0) rfl rfl, h.cell (i := 1) rfl rfl, h.cell (i := 1) rfl rfl⟩
 have HU := Lib.hid (h.below hB)
 obtain ⟨N, hN⟩ : ∃ k, (nodesL wss).length = k := ⟨_, rfl⟩
 obtain ⟨S, hS0⟩ : ∃ k, scnP (longL wss) st wm n = k := ⟨_, rfl⟩
 have KS : Hid (∀ V, RowKit.Below W.heap.size W V → Calls Tryz.prog 74 #[.pointer (some ⟨B, 0, none⟩)] V fun e w' => e = .returned (.int .i64 (N : Int)) ∧ V = w') := fun V hV => by
  have h := (HU.out.below hV).states
  rw [hN] at h
  exact h
 have KN : Hid (∀ V, RowKit.Below W.heap.size W V → Calls Tryz.prog 73 #[.pointer (some ⟨B, 0, none⟩), .agg (blV nu st wm a n c)] V fun e w' => e = .returned (.bool S) ∧ RowKit.Below V.heap.size V w') := fun V hV => by
  have h := scannable_any nu st wm a n c V (HU.out.below hV) hn
  rw [hS0] at h
  exact h
 unfold prbR
 rw [hN, hS0]
 have HB := Lib.hid hB
 clear hO h hB hN hS0 HU
 cases S with
 | false =>
  have HE : Hid ((false && decide ((0 ≤ z ∧ z < (N : Int)) ∧ 0 ≤ d ∧ d ≤ (n : Int))) = false) := rfl
  go_enter Tryz.func34, Tryz.ntmps34
  go_upto_region 1 with fail
  rw [← hW]
  clear hW
  refine wp_region_noPanic ?_
  refine wp_region_held_drew (S := RowKit.Below W.heap.size W) (by kernel_rfl) (bel_drewN W 1) (fun hS => ?_)
  obtain ⟨w1, hw1⟩ : ∃ X, X = W.drew := ⟨_, rfl⟩
  rw [← hw1] at hS ⊢
  clear hw1
  change wpAnyH _ _ _ _ _ 29 _ _ _
  iterate 2 (refine tkF 28 (v := ?_) ?_ ?_; rotate_left; (· intro V hV; obtain ⟨q0, q1, q2, q3, q4, q5⟩ := HC.out V hV; first | (go_simp; done) | (go_simp; with_reducible rfl)); try simp only [Act.put, pA, pB, pC])
  refine rdy 2 (fun K hK => ?_)
  go_simp
  go_at_call 73; refine (KN.out w1 hS).mono ?_; rintro e w2 ⟨rfl, hb2⟩
  refine hK.out _ _ (hS.trans (hb2.mono hS.size)) (fun hS2 => ?_)
  clear hK K
  try simp only [Act.put, pA, pB, pC]
  refine tkW 3 (v := ?_) ?_ ?_
  rotate_left
  ·
   intro V hV
   first | (go_simp; done) | (go_simp; with_reducible rfl)
  try simp only [Act.put, pA, pB, pC]
  refine tkN 4 ?_
  try simp only [Act.put, pA, pB, pC]
  refine tkN 5 ?_
  try simp only [Act.put, pA, pB, pC]
  refine tkN 6 ?_
  try simp only [Act.put, pA, pB, pC]
  iterate 2 (refine tkF 28 (v := ?_) ?_ ?_; rotate_left; (· intro V hV; first | (go_simp; done) | (go_simp; with_reducible rfl)); try simp only [Act.put, pA, pB, pC])
  refine tkN 9 ?_
  try simp only [Act.put, pA, pB, pC]
  refine tkN 10 ?_
  try simp only [Act.put, pA, pB, pC]
  refine tkN 11 ?_
  try simp only [Act.put, pA, pB, pC]
  refine tkN 12 ?_
  try simp only [Act.put, pA, pB, pC]
  refine tkN 13 ?_
  try simp only [Act.put, pA, pB, pC]
  iterate 2 (refine tkF 28 (v := ?_) ?_ ?_; rotate_left; (· intro V hV; first | (go_simp; done) | (go_simp; with_reducible rfl)); try simp only [Act.put, pA, pB, pC])
  refine tkN 16 ?_
  try simp only [Act.put, pA, pB, pC]
  refine tkN 17 ?_
  try simp only [Act.put, pA, pB, pC]
  refine tkN 18 ?_
  try simp only [Act.put, pA, pB, pC]
  iterate 2 (refine tkF 28 (v := ?_) ?_ ?_; rotate_left; (· intro V hV; first | (go_simp; done) | (go_simp; with_reducible rfl)); try simp only [Act.put, pA, pB, pC])
  refine tkN 21 ?_
  try simp only [Act.put, pA, pB, pC]
  refine tkN 22 ?_
  try simp only [Act.put, pA, pB, pC]
  refine tkN 23 ?_
  try simp only [Act.put, pA, pB, pC]
  refine tkN 24 ?_
  try simp only [Act.put, pA, pB, pC]
  refine tkN 25 ?_
  try simp only [Act.put, pA, pB, pC]
  refine tkN 26 ?_
  try simp only [Act.put, pA, pB, pC]
  iterate 2 (refine tkF 28 (v := ?_) ?_ ?_; rotate_left; (· intro V hV; first | (go_simp; done) | (go_simp; with_reducible rfl)); try simp only [Act.put, pA, pB, pC])
  refine wpAnyH_done (by kernel_rfl) ?_ _
  refine NoPanic.normal ?_
  have HX := Lib.hid hS2
  go_wp2
  go_ret
  exact ⟨by rw [HE.out]; rfl, HB.out.trans (HX.out.mono HB.out.size)⟩
 | true =>
  by_cases h0 : 0 ≤ z
  case neg =>
   have d0 : decide ((0 : Int) ≤ z) = false := by simpa using h0
   have e : (true && decide ((0 ≤ z ∧ z < (N : Int)) ∧ 0 ≤ d ∧ d ≤ (n : Int))) = false := by
    rw [Bool.true_and]
    first | exact decide_eq_false (by omega) | exact decide_eq_true (by omega)
   have HE := Lib.hid e
   clear e h0
   go_enter Tryz.func34, Tryz.ntmps34
   go_upto_region 1 with fail
   rw [← hW]
   clear hW
   refine wp_region_noPanic ?_
   refine wp_region_held_drew (S := RowKit.Below W.heap.size W) (by kernel_rfl) (bel_drewN W 1) (fun hS => ?_)
   obtain ⟨w1, hw1⟩ : ∃ X, X = W.drew := ⟨_, rfl⟩
   rw [← hw1] at hS ⊢
   clear hw1
   change wpAnyH _ _ _ _ _ 29 _ _ _
   iterate 2 (refine tkF 28 (v := ?_) ?_ ?_; rotate_left; (· intro V hV; obtain ⟨q0, q1, q2, q3, q4, q5⟩ := HC.out V hV; first | (go_simp; done) | (go_simp; with_reducible rfl)); try simp only [Act.put, pA, pB, pC])
   refine rdy 2 (fun K hK => ?_)
   go_simp
   go_at_call 73; refine (KN.out w1 hS).mono ?_; rintro e w2 ⟨rfl, hb2⟩
   refine hK.out _ _ (hS.trans (hb2.mono hS.size)) (fun hS2 => ?_)
   clear hK K
   try simp only [Act.put, pA, pB, pC]
   iterate 6 (refine tkF 28 (v := ?_) ?_ ?_; rotate_left; (· intro V hV; obtain ⟨q0, q1, q2, q3, q4, q5⟩ := HC.out V hV; first | (go_simp; done) | (go_simp; with_reducible rfl)); try simp only [Act.put, pA, pB, pC])
   refine tkN 9 ?_
   try simp only [Act.put, pA, pB, pC]
   refine tkN 10 ?_
   try simp only [Act.put, pA, pB, pC]
   refine tkN 11 ?_
   try simp only [Act.put, pA, pB, pC]
   refine tkN 12 ?_
   try simp only [Act.put, pA, pB, pC]
   refine tkN 13 ?_
   try simp only [Act.put, pA, pB, pC]
   iterate 2 (refine tkF 28 (v := ?_) ?_ ?_; rotate_left; (· intro V hV; first | (go_simp; done) | (go_simp; with_reducible rfl)); try simp only [Act.put, pA, pB, pC])
   refine tkN 16 ?_
   try simp only [Act.put, pA, pB, pC]
   refine tkN 17 ?_
   try simp only [Act.put, pA, pB, pC]
   refine tkN 18 ?_
   try simp only [Act.put, pA, pB, pC]
   iterate 2 (refine tkF 28 (v := ?_) ?_ ?_; rotate_left; (· intro V hV; first | (go_simp; done) | (go_simp; with_reducible rfl)); try simp only [Act.put, pA, pB, pC])
   refine tkN 21 ?_
   try simp only [Act.put, pA, pB, pC]
   refine tkN 22 ?_
   try simp only [Act.put, pA, pB, pC]
   refine tkN 23 ?_
   try simp only [Act.put, pA, pB, pC]
   refine tkN 24 ?_
   try simp only [Act.put, pA, pB, pC]
   refine tkN 25 ?_
   try simp only [Act.put, pA, pB, pC]
   refine tkN 26 ?_
   try simp only [Act.put, pA, pB, pC]
   iterate 2 (refine tkF 28 (v := ?_) ?_ ?_; rotate_left; (· intro V hV; first | (go_simp; done) | (go_simp; with_reducible rfl)); try simp only [Act.put, pA, pB, pC])
   refine wpAnyH_done (by kernel_rfl) ?_ _
   refine NoPanic.normal ?_
   have HX := Lib.hid hS2
   go_wp2
   go_ret
   exact ⟨by rw [HE.out]; rfl, HB.out.trans (HX.out.mono HB.out.size)⟩
  have d0 : decide ((0 : Int) ≤ z) = true := by simpa using h0
  by_cases h1 : z < (N : Int)
  case neg =>
   have d1 : decide (z < (N : Int)) = false := by simpa using h1
   have e : (true && decide ((0 ≤ z ∧ z < (N : Int)) ∧ 0 ≤ d ∧ d ≤ (n : Int))) = false := by
    rw [Bool.true_and]
    first | exact decide_eq_false (by omega) | exact decide_eq_true (by omega)
   have HE := Lib.hid e
   clear e h0 h1
   go_enter Tryz.func34, Tryz.ntmps34
   go_upto_region 1 with fail
   rw [← hW]
   clear hW
   refine wp_region_noPanic ?_
   refine wp_region_held_drew (S := RowKit.Below W.heap.size W) (by kernel_rfl) (bel_drewN W 1) (fun hS => ?_)
   obtain ⟨w1, hw1⟩ : ∃ X, X = W.drew := ⟨_, rfl⟩
   rw [← hw1] at hS ⊢
   clear hw1
   change wpAnyH _ _ _ _ _ 29 _ _ _
   iterate 2 (refine tkF 28 (v := ?_) ?_ ?_; rotate_left; (· intro V hV; obtain ⟨q0, q1, q2, q3, q4, q5⟩ := HC.out V hV; first | (go_simp; done) | (go_simp; with_reducible rfl)); try simp only [Act.put, pA, pB, pC])
   refine rdy 2 (fun K hK => ?_)
   go_simp
   go_at_call 73; refine (KN.out w1 hS).mono ?_; rintro e w2 ⟨rfl, hb2⟩
   refine hK.out _ _ (hS.trans (hb2.mono hS.size)) (fun hS2 => ?_)
   clear hK K
   try simp only [Act.put, pA, pB, pC]
   iterate 9 (refine tkF 28 (v := ?_) ?_ ?_; rotate_left; (· intro V hV; obtain ⟨q0, q1, q2, q3, q4, q5⟩ := HC.out V hV; first | (go_simp; done) | (go_simp; with_reducible rfl)); try simp only [Act.put, pA, pB, pC])
   refine rdy 12 (fun K hK => ?_)
   go_simp
   go_at_call 74; refine (KS.out w2 hS2).mono ?_; rintro e w3 ⟨rfl, rfl⟩
   refine hK.out _ _ (hS2) (fun hS3 => ?_)
   clear hK K
   try simp only [Act.put, pA, pB, pC]
   iterate 3 (refine tkF 28 (v := ?_) ?_ ?_; rotate_left; (· intro V hV; first | (go_simp; done) | (go_simp; with_reducible rfl)); try simp only [Act.put, pA, pB, pC])
   refine tkN 16 ?_
   try simp only [Act.put, pA, pB, pC]
   refine tkN 17 ?_
   try simp only [Act.put, pA, pB, pC]
   refine tkN 18 ?_
   try simp only [Act.put, pA, pB, pC]
   iterate 2 (refine tkF 28 (v := ?_) ?_ ?_; rotate_left; (· intro V hV; first | (go_simp; done) | (go_simp; with_reducible rfl)); try simp only [Act.put, pA, pB, pC])
   refine tkN 21 ?_
   try simp only [Act.put, pA, pB, pC]
   refine tkN 22 ?_
   try simp only [Act.put, pA, pB, pC]
   refine tkN 23 ?_
   try simp only [Act.put, pA, pB, pC]
   refine tkN 24 ?_
   try simp only [Act.put, pA, pB, pC]
   refine tkN 25 ?_
   try simp only [Act.put, pA, pB, pC]
   refine tkN 26 ?_
   try simp only [Act.put, pA, pB, pC]
   iterate 2 (refine tkF 28 (v := ?_) ?_ ?_; rotate_left; (· intro V hV; first | (go_simp; done) | (go_simp; with_reducible rfl)); try simp only [Act.put, pA, pB, pC])
   refine wpAnyH_done (by kernel_rfl) ?_ _
   refine NoPanic.normal ?_
   have HX := Lib.hid hS3
   go_wp2
   go_ret
   exact ⟨by rw [HE.out]; rfl, HB.out.trans (HX.out.mono HB.out.size)⟩
  have d1 : decide (z < (N : Int)) = true := by simpa using h1
  by_cases h2 : 0 ≤ d
  case neg =>
   have d2 : decide ((0 : Int) ≤ d) = false := by simpa using h2
   have e : (true && decide ((0 ≤ z ∧ z < (N : Int)) ∧ 0 ≤ d ∧ d ≤ (n : Int))) = false := by
    rw [Bool.true_and]
    first | exact decide_eq_false (by omega) | exact decide_eq_true (by omega)
   have HE := Lib.hid e
   clear e h0 h1 h2
   go_enter Tryz.func34, Tryz.ntmps34
   go_upto_region 1 with fail
   rw [← hW]
   clear hW
   refine wp_region_noPanic ?_
   refine wp_region_held_drew (S := RowKit.Below W.heap.size W) (by kernel_rfl) (bel_drewN W 1) (fun hS => ?_)
   obtain ⟨w1, hw1⟩ : ∃ X, X = W.drew := ⟨_, rfl⟩
   rw [← hw1] at hS ⊢
   clear hw1
   change wpAnyH _ _ _ _ _ 29 _ _ _
   iterate 2 (refine tkF 28 (v := ?_) ?_ ?_; rotate_left; (· intro V hV; obtain ⟨q0, q1, q2, q3, q4, q5⟩ := HC.out V hV; first | (go_simp; done) | (go_simp; with_reducible rfl)); try simp only [Act.put, pA, pB, pC])
   refine rdy 2 (fun K hK => ?_)
   go_simp
   go_at_call 73; refine (KN.out w1 hS).mono ?_; rintro e w2 ⟨rfl, hb2⟩
   refine hK.out _ _ (hS.trans (hb2.mono hS.size)) (fun hS2 => ?_)
   clear hK K
   try simp only [Act.put, pA, pB, pC]
   iterate 9 (refine tkF 28 (v := ?_) ?_ ?_; rotate_left; (· intro V hV; obtain ⟨q0, q1, q2, q3, q4, q5⟩ := HC.out V hV; first | (go_simp; done) | (go_simp; with_reducible rfl)); try simp only [Act.put, pA, pB, pC])
   refine rdy 12 (fun K hK => ?_)
   go_simp
   go_at_call 74; refine (KS.out w2 hS2).mono ?_; rintro e w3 ⟨rfl, rfl⟩
   refine hK.out _ _ (hS2) (fun hS3 => ?_)
   clear hK K
   try simp only [Act.put, pA, pB, pC]
   iterate 8 (refine tkF 28 (v := ?_) ?_ ?_; rotate_left; (· intro V hV; obtain ⟨q0, q1, q2, q3, q4, q5⟩ := HC.out V hV; first | (go_simp; done) | (go_simp; with_reducible rfl)); try simp only [Act.put, pA, pB, pC])
   refine tkN 21 ?_
   try simp only [Act.put, pA, pB, pC]
   refine tkN 22 ?_
   try simp only [Act.put, pA, pB, pC]
   refine tkN 23 ?_
   try simp only [Act.put, pA, pB, pC]
   refine tkN 24 ?_
   try simp only [Act.put, pA, pB, pC]
   refine tkN 25 ?_
   try simp only [Act.put, pA, pB, pC]
   refine tkN 26 ?_
   try simp only [Act.put, pA, pB, pC]
   iterate 2 (refine tkF 28 (v := ?_) ?_ ?_; rotate_left; (· intro V hV; first | (go_simp; done) | (go_simp; with_reducible rfl)); try simp only [Act.put, pA, pB, pC])
   refine wpAnyH_done (by kernel_rfl) ?_ _
   refine NoPanic.normal ?_
   have HX := Lib.hid hS3
   go_wp2
   go_ret
   exact ⟨by rw [HE.out]; rfl, HB.out.trans (HX.out.mono HB.out.size)⟩
  have d2 : decide ((0 : Int) ≤ d) = true := by simpa using h2
  obtain ⟨D, hD⟩ : ∃ D, decide (d ≤ (n : Int)) = D := ⟨_, rfl⟩
  have e : (true && decide ((0 ≤ z ∧ z < (N : Int)) ∧ 0 ≤ d ∧ d ≤ (n : Int))) = D := by rw [Bool.true_and, ← hD]; simp [h0, h1, h2]
  have HE := Lib.hid e
  clear e h0 h1 h2
  go_enter Tryz.func34, Tryz.ntmps34
  go_upto_region 1 with fail
  rw [← hW]
  clear hW
  refine wp_region_noPanic ?_
  refine wp_region_held_drew (S := RowKit.Below W.heap.size W) (by kernel_rfl) (bel_drewN W 1) (fun hS => ?_)
  obtain ⟨w1, hw1⟩ : ∃ X, X = W.drew := ⟨_, rfl⟩
  rw [← hw1] at hS ⊢
  clear hw1
  change wpAnyH _ _ _ _ _ 29 _ _ _
  iterate 2 (refine tkF 28 (v := ?_) ?_ ?_; rotate_left; (· intro V hV; obtain ⟨q0, q1, q2, q3, q4, q5⟩ := HC.out V hV; first | (go_simp; done) | (go_simp; with_reducible rfl)); try simp only [Act.put, pA, pB, pC])
  refine rdy 2 (fun K hK => ?_)
  go_simp
  go_at_call 73; refine (KN.out w1 hS).mono ?_; rintro e w2 ⟨rfl, hb2⟩
  refine hK.out _ _ (hS.trans (hb2.mono hS.size)) (fun hS2 => ?_)
  clear hK K
  try simp only [Act.put, pA, pB, pC]
  iterate 9 (refine tkF 28 (v := ?_) ?_ ?_; rotate_left; (· intro V hV; obtain ⟨q0, q1, q2, q3, q4, q5⟩ := HC.out V hV; first | (go_simp; done) | (go_simp; with_reducible rfl)); try simp only [Act.put, pA, pB, pC])
  refine rdy 12 (fun K hK => ?_)
  go_simp
  go_at_call 74; refine (KS.out w2 hS2).mono ?_; rintro e w3 ⟨rfl, rfl⟩
  refine hK.out _ _ (hS2) (fun hS3 => ?_)
  clear hK K
  try simp only [Act.put, pA, pB, pC]
  iterate 16 (refine tkF 28 (v := ?_) ?_ ?_; rotate_left; (· intro V hV; obtain ⟨q0, q1, q2, q3, q4, q5⟩ := HC.out V hV; first | (go_simp; done) | (go_simp; with_reducible rfl)); try simp only [Act.put, pA, pB, pC])
  refine wpAnyH_done (by kernel_rfl) ?_ _
  refine NoPanic.normal ?_
  have HX := Lib.hid hS3
  go_wp2
  go_ret
  exact ⟨by rw [HE.out]; rfl, HB.out.trans (HX.out.mono HB.out.size)⟩
end Go.Proofs.YtbldfgaogmfoaaaGreat

/- Probes (layer 20): the document's Right; walked. Printed by gen_q4.py and exp.py. -/

namespace Go.Proofs.YtbldfgaogmfoaaaGreat
open Go.RowKit Go.Sort

set_option maxRecDepth 100000 in
set_option maxHeartbeats 8000000 in
theorem rright20_any (fold : Bool) (a : Option Addr) (la ca : Nat) (nu st wm : Int) (b : Option Addr) (n c : Nat) (z d : Int) (wss : List (List Int)) (w : World) (hA : Wds w a la wss) (hla : la ≤ 1000000) (hM : ∀ x ∈ wss, x.length ≤ 1000000) (hn : n ≤ 1000000) :
  Calls Tryz.prog 35 #[.agg (setV fold a la ca), .agg (blV nu st wm b n c), prV z d] w fun e w' => e = .returned (.bool ((rightP fold wss && scanR (nodesL wss).length z 0) && scnP (longL wss) st wm n && decide (0 ≤ d ∧ d ≤ (n : Int)))) ∧ Below w.heap.size w w' := by
 obtain ⟨W, hW⟩ : ∃ W, W = ((w.alloc (.cells (setV fold a la ca) 24)).alloc (.cells (blV nu st wm b n c) 60)).alloc (.cells #[.int .i64 z, .int .i64 d] 62) := ⟨_, rfl⟩
 have hB : Below w.heap.size w W := by rw [hW]; exact (((Below.refl _ _).alloc (Nat.le_refl _) _).alloc (by simp) _).alloc (by simp; omega) _
 have hO : Bx w.heap.size [.cells (setV fold a la ca) 24, .cells (blV nu st wm b n c) 60, .cells #[.int .i64 z, .int .i64 d] 62] W := by rw [hW]; exact (((Bx.nil _ w).snoc _ rfl).snoc _ (by simp)).snoc _ (by simp)
 have HC : Hid (∀ V, RowKit.Below W.heap.size W V → V.cell? ⟨w.heap.size, 0, none⟩ = some (.bool fold) ∧ V.cell? ⟨w.heap.size, 1, none⟩ = some (.slice a la ca) ∧ V.cell? ⟨w.heap.size + 1, 0, none⟩ = some (.int .i64 nu) ∧ V.cell? ⟨w.heap.size + 1, 1, none⟩ = some (.int .i64 st) ∧ V.cell? ⟨w.heap.size + 1, 2, none⟩ = some (.int .i64 wm) ∧ V.cell? ⟨w.heap.size + 1, 3, none⟩ = some (.slice b n c) ∧ V.cell? ⟨w.heap.size + 1 + 1, 0, none⟩ = some (.int .i64 z) ∧ V.cell? ⟨w.heap.size + 1 + 1, 1, none⟩ = some (.int .i64 d)) := fun V hV => by
  have h := hO.below hV
  exact ⟨h.cell (i := 0) rfl rfl, h.cell (i := 0) rfl rfl, h.cell (i := 1) rfl rfl, h.cell (i := 1) rfl rfl, h.cell (i := 1) rfl rfl, h.cell (i := 1) rfl rfl, h.cell (i := 2) rfl rfl, h.cell (i := 2) rfl rfl⟩
 obtain ⟨m0, m1⟩ := longL_bd hM
 obtain ⟨L, hL⟩ : ∃ k, longL wss = k := ⟨_, rfl⟩
 obtain ⟨R, hR⟩ : ∃ k, (rightP fold wss && scanR (nodesL wss).length z 0) = k := ⟨_, rfl⟩
 have KR : Hid (∀ V, RowKit.Below W.heap.size W V → Calls Tryz.prog 75 #[.agg (setV fold a la ca), .agg #[.int .i64 z, .int .i64 0]] V fun e w' => e = .returned (.bool R) ∧ RowKit.Below V.heap.size V w') := fun V hV => by
  have h := rright14_any fold a la ca z 0 wss V (hA.below (hB.trans (hV.mono hB.size))) hla hM
  rw [hR] at h
  exact h
 have KS : Hid (∀ V, RowKit.Below W.heap.size W V → Calls Tryz.prog 41 #[.agg (setV fold a la ca)] V fun e w' => e = .returned (.int .i64 L) ∧ RowKit.Below V.heap.size V w') := fun V hV => by
  have h := longest_any fold a la ca wss V (hA.below (hB.trans (hV.mono hB.size))) hla
  rw [hL] at h
  exact h
 rw [hL] at m0 m1 ⊢
 rw [hR]
 have HB := Lib.hid hB
 have kw : IntKind.i64.wrap (L - 1) = L - 1 := by rw [IntKind.wrap_i64]; omega
 clear hO hA hB hL hR hM hla
 cases R with
 | false =>
  have HE : Hid ((false && scnP L st wm n && decide (0 ≤ d ∧ d ≤ (n : Int))) = false) := by simp [Hid]
  go_enter Tryz.func35, Tryz.ntmps35
  go_upto_region 1 with fail
  rw [← hW]
  clear hW
  refine wp_region_noPanic ?_
  refine wp_region_held_drew (S := RowKit.Below W.heap.size W) (by kernel_rfl) (bel_drewN W 1) (fun hS => ?_)
  obtain ⟨w1, hw1⟩ : ∃ X, X = W.drew := ⟨_, rfl⟩
  rw [← hw1] at hS ⊢
  clear hw1
  change wpAnyH _ _ _ _ _ 36 _ _ _
  iterate 4 (refine tkF 35 (v := ?_) ?_ ?_; rotate_left; (· intro V hV; obtain ⟨q0, q1, q2, q3, q4, q5, q6, q7⟩ := HC.out V hV; first | (go_simp; done) | (go_simp; with_reducible rfl)); try simp only [Act.put, pA, pB, pC])
  refine rdy 4 (fun K hK => ?_)
  go_simp
  go_at_call 75; refine (KR.out w1 hS).mono ?_; rintro e w2 ⟨rfl, hb2⟩
  refine hK.out _ _ (hS.trans (hb2.mono hS.size)) (fun hS2 => ?_)
  clear hK K
  try simp only [Act.put, pA, pB, pC]
  iterate 2 (refine tkF 35 (v := ?_) ?_ ?_; rotate_left; (· intro V hV; first | (go_simp; done) | (go_simp; with_reducible rfl)); try simp only [Act.put, pA, pB, pC])
  refine tkN 7 ?_
  try simp only [Act.put, pA, pB, pC]
  refine tkN 8 ?_
  try simp only [Act.put, pA, pB, pC]
  refine tkN 9 ?_
  try simp only [Act.put, pA, pB, pC]
  iterate 2 (refine tkF 35 (v := ?_) ?_ ?_; rotate_left; (· intro V hV; first | (go_simp; done) | (go_simp; with_reducible rfl)); try simp only [Act.put, pA, pB, pC])
  refine tkN 12 ?_
  try simp only [Act.put, pA, pB, pC]
  refine tkN 13 ?_
  try simp only [Act.put, pA, pB, pC]
  refine tkN 14 ?_
  try simp only [Act.put, pA, pB, pC]
  iterate 2 (refine tkF 35 (v := ?_) ?_ ?_; rotate_left; (· intro V hV; first | (go_simp; done) | (go_simp; with_reducible rfl)); try simp only [Act.put, pA, pB, pC])
  refine tkN 17 ?_
  try simp only [Act.put, pA, pB, pC]
  refine tkN 18 ?_
  try simp only [Act.put, pA, pB, pC]
  refine tkN 19 ?_
  try simp only [Act.put, pA, pB, pC]
  iterate 2 (refine tkF 35 (v := ?_) ?_ ?_; rotate_left; (· intro V hV; first | (go_simp; done) | (go_simp; with_reducible rfl)); try simp only [Act.put, pA, pB, pC])
  refine tkN 22 ?_
  try simp only [Act.put, pA, pB, pC]
  refine tkN 23 ?_
  try simp only [Act.put, pA, pB, pC]
  refine tkN 24 ?_
  try simp only [Act.put, pA, pB, pC]
  refine tkN 25 ?_
  try simp only [Act.put, pA, pB, pC]
  refine tkN 26 ?_
  try simp only [Act.put, pA, pB, pC]
  refine tkN 27 ?_
  try simp only [Act.put, pA, pB, pC]
  iterate 2 (refine tkF 35 (v := ?_) ?_ ?_; rotate_left; (· intro V hV; first | (go_simp; done) | (go_simp; with_reducible rfl)); try simp only [Act.put, pA, pB, pC])
  refine tkN 30 ?_
  try simp only [Act.put, pA, pB, pC]
  refine tkN 31 ?_
  try simp only [Act.put, pA, pB, pC]
  refine tkN 32 ?_
  try simp only [Act.put, pA, pB, pC]
  refine tkN 33 ?_
  try simp only [Act.put, pA, pB, pC]
  refine tkN 34 ?_
  try simp only [Act.put, pA, pB, pC]
  refine tkW 35 (v := ?_) ?_ ?_
  rotate_left
  ·
   intro V hV
   first | (go_simp; done) | (go_simp; with_reducible rfl)
  try simp only [Act.put, pA, pB, pC]
  refine wpAnyH_done (by kernel_rfl) ?_ _
  refine NoPanic.normal ?_
  have HX := Lib.hid hS2
  go_wp2
  go_ret
  exact ⟨by rw [HE.out]; rfl, HB.out.trans (HX.out.mono HB.out.size)⟩
 | true =>
  by_cases h0 : st < 0
  case pos =>
   have d0 : decide (st < (0 : Int)) = true := by simpa using h0
   have e : (true && scnP L st wm n && decide (0 ≤ d ∧ d ≤ (n : Int))) = false := by
    have e : scnP L st wm n = false := by unfold scnP; simp; omega
    rw [e]; rfl
   have HE := Lib.hid e
   clear e h0
   go_enter Tryz.func35, Tryz.ntmps35
   go_upto_region 1 with fail
   rw [← hW]
   clear hW
   refine wp_region_noPanic ?_
   refine wp_region_held_drew (S := RowKit.Below W.heap.size W) (by kernel_rfl) (bel_drewN W 1) (fun hS => ?_)
   obtain ⟨w1, hw1⟩ : ∃ X, X = W.drew := ⟨_, rfl⟩
   rw [← hw1] at hS ⊢
   clear hw1
   change wpAnyH _ _ _ _ _ 36 _ _ _
   iterate 4 (refine tkF 35 (v := ?_) ?_ ?_; rotate_left; (· intro V hV; obtain ⟨q0, q1, q2, q3, q4, q5, q6, q7⟩ := HC.out V hV; first | (go_simp; done) | (go_simp; with_reducible rfl)); try simp only [Act.put, pA, pB, pC])
   refine rdy 4 (fun K hK => ?_)
   go_simp
   go_at_call 75; refine (KR.out w1 hS).mono ?_; rintro e w2 ⟨rfl, hb2⟩
   refine hK.out _ _ (hS.trans (hb2.mono hS.size)) (fun hS2 => ?_)
   clear hK K
   try simp only [Act.put, pA, pB, pC]
   iterate 7 (refine tkF 35 (v := ?_) ?_ ?_; rotate_left; (· intro V hV; obtain ⟨q0, q1, q2, q3, q4, q5, q6, q7⟩ := HC.out V hV; first | (go_simp; done) | (go_simp; with_reducible rfl)); try simp only [Act.put, pA, pB, pC])
   refine tkN 12 ?_
   try simp only [Act.put, pA, pB, pC]
   refine tkN 13 ?_
   try simp only [Act.put, pA, pB, pC]
   refine tkN 14 ?_
   try simp only [Act.put, pA, pB, pC]
   iterate 2 (refine tkF 35 (v := ?_) ?_ ?_; rotate_left; (· intro V hV; first | (go_simp; done) | (go_simp; with_reducible rfl)); try simp only [Act.put, pA, pB, pC])
   refine tkN 17 ?_
   try simp only [Act.put, pA, pB, pC]
   refine tkN 18 ?_
   try simp only [Act.put, pA, pB, pC]
   refine tkN 19 ?_
   try simp only [Act.put, pA, pB, pC]
   iterate 2 (refine tkF 35 (v := ?_) ?_ ?_; rotate_left; (· intro V hV; first | (go_simp; done) | (go_simp; with_reducible rfl)); try simp only [Act.put, pA, pB, pC])
   refine tkN 22 ?_
   try simp only [Act.put, pA, pB, pC]
   refine tkN 23 ?_
   try simp only [Act.put, pA, pB, pC]
   refine tkN 24 ?_
   try simp only [Act.put, pA, pB, pC]
   refine tkN 25 ?_
   try simp only [Act.put, pA, pB, pC]
   refine tkN 26 ?_
   try simp only [Act.put, pA, pB, pC]
   refine tkN 27 ?_
   try simp only [Act.put, pA, pB, pC]
   iterate 2 (refine tkF 35 (v := ?_) ?_ ?_; rotate_left; (· intro V hV; first | (go_simp; done) | (go_simp; with_reducible rfl)); try simp only [Act.put, pA, pB, pC])
   refine tkN 30 ?_
   try simp only [Act.put, pA, pB, pC]
   refine tkN 31 ?_
   try simp only [Act.put, pA, pB, pC]
   refine tkN 32 ?_
   try simp only [Act.put, pA, pB, pC]
   refine tkN 33 ?_
   try simp only [Act.put, pA, pB, pC]
   refine tkN 34 ?_
   try simp only [Act.put, pA, pB, pC]
   refine tkW 35 (v := ?_) ?_ ?_
   rotate_left
   ·
    intro V hV
    first | (go_simp; done) | (go_simp; with_reducible rfl)
   try simp only [Act.put, pA, pB, pC]
   refine wpAnyH_done (by kernel_rfl) ?_ _
   refine NoPanic.normal ?_
   have HX := Lib.hid hS2
   go_wp2
   go_ret
   exact ⟨by rw [HE.out]; rfl, HB.out.trans (HX.out.mono HB.out.size)⟩
  have d0 : decide (st < (0 : Int)) = false := by simp; omega
  by_cases h1 : 4611686020574871551 < st
  case pos =>
   have d1 : decide ((4611686020574871551 : Int) < st) = true := by simpa using h1
   have e : (true && scnP L st wm n && decide (0 ≤ d ∧ d ≤ (n : Int))) = false := by
    have e : scnP L st wm n = false := by unfold scnP; simp; omega
    rw [e]; rfl
   have HE := Lib.hid e
   clear e h0 h1
   go_enter Tryz.func35, Tryz.ntmps35
   go_upto_region 1 with fail
   rw [← hW]
   clear hW
   refine wp_region_noPanic ?_
   refine wp_region_held_drew (S := RowKit.Below W.heap.size W) (by kernel_rfl) (bel_drewN W 1) (fun hS => ?_)
   obtain ⟨w1, hw1⟩ : ∃ X, X = W.drew := ⟨_, rfl⟩
   rw [← hw1] at hS ⊢
   clear hw1
   change wpAnyH _ _ _ _ _ 36 _ _ _
   iterate 4 (refine tkF 35 (v := ?_) ?_ ?_; rotate_left; (· intro V hV; obtain ⟨q0, q1, q2, q3, q4, q5, q6, q7⟩ := HC.out V hV; first | (go_simp; done) | (go_simp; with_reducible rfl)); try simp only [Act.put, pA, pB, pC])
   refine rdy 4 (fun K hK => ?_)
   go_simp
   go_at_call 75; refine (KR.out w1 hS).mono ?_; rintro e w2 ⟨rfl, hb2⟩
   refine hK.out _ _ (hS.trans (hb2.mono hS.size)) (fun hS2 => ?_)
   clear hK K
   try simp only [Act.put, pA, pB, pC]
   iterate 12 (refine tkF 35 (v := ?_) ?_ ?_; rotate_left; (· intro V hV; obtain ⟨q0, q1, q2, q3, q4, q5, q6, q7⟩ := HC.out V hV; first | (go_simp; done) | (go_simp; with_reducible rfl)); try simp only [Act.put, pA, pB, pC])
   refine tkN 17 ?_
   try simp only [Act.put, pA, pB, pC]
   refine tkN 18 ?_
   try simp only [Act.put, pA, pB, pC]
   refine tkN 19 ?_
   try simp only [Act.put, pA, pB, pC]
   iterate 2 (refine tkF 35 (v := ?_) ?_ ?_; rotate_left; (· intro V hV; first | (go_simp; done) | (go_simp; with_reducible rfl)); try simp only [Act.put, pA, pB, pC])
   refine tkN 22 ?_
   try simp only [Act.put, pA, pB, pC]
   refine tkN 23 ?_
   try simp only [Act.put, pA, pB, pC]
   refine tkN 24 ?_
   try simp only [Act.put, pA, pB, pC]
   refine tkN 25 ?_
   try simp only [Act.put, pA, pB, pC]
   refine tkN 26 ?_
   try simp only [Act.put, pA, pB, pC]
   refine tkN 27 ?_
   try simp only [Act.put, pA, pB, pC]
   iterate 2 (refine tkF 35 (v := ?_) ?_ ?_; rotate_left; (· intro V hV; first | (go_simp; done) | (go_simp; with_reducible rfl)); try simp only [Act.put, pA, pB, pC])
   refine tkN 30 ?_
   try simp only [Act.put, pA, pB, pC]
   refine tkN 31 ?_
   try simp only [Act.put, pA, pB, pC]
   refine tkN 32 ?_
   try simp only [Act.put, pA, pB, pC]
   refine tkN 33 ?_
   try simp only [Act.put, pA, pB, pC]
   refine tkN 34 ?_
   try simp only [Act.put, pA, pB, pC]
   refine tkW 35 (v := ?_) ?_ ?_
   rotate_left
   ·
    intro V hV
    first | (go_simp; done) | (go_simp; with_reducible rfl)
   try simp only [Act.put, pA, pB, pC]
   refine wpAnyH_done (by kernel_rfl) ?_ _
   refine NoPanic.normal ?_
   have HX := Lib.hid hS2
   go_wp2
   go_ret
   exact ⟨by rw [HE.out]; rfl, HB.out.trans (HX.out.mono HB.out.size)⟩
  have d1 : decide ((4611686020574871551 : Int) < st) = false := by simp; omega
  by_cases h2 : wm < 0
  case pos =>
   have d2 : decide (wm < (0 : Int)) = true := by simpa using h2
   have e : (true && scnP L st wm n && decide (0 ≤ d ∧ d ≤ (n : Int))) = false := by
    have e : scnP L st wm n = false := by unfold scnP; simp; omega
    rw [e]; rfl
   have HE := Lib.hid e
   clear e h0 h1 h2
   go_enter Tryz.func35, Tryz.ntmps35
   go_upto_region 1 with fail
   rw [← hW]
   clear hW
   refine wp_region_noPanic ?_
   refine wp_region_held_drew (S := RowKit.Below W.heap.size W) (by kernel_rfl) (bel_drewN W 1) (fun hS => ?_)
   obtain ⟨w1, hw1⟩ : ∃ X, X = W.drew := ⟨_, rfl⟩
   rw [← hw1] at hS ⊢
   clear hw1
   change wpAnyH _ _ _ _ _ 36 _ _ _
   iterate 4 (refine tkF 35 (v := ?_) ?_ ?_; rotate_left; (· intro V hV; obtain ⟨q0, q1, q2, q3, q4, q5, q6, q7⟩ := HC.out V hV; first | (go_simp; done) | (go_simp; with_reducible rfl)); try simp only [Act.put, pA, pB, pC])
   refine rdy 4 (fun K hK => ?_)
   go_simp
   go_at_call 75; refine (KR.out w1 hS).mono ?_; rintro e w2 ⟨rfl, hb2⟩
   refine hK.out _ _ (hS.trans (hb2.mono hS.size)) (fun hS2 => ?_)
   clear hK K
   try simp only [Act.put, pA, pB, pC]
   iterate 17 (refine tkF 35 (v := ?_) ?_ ?_; rotate_left; (· intro V hV; obtain ⟨q0, q1, q2, q3, q4, q5, q6, q7⟩ := HC.out V hV; first | (go_simp; done) | (go_simp; with_reducible rfl)); try simp only [Act.put, pA, pB, pC])
   refine tkN 22 ?_
   try simp only [Act.put, pA, pB, pC]
   refine tkN 23 ?_
   try simp only [Act.put, pA, pB, pC]
   refine tkN 24 ?_
   try simp only [Act.put, pA, pB, pC]
   refine tkN 25 ?_
   try simp only [Act.put, pA, pB, pC]
   refine tkN 26 ?_
   try simp only [Act.put, pA, pB, pC]
   refine tkN 27 ?_
   try simp only [Act.put, pA, pB, pC]
   iterate 2 (refine tkF 35 (v := ?_) ?_ ?_; rotate_left; (· intro V hV; first | (go_simp; done) | (go_simp; with_reducible rfl)); try simp only [Act.put, pA, pB, pC])
   refine tkN 30 ?_
   try simp only [Act.put, pA, pB, pC]
   refine tkN 31 ?_
   try simp only [Act.put, pA, pB, pC]
   refine tkN 32 ?_
   try simp only [Act.put, pA, pB, pC]
   refine tkN 33 ?_
   try simp only [Act.put, pA, pB, pC]
   refine tkN 34 ?_
   try simp only [Act.put, pA, pB, pC]
   refine tkW 35 (v := ?_) ?_ ?_
   rotate_left
   ·
    intro V hV
    first | (go_simp; done) | (go_simp; with_reducible rfl)
   try simp only [Act.put, pA, pB, pC]
   refine wpAnyH_done (by kernel_rfl) ?_ _
   refine NoPanic.normal ?_
   have HX := Lib.hid hS2
   go_wp2
   go_ret
   exact ⟨by rw [HE.out]; rfl, HB.out.trans (HX.out.mono HB.out.size)⟩
  have d2 : decide (wm < (0 : Int)) = false := by simp; omega
  by_cases h3 : L - 1 < wm
  case pos =>
   have d3 : decide (L - 1 < wm) = true := by simpa using h3
   have e : (true && scnP L st wm n && decide (0 ≤ d ∧ d ≤ (n : Int))) = false := by
    have e : scnP L st wm n = false := by unfold scnP; simp; omega
    rw [e]; rfl
   have HE := Lib.hid e
   clear e h0 h1 h2 h3
   go_enter Tryz.func35, Tryz.ntmps35
   go_upto_region 1 with fail
   rw [← hW]
   clear hW
   refine wp_region_noPanic ?_
   refine wp_region_held_drew (S := RowKit.Below W.heap.size W) (by kernel_rfl) (bel_drewN W 1) (fun hS => ?_)
   obtain ⟨w1, hw1⟩ : ∃ X, X = W.drew := ⟨_, rfl⟩
   rw [← hw1] at hS ⊢
   clear hw1
   change wpAnyH _ _ _ _ _ 36 _ _ _
   iterate 4 (refine tkF 35 (v := ?_) ?_ ?_; rotate_left; (· intro V hV; obtain ⟨q0, q1, q2, q3, q4, q5, q6, q7⟩ := HC.out V hV; first | (go_simp; done) | (go_simp; with_reducible rfl)); try simp only [Act.put, pA, pB, pC])
   refine rdy 4 (fun K hK => ?_)
   go_simp
   go_at_call 75; refine (KR.out w1 hS).mono ?_; rintro e w2 ⟨rfl, hb2⟩
   refine hK.out _ _ (hS.trans (hb2.mono hS.size)) (fun hS2 => ?_)
   clear hK K
   try simp only [Act.put, pA, pB, pC]
   iterate 20 (refine tkF 35 (v := ?_) ?_ ?_; rotate_left; (· intro V hV; obtain ⟨q0, q1, q2, q3, q4, q5, q6, q7⟩ := HC.out V hV; first | (go_simp; done) | (go_simp; with_reducible rfl)); try simp only [Act.put, pA, pB, pC])
   refine rdy 25 (fun K hK => ?_)
   go_simp
   go_at_call 41; refine (KS.out w2 hS2).mono ?_; rintro e w3 ⟨rfl, hb3⟩
   refine hK.out _ _ (hS2.trans (hb3.mono hS2.size)) (fun hS3 => ?_)
   clear hK K
   try simp only [Act.put, pA, pB, pC]
   iterate 4 (refine tkF 35 (v := ?_) ?_ ?_; rotate_left; (· intro V hV; first | (go_simp; done) | (go_simp; with_reducible rfl)); try simp only [Act.put, pA, pB, pC])
   refine tkN 30 ?_
   try simp only [Act.put, pA, pB, pC]
   refine tkN 31 ?_
   try simp only [Act.put, pA, pB, pC]
   refine tkN 32 ?_
   try simp only [Act.put, pA, pB, pC]
   refine tkN 33 ?_
   try simp only [Act.put, pA, pB, pC]
   refine tkN 34 ?_
   try simp only [Act.put, pA, pB, pC]
   refine tkW 35 (v := ?_) ?_ ?_
   rotate_left
   ·
    intro V hV
    first | (go_simp; done) | (go_simp; with_reducible rfl)
   try simp only [Act.put, pA, pB, pC]
   refine wpAnyH_done (by kernel_rfl) ?_ _
   refine NoPanic.normal ?_
   have HX := Lib.hid hS3
   go_wp2
   go_ret
   exact ⟨by rw [HE.out]; rfl, HB.out.trans (HX.out.mono HB.out.size)⟩
  have d3 : decide (L - 1 < wm) = false := by simp; omega
  by_cases h4 : st < wm
  case pos =>
   have d4 : decide (st < wm) = true := by simpa using h4
   have e : (true && scnP L st wm n && decide (0 ≤ d ∧ d ≤ (n : Int))) = false := by
    have e : scnP L st wm n = false := by unfold scnP; simp; omega
    rw [e]; rfl
   have HE := Lib.hid e
   clear e h0 h1 h2 h3 h4
   go_enter Tryz.func35, Tryz.ntmps35
   go_upto_region 1 with fail
   rw [← hW]
   clear hW
   refine wp_region_noPanic ?_
   refine wp_region_held_drew (S := RowKit.Below W.heap.size W) (by kernel_rfl) (bel_drewN W 1) (fun hS => ?_)
   obtain ⟨w1, hw1⟩ : ∃ X, X = W.drew := ⟨_, rfl⟩
   rw [← hw1] at hS ⊢
   clear hw1
   change wpAnyH _ _ _ _ _ 36 _ _ _
   iterate 4 (refine tkF 35 (v := ?_) ?_ ?_; rotate_left; (· intro V hV; obtain ⟨q0, q1, q2, q3, q4, q5, q6, q7⟩ := HC.out V hV; first | (go_simp; done) | (go_simp; with_reducible rfl)); try simp only [Act.put, pA, pB, pC])
   refine rdy 4 (fun K hK => ?_)
   go_simp
   go_at_call 75; refine (KR.out w1 hS).mono ?_; rintro e w2 ⟨rfl, hb2⟩
   refine hK.out _ _ (hS.trans (hb2.mono hS.size)) (fun hS2 => ?_)
   clear hK K
   try simp only [Act.put, pA, pB, pC]
   iterate 20 (refine tkF 35 (v := ?_) ?_ ?_; rotate_left; (· intro V hV; obtain ⟨q0, q1, q2, q3, q4, q5, q6, q7⟩ := HC.out V hV; first | (go_simp; done) | (go_simp; with_reducible rfl)); try simp only [Act.put, pA, pB, pC])
   refine rdy 25 (fun K hK => ?_)
   go_simp
   go_at_call 41; refine (KS.out w2 hS2).mono ?_; rintro e w3 ⟨rfl, hb3⟩
   refine hK.out _ _ (hS2.trans (hb3.mono hS2.size)) (fun hS3 => ?_)
   clear hK K
   try simp only [Act.put, pA, pB, pC]
   iterate 10 (refine tkF 35 (v := ?_) ?_ ?_; rotate_left; (· intro V hV; obtain ⟨q0, q1, q2, q3, q4, q5, q6, q7⟩ := HC.out V hV; first | (go_simp; done) | (go_simp; with_reducible rfl)); try simp only [Act.put, pA, pB, pC])
   refine wpAnyH_done (by kernel_rfl) ?_ _
   refine NoPanic.normal ?_
   have HX := Lib.hid hS3
   go_wp2
   go_ret
   exact ⟨by rw [HE.out]; rfl, HB.out.trans (HX.out.mono HB.out.size)⟩
  have d4 : decide (st < wm) = false := by simp; omega
  have hwm : 0 ≤ wm := by omega
  have hwl : wm ≤ 1000000 := by omega
  have e : (true && scnP L st wm n && decide (0 ≤ d ∧ d ≤ (n : Int))) = (decide (wm < (n : Int)) && decide ((n : Int) ≤ wm + 256) && decide (0 ≤ d) && decide (d ≤ (n : Int))) := by
   unfold scnP
   rw [Bool.eq_iff_iff]
   simp
   omega
  have HE := Lib.hid e
  clear e h0 h1 h2 h3 h4
  go_enter Tryz.func35, Tryz.ntmps35
  go_upto_region 1 with fail
  rw [← hW]
  clear hW
  refine wp_region_noPanic ?_
  refine wp_region_held_drew (S := RowKit.Below W.heap.size W) (by kernel_rfl) (bel_drewN W 1) (fun hS => ?_)
  obtain ⟨w1, hw1⟩ : ∃ X, X = W.drew := ⟨_, rfl⟩
  rw [← hw1] at hS ⊢
  clear hw1
  change wpAnyH _ _ _ _ _ 36 _ _ _
  iterate 4 (refine tkF 35 (v := ?_) ?_ ?_; rotate_left; (· intro V hV; obtain ⟨q0, q1, q2, q3, q4, q5, q6, q7⟩ := HC.out V hV; first | (go_simp; done) | (go_simp; with_reducible rfl)); try simp only [Act.put, pA, pB, pC])
  refine rdy 4 (fun K hK => ?_)
  go_simp
  go_at_call 75; refine (KR.out w1 hS).mono ?_; rintro e w2 ⟨rfl, hb2⟩
  refine hK.out _ _ (hS.trans (hb2.mono hS.size)) (fun hS2 => ?_)
  clear hK K
  try simp only [Act.put, pA, pB, pC]
  iterate 20 (refine tkF 35 (v := ?_) ?_ ?_; rotate_left; (· intro V hV; obtain ⟨q0, q1, q2, q3, q4, q5, q6, q7⟩ := HC.out V hV; first | (go_simp; done) | (go_simp; with_reducible rfl)); try simp only [Act.put, pA, pB, pC])
  refine rdy 25 (fun K hK => ?_)
  go_simp
  go_at_call 41; refine (KS.out w2 hS2).mono ?_; rintro e w3 ⟨rfl, hb3⟩
  refine hK.out _ _ (hS2.trans (hb3.mono hS2.size)) (fun hS3 => ?_)
  clear hK K
  try simp only [Act.put, pA, pB, pC]
  iterate 10 (refine tkF 35 (v := ?_) ?_ ?_; rotate_left; (· intro V hV; obtain ⟨q0, q1, q2, q3, q4, q5, q6, q7⟩ := HC.out V hV; first | (go_simp; done) | (go_simp; with_reducible rfl)); try simp only [Act.put, pA, pB, pC])
  refine wpAnyH_done (by kernel_rfl) ?_ _
  refine NoPanic.normal ?_
  have HX := Lib.hid hS3
  obtain ⟨q0, q1, q2, q3, q4, q5, q6, q7⟩ := HC.out w3 hS3
  clear hS hS2 hS3 hb2 hb3 d0 d1 d2 d3 d4
  go_upto_region 3 with fail
  cases e1 : decide (wm < (n : Int)) with
  | false =>
   rw [e1] at HE
   go_wp2
   go_ret
   exact ⟨by rw [HE.out]; rfl, HB.out.trans (HX.out.mono HB.out.size)⟩
  | true =>
   rw [e1] at HE
   cases e2 : decide ((n : Int) ≤ wm + 256) with
   | false =>
    rw [e2] at HE
    go_wp2
    go_ret
    exact ⟨by rw [HE.out]; rfl, HB.out.trans (HX.out.mono HB.out.size)⟩
   | true =>
    rw [e2] at HE
    cases e3 : decide (0 ≤ d) with
    | false =>
     rw [e3] at HE
     go_wp2
     go_ret
     exact ⟨by rw [HE.out]; rfl, HB.out.trans (HX.out.mono HB.out.size)⟩
    | true =>
     rw [e3] at HE
     cases e4 : decide (d ≤ (n : Int)) with
     | false =>
      rw [e4] at HE
      go_wp2
      go_ret
      exact ⟨by rw [HE.out]; rfl, HB.out.trans (HX.out.mono HB.out.size)⟩
     | true =>
      rw [e4] at HE
      go_wp2
      go_ret
      exact ⟨by rw [HE.out]; rfl, HB.out.trans (HX.out.mono HB.out.size)⟩
end Go.Proofs.YtbldfgaogmfoaaaGreat

/- Probes (layer 20): the document's Slice where it may not be; walked. -/

namespace Go.Proofs.YtbldfgaogmfoaaaGreat
open Go.RowKit Go.Sort

theorem results_probe3 {fn : Func} {p u v : Tmp} {tmps : Array Value} {W : World} {B : Nat} {x y : Value} (h : fn.results = #[.cell p 62, .tmp u, .tmp v]) (hp : tmps.getD p undef = .pointer (some ⟨B, 0, none⟩)) (hB : W.heap[B]? = some (.cells #[x, y] 62 (0, 0))) :
  (results fn tmps).run Tryz.prog W = .ok (.tuple #[.agg #[x, y], tmps.getD u undef, tmps.getD v undef]) W := by
 have hl : (loadVar 62 ⟨B, 0, none⟩).run Tryz.prog W = .ok (.agg #[x, y]) W := run_loadVar_row W B 62 62 #[x, y] (0, 0) _ hB Tryz.underlying62 rfl (by kernel_rfl)
 have hp' : tmps[p]?.getD undef = .pointer (some ⟨B, 0, none⟩) := by simpa using hp
 simp [results, h, hp', asAddr, hl, Result.andThen]

/-- What the document's Right computes. -/
def prbD (fold : Bool) (wss : List (List Int)) (st wm : Int) (n : Nat) (z d : Int) : Bool := (rightP fold wss && scanR (nodesL wss).length z 0) && scnP (longL wss) st wm n && decide (0 ≤ d ∧ d ≤ (n : Int))

set_option maxRecDepth 100000 in
set_option maxHeartbeats 8000000 in
theorem rslice20_no (fold : Bool) (a : Option Addr) (la ca : Nat) (nu st wm : Int) (b : Option Addr) (n c : Nat) (z d m : Int) (wss : List (List Int)) (w : World) (hA : Wds w a la wss) (hla : la ≤ 1000000) (hM : ∀ x ∈ wss, x.length ≤ 1000000) (hn : n ≤ 1000000) (hno : prbD fold wss st wm n z d = false) :
  Calls Tryz.prog 32 #[.agg (setV fold a la ca), .agg (blV nu st wm b n c), prV z d, .int .i64 m] w fun e w' => e = .returned (.tuple #[prV z d, .slice none 0 0, .bool false]) ∧ Below w.heap.size w w' := by
 obtain ⟨W, hW⟩ : ∃ W, W = (((w.alloc (.cells (setV fold a la ca) 24)).alloc (.cells (blV nu st wm b n c) 60)).alloc (.cells #[.int .i64 z, .int .i64 d] 62)).alloc (.cells #[.int .i64 0, .int .i64 0] 62) := ⟨_, rfl⟩
 have hB : Below w.heap.size w W := by rw [hW]; exact ((((Below.refl _ _).alloc (Nat.le_refl _) _).alloc (by simp) _).alloc (by simp; omega) _).alloc (by simp; omega) _
 have hO : Bx w.heap.size [.cells (setV fold a la ca) 24, .cells (blV nu st wm b n c) 60, .cells #[.int .i64 z, .int .i64 d] 62, .cells #[.int .i64 0, .int .i64 0] 62] W := by rw [hW]; exact ((((Bx.nil _ w).snoc _ rfl).snoc _ (by simp)).snoc _ (by simp)).snoc _ (by simp)
 have HC : Hid (∀ V, RowKit.Below W.heap.size W V → (V.cell? ⟨w.heap.size, 0, none⟩ = some (.bool fold) ∧ V.cell? ⟨w.heap.size, 1, none⟩ = some (.slice a la ca)) ∧ (V.cell? ⟨w.heap.size + 1, 0, none⟩ = some (.int .i64 nu) ∧ V.cell? ⟨w.heap.size + 1, 1, none⟩ = some (.int .i64 st) ∧ V.cell? ⟨w.heap.size + 1, 2, none⟩ = some (.int .i64 wm) ∧ V.cell? ⟨w.heap.size + 1, 3, none⟩ = some (.slice b n c)) ∧ (V.cell? ⟨w.heap.size + 1 + 1, 0, none⟩ = some (.int .i64 z) ∧ V.cell? ⟨w.heap.size + 1 + 1, 1, none⟩ = some (.int .i64 d)) ∧
   V.heap[w.heap.size + 1 + 1 + 1]? = some (.cells #[.int .i64 0, .int .i64 0] 62 (0, 0)) ∧ RowKit.Below w.heap.size w V) := fun V hV => by
  have h := hO.below hV
  exact ⟨⟨h.cell (i := 0) rfl rfl, h.cell (i := 0) rfl rfl⟩, ⟨h.cell (i := 1) rfl rfl, h.cell (i := 1) rfl rfl, h.cell (i := 1) rfl rfl, h.cell (i := 1) rfl rfl⟩, ⟨h.cell (i := 2) rfl rfl, h.cell (i := 2) rfl rfl⟩, h 3 _ rfl, hB.trans (hV.mono hB.size)⟩
 have HR := Lib.hid (rright20_any fold a la ca nu st wm b n c z d wss W (hA.below hB) hla hM hn)
 unfold prbD at hno
 rw [hno] at HR
 obtain ⟨⟨q0, q1⟩, ⟨q2, q3, q4, q5⟩, ⟨q6, q7⟩, _⟩ := HC.out W (Below.refl _ _)
 clear hA hB hO hno hM
 go_enter Tryz.func32, Tryz.ntmps32
 go_upto_region 1 with fail
 rw [← hW]
 clear hW
 go_upto_region 2 with (go_at_call 35; refine HR.out.mono ?_; rintro e w1 ⟨rfl, hb1⟩)
 clear q0 q1 q2 q3 q4 q5 q6 q7 HR
 obtain ⟨⟨q0, q1⟩, ⟨q2, q3, q4, q5⟩, ⟨q6, q7⟩, q8, q9⟩ := HC.out w1 hb1
 obtain ⟨z0, z1, z2, z3⟩ : w1.cell? ⟨w.heap.size + 1 + 1 + 1, 0, none⟩ = some (.int .i64 0) ∧ w1.cell? ⟨w.heap.size + 1 + 1 + 1, 1, none⟩ = some (.int .i64 0) ∧ w1.frozen? ⟨w.heap.size + 1 + 1 + 1, 0, none⟩ = false ∧ w1.frozen? ⟨w.heap.size + 1 + 1 + 1, 1, none⟩ = false := ⟨by simp [World.cell?, q8], by simp [World.cell?, q8], by simp [World.frozen?, q8], by simp [World.frozen?, q8]⟩
 have h2 := set_at (i := 1) (set_at (i := 0) q8 (.int .i64 z)) (.int .i64 d)
 have HF0 : Hid (((w1.setCell ⟨w.heap.size + 1 + 1 + 1, 0, none⟩ (.int .i64 z)).setCell ⟨w.heap.size + 1 + 1 + 1, 1, none⟩ (.int .i64 d)).heap[w.heap.size + 1 + 1 + 1]? = some (.cells #[.int .i64 z, .int .i64 d] 62 (0, 0))) := by rw [Hid]; simpa using h2
 have HF1 : Hid (RowKit.Below w.heap.size w ((w1.setCell ⟨w.heap.size + 1 + 1 + 1, 0, none⟩ (.int .i64 z)).setCell ⟨w.heap.size + 1 + 1 + 1, 1, none⟩ (.int .i64 d))) := (q9.setCell (by show w.heap.size ≤ w.heap.size + 1 + 1 + 1; omega) _).setCell (by show w.heap.size ≤ w.heap.size + 1 + 1 + 1; omega) _
 clear q8 q9 h2
 go_wp2
 refine bodyPost_ret (results_probe3 rfl rfl HF0.out) rfl ?_
 exact ⟨rfl, HF1.out⟩
end Go.Proofs.YtbldfgaogmfoaaaGreat
