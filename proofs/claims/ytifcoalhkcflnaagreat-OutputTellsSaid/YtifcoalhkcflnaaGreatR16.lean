/- Parts of the proof, one behind the other: N1, N2, N3, N4, N5. No condition but what each theorem states. -/
import Derived.Test.YtifcoalhkcflnaaGreatR15
import Derived.Test.YtifcoalhkcflnaaGreatR10
import Derived.Test.YtifcoalhkcflnaaGreatR13
import Derived.Test.YtifcoalhkcflnaaGreatR11

/- The document's links (layer 8): all nodes, the node of bytes, the longest end that is a node; walked. -/


namespace Go.Proofs.YtifcoalhkcflnaaGreat
open Go.RowKit Go.Sort
set_option linter.unusedVariables false
set_option linter.unusedSimpArgs false

/-- All nodes' bytes; none: the trie may not be. -/
def nodesT (T : TrieT) : List (List Int) := match readP T with | some r => nodesL r.2 | none => []
theorem nodesT_none {T : TrieT} (h : readP T = none) : nodesT T = [] := by unfold nodesT; rw [h]
theorem nodesT_some {T : TrieT} {r : List (List Int) × List (List Int)} (h : readP T = some r) : nodesT T = nodesL r.2 := by unfold nodesT; rw [h]
theorem nodesT_bd (T : TrieT) : (nodesT T).length ≤ 400 ∧ ∀ x ∈ nodesT T, x.length ≤ 32 := by
  cases h : readP T with
  | none => rw [nodesT_none h]; simp
  | some r =>
    rw [nodesT_some h]
    obtain ⟨h1, _, _⟩ := readP_iff.1 (show readP T = some (r.1, r.2) from h)
    exact ⟨(right_nodes h1).2, fun x hx => by obtain ⟨j, hj⟩ := List.getElem?_of_mem hx; exact node_len h1 hj⟩

set_option maxRecDepth 100000 in
set_option maxHeartbeats 2000000 in
theorem rnodes8_any (t : TV) (T : TrieT) (w : World) (hT : Tri w t T) (hb : Bd4 t) :
    Calls Tryz.prog 67 #[.agg t.cells] w fun e w' => ∃ a c, e = .returned (.slice a (nodesT T).length c) ∧ (nodesT T).length ≤ c ∧ Wds w' a (nodesT T).length (nodesT T) ∧ Below w.heap.size w w' := by
  obtain ⟨ua, un, uc, da, dn, dc, xa, xn, xc, ba, bn, bc⟩ := t
  obtain ⟨W, hW⟩ : ∃ W, W = w.alloc (.cells #[.slice ua un uc, .slice da dn dc, .slice xa xn xc, .slice ba bn bc] 28) := ⟨_, rfl⟩
  have hB : Below w.heap.size w W := by rw [hW]; exact below_alloc _ _
  have hO : Bx w.heap.size [.cells #[.slice ua un uc, .slice da dn dc, .slice xa xn xc, .slice ba bn bc] 28] W := by rw [hW]; exact (Bx.nil _ w).snoc _ rfl
  have c0 : W.cell? ⟨w.heap.size, 0, none⟩ = some (.slice ua un uc) := hO.cell (i := 0) rfl rfl
  have c1 : W.cell? ⟨w.heap.size, 1, none⟩ = some (.slice da dn dc) := hO.cell (i := 0) rfl rfl
  have c2 : W.cell? ⟨w.heap.size, 2, none⟩ = some (.slice xa xn xc) := hO.cell (i := 0) rfl rfl
  have c3 : W.cell? ⟨w.heap.size, 3, none⟩ = some (.slice ba bn bc) := hO.cell (i := 0) rfl rfl
  have HC := Lib.hid (rright7_any _ T W (hT.below hB) hb)
  have HT := Lib.hid (hT.below hB)
  have HBB := Lib.hid hb
  clear hT hb
  cases hr : readP T with
  | none =>
    have HZ := Lib.hid (nodesT_none hr)
    have HR : rightT T = false := by unfold rightT; rw [hr]; rfl
    rw [HR] at HC
    clear hr HR
    go_enter Tryz.func67, Tryz.ntmps67
    go_upto_region 1 with fail
    rw [← hW]
    clear hW
    go_wp2_with fail
    refine HC.out.mono ?_
    rintro e w1 ⟨rfl, hb1⟩
    go_wp2
    go_ret
    rw [HZ.out]
    exact ⟨none, 0, rfl, Nat.le_refl _, Wds.nil _ _, hB.trans (hb1.mono hB.size)⟩
  | some r =>
    have HZ : Hid (nodesT T = nodesL (wordsT T)) := by rw [Hid, nodesT_some hr]; unfold wordsT; rw [hr]
    have HL : Hid ((wordsT T).length ≤ 400 ∧ ∀ x ∈ wordsT T, x.length ≤ 32) := by
      obtain ⟨h1, _, _⟩ := readP_iff.1 (show readP T = some (r.1, r.2) from hr)
      have h2 : wordsT T = r.2 := by unfold wordsT; rw [hr]
      rw [Hid, h2]
      exact ⟨(readP_len (sp := r.1) (ws := r.2) hr).2.1, fun x hx => ((right_spec h1).2.2.1 x hx).2⟩
    have HR : rightT T = true := by unfold rightT; rw [hr]; rfl
    rw [HR] at HC
    clear hr HR
    go_enter Tryz.func67, Tryz.ntmps67
    go_upto_region 1 with fail
    rw [← hW]
    clear hW
    go_wp2_with fail
    refine HC.out.mono ?_
    rintro e w1 ⟨rfl, hb1⟩
    have hO1 := hO.below hb1
    clear c0 c1 c2 c3
    have c0 : w1.cell? ⟨w.heap.size, 0, none⟩ = some (.slice ua un uc) := hO1.cell (i := 0) rfl rfl
    have c1 : w1.cell? ⟨w.heap.size, 1, none⟩ = some (.slice da dn dc) := hO1.cell (i := 0) rfl rfl
    have c2 : w1.cell? ⟨w.heap.size, 2, none⟩ = some (.slice xa xn xc) := hO1.cell (i := 0) rfl rfl
    have c3 : w1.cell? ⟨w.heap.size, 3, none⟩ = some (.slice ba bn bc) := hO1.cell (i := 0) rfl rfl
    have HW := Lib.hid (rWords7_any _ T w1 (HT.out.below hb1) HBB.out)
    have hB1 := hB.trans (hb1.mono hB.size)
    go_wp2_with fail
    refine HW.out.mono ?_
    rintro e w2 ⟨v, rfl, hv, hb2⟩
    obtain ⟨av, cv, rfl, hcv, hwd⟩ := hv.wds
    have hB2 := hB1.trans (hb2.mono hB1.size)
    have hlw := HL.out.1
    have HN := Lib.hid (rnodes7_any av _ cv (wordsT T) w2 hwd (by omega) (fun y hy => by have := HL.out.2 y hy; omega))
    clear hv hwd c0 c1 c2 c3 hO1 hO hb1 hb2 hB hB1
    go_wp2_with fail
    refine HN.out.mono ?_
    rintro e w3 ⟨an, cn, rfl, hcn, hnd, hb3⟩
    have hB3 := hB2.trans (hb3.mono hB2.size)
    go_wp2
    go_ret
    rw [HZ.out]
    exact ⟨an, cn, rfl, hcn, hnd, hB3⟩

set_option maxHeartbeats 2000000 in
theorem rplace8_any (a b : Option Addr) (la ca lb cb : Nat) (l : List (List Int)) (x : List Int) (w : World) (hA : Wds w a la l) (hB : Bys w b lb x) (hla : la ≤ 1000000) :
    Calls Tryz.prog 94 #[.slice a la ca, .slice b lb cb] w fun e w' => e = .returned (.int .i64 (placeS l x)) ∧ Below w.heap.size w w' := by
  have HL := Lib.hid hA.len
  have HA := Lib.hid hA
  have HB := Lib.hid hB
  clear hA hB
  go_enter Tryz.func94, Tryz.ntmps94
  go_wp2
  go_loopw [5] (fun i wr => ∃ k : Nat, k ≤ la ∧ i = .int .i64 k ∧ Hid (x ∉ l.take k) ∧ Below w.heap.size w wr) (fun i _ => la - (intOf i).toNat)
  case atStart => exact ⟨0, Nat.zero_le _, rfl, by simp [Hid], Below.refl _ _⟩
  case round =>
    obtain ⟨k, hk, rfl, HK, hBe⟩ := hrel
    by_cases hlt : k < la
    · have hd : decide ((k : Int) < la) = true := by simp; omega
      obtain ⟨bb, off, aw, lw, cw, y, hbb, hbl, hcell, hy, hY, hlc⟩ := (HA.out.below hBe).at_ hlt
      subst hbb
      have f2 : ∀ d os, (grow (redrawn wr d) os).cell? ⟨bb, off + k, none⟩ = some (.slice aw lw cw) := fun d os => ((below_regrown wr d os).cell (p := ⟨bb, off + k, none⟩) hbl).trans hcell
      have f4 := fun d os => conv_bys (hY.below (below_regrown wr d os)) cw
      have f5 := fun d os => conv_bys ((HB.out.below hBe).below (below_regrown wr d os)) cb
      have i1 : (0 : Int) ≤ (k : Int) := by omega
      have i2 : (k : Int) < (la : Int) := by omega
      have HY := Lib.hid hy
      have HYB := Lib.hid hY.2
      have HE := Lib.hid (str_beq HYB.out HB.out.2)
      have HBE := Lib.hid hBe
      clear hy hY hcell hlc hBe
      by_cases e : y = x
      · have hq : ((strOfNums y).toList == (strOfNums x).toList) = true := by rw [HE.out]; simpa using e
        have HS : Hid (placeS l x = k) := by rw [← e] at HK ⊢; exact placeS_first HY.out HK.out
        clear e
        go_wp2
        refine wp_region_quiet_below mixed (by kernel_rfl) ?_
        repeat (go_big_quiet_step (fail))
        refine wpQuiet_nil ?_
        rintro _ ⟨⟨dq, osq⟩, rfl⟩
        go_wp2
        go_ret
        exact ⟨by rw [HS.out]; rfl, HBE.out.trans ((below_regrown wr dq osq).mono HBE.out.size)⟩
      · have hq : ((strOfNums y).toList == (strOfNums x).toList) = false := by rw [HE.out]; simpa using e
        have HS : Hid (x ∉ l.take (k + 1)) := by
          rw [Hid, take_step HY.out, List.mem_append, List.mem_singleton]
          exact fun h => h.elim HK.out (fun e2 => e e2.symm)
        clear e
        go_wp2
        refine wp_region_quiet_below mixed (by kernel_rfl) ?_
        repeat (go_big_quiet_step (fail))
        refine wpQuiet_nil ?_
        rintro _ ⟨⟨dq, osq⟩, rfl⟩
        have hBq := HBE.out.trans ((below_regrown wr dq osq).mono HBE.out.size)
        clear f2 f4 f5
        go_wp2
        go_roundw
        case rel => exact ⟨k + 1, by omega, by go_num, HS, hBq⟩
        case measure => simp [intOf]; omega
    · obtain rfl : k = la := by omega
      have HS : Hid (placeS l x = -1) := by
        refine placeS_no ?_
        have h := HK.out
        rwa [List.take_of_length_le (by rw [HL.out]; exact Nat.le_refl _)] at h
      go_wp2
      go_ret
      exact ⟨by rw [HS.out]; rfl, hBe⟩


set_option maxRecDepth 100000 in
set_option maxHeartbeats 2000000 in
theorem rlongest8_any (a b : Option Addr) (la ca lb cb : Nat) (N : List (List Int)) (x : List Int) (k0 : Nat) (w : World) (hA : Wds w a la N) (hB : Bys w b lb x) (hla : la ≤ 1000000) (hlb : lb ≤ 1000000) (hcb : lb ≤ cb) (h0 : placeS N [] = 0) :
    Calls Tryz.prog 68 #[.slice a la ca, .slice b lb cb, .int .i64 (k0 : Int)] w fun e w' => e = .returned (.int .i64 (placeS N (lsf N (x.drop k0)))) ∧ Below w.heap.size w w' := by
  have HX := Lib.hid hB.len
  have HA := Lib.hid hA
  have HB := Lib.hid hB
  have H0 := Lib.hid h0
  clear hA hB h0
  go_enter Tryz.func68, Tryz.ntmps68
  go_wp2
  go_loopw [7] (fun s7 wr => ∃ k : Nat, s7 = .int .i64 k ∧ Hid (lsf N (x.drop k0) = lsf N (x.drop k)) ∧ RowKit.Below w.heap.size w wr) (fun s _ => lb - (intOf s).toNat)
  case atStart => exact ⟨k0, rfl, rfl, RowKit.Below.refl _ _⟩
  case round =>
    obtain ⟨k, rfl, HK, hBe⟩ := hrel
    by_cases hkl : k < lb
    · have hd : decide ((k : Int) < lb) = true := by simp; omega
      have hR := (HB.out.below hBe).drop (m := k) (by omega)
      have HP := Lib.hid (rplace8_any a _ la ca (lb - k) (cb - k) N (x.drop k) wr (HA.out.below hBe) hR hla)
      have i1 : (0 : Int) ≤ (k : Int) := by omega
      have i2 : (k : Int) ≤ (lb : Int) := by omega
      clear hR
      go_wp2_with fail
      refine HP.out.mono ?_
      rintro e w1 ⟨rfl, hb1⟩
      have hB1 := hBe.trans (hb1.mono hBe.size)
      by_cases hm : x.drop k ∈ N
      · have HE : Hid (placeS N (lsf N (x.drop k0)) = placeS N (x.drop k)) := by rw [Hid, HK.out, lsf_here hm]
        obtain ⟨p, hp⟩ : ∃ p, placeS N (x.drop k) = p := ⟨_, rfl⟩
        have hp0 : 0 ≤ p := by rw [← hp]; unfold placeS; rw [if_pos hm]; omega
        have e3 : decide (0 ≤ p) = true := by simpa using hp0
        rw [hp] at HE ⊢
        clear hp hm
        go_wp2
        go_ret
        exact ⟨by rw [HE.out]; rfl, hB1⟩
      · have HE : Hid (lsf N (x.drop k0) = lsf N (x.drop (k + 1))) := by rw [Hid, HK.out]; exact lsf_next (by rw [HX.out]; exact hkl) hm
        rw [placeS_no hm]
        clear hm
        go_wp2
        go_roundw
        case rel => exact ⟨k + 1, by go_num, HE, hB1⟩
        case measure => simp [intOf]; omega
    · have hd : decide ((k : Int) < lb) = false := by simp; omega
      have HE : Hid (placeS N (lsf N (x.drop k0)) = 0) := by rw [Hid, HK.out, lsf_end N x (by rw [HX.out]; omega), H0.out]
      go_wp2
      go_ret
      exact ⟨by rw [HE.out]; rfl, hBe⟩
end Go.Proofs.YtifcoalhkcflnaaGreat

/- The document's links (layer 8): all links, which may be, chains, the deepest node, a step; walked. -/

namespace Go.Proofs.YtifcoalhkcflnaaGreat
open Go.RowKit Go.Sort
set_option linter.unusedVariables false
set_option linter.unusedSimpArgs false

def linksT (T : TrieT) : List Int := match readP T with | some r => linksP r.2 | none => []
def linksE (T : TrieT) : Int := match readP T with | some _ => 0 | none => 2
theorem place0 (ws : List (List Int)) : placeS (nodesL ws) [] = 0 := placeS_at (nodesL_srt ws).nodup (nodesL_head ws)
theorem link_drop (ws : List (List Int)) (x : List Int) : placeS (nodesL ws) (lsf (nodesL ws) (x.drop 1)) = linkI ws x := by
  unfold linkI linkL
  rw [List.drop_one]

set_option maxRecDepth 100000 in
set_option maxHeartbeats 4000000 in
theorem rlinks8_any (t : TV) (T : TrieT) (w : World) (hT : Tri w t T) (hb : Bd4 t) :
    Calls Tryz.prog 30 #[.agg t.cells] w fun e w' => ∃ v, e = .returned (.tuple #[v, .int .i64 (linksE T)]) ∧ OwnI w' w.heap.size v (linksT T) ∧ Below w.heap.size w w' := by
  obtain ⟨i0, hi, hz0, hz2, hz3⟩ := info_parts i64_info7
  obtain ⟨ua, un, uc, da, dn, dc, xa, xn, xc, ba, bn, bc⟩ := t
  obtain ⟨W, hW⟩ : ∃ W, W = w.alloc (.cells #[.slice ua un uc, .slice da dn dc, .slice xa xn xc, .slice ba bn bc] 28) := ⟨_, rfl⟩
  have hB : Below w.heap.size w W := by rw [hW]; exact below_alloc _ _
  have hO : Bx w.heap.size [.cells #[.slice ua un uc, .slice da dn dc, .slice xa xn xc, .slice ba bn bc] 28] W := by rw [hW]; exact (Bx.nil _ w).snoc _ rfl
  have c0 : W.cell? ⟨w.heap.size, 0, none⟩ = some (.slice ua un uc) := hO.cell (i := 0) rfl rfl
  have c1 : W.cell? ⟨w.heap.size, 1, none⟩ = some (.slice da dn dc) := hO.cell (i := 0) rfl rfl
  have c2 : W.cell? ⟨w.heap.size, 2, none⟩ = some (.slice xa xn xc) := hO.cell (i := 0) rfl rfl
  have c3 : W.cell? ⟨w.heap.size, 3, none⟩ = some (.slice ba bn bc) := hO.cell (i := 0) rfl rfl
  have HC := Lib.hid (rnodes8_any _ T W (hT.below hB) hb)
  clear hT hb
  cases hr : readP T with
  | none =>
    have HZ : Hid (nodesT T = [] ∧ linksT T = [] ∧ linksE T = 2) := ⟨nodesT_none hr, by unfold linksT; rw [hr], by unfold linksE; rw [hr]⟩
    have HC2 := HC.out
    rw [HZ.out.1] at HC2
    have HC3 := Lib.hid HC2
    clear hr HC2
    go_enter Tryz.func30, Tryz.ntmps30
    go_upto_region 1 with fail
    rw [← hW]
    clear hW
    go_wp2_with fail
    refine HC3.out.mono ?_
    rintro e w1 ⟨a1, c1, rfl, _, _, hb1⟩
    go_wp2
    go_ret2
    rw [HZ.out.2.1, HZ.out.2.2]
    exact ⟨_, rfl, World.ownsRow_nil _ _ _ _, hB.trans (hb1.mono hB.size)⟩
  | some r =>
    have HZ : Hid (nodesT T = nodesL r.2 ∧ linksT T = linksP r.2 ∧ linksE T = 0) := ⟨nodesT_some hr, by unfold linksT; rw [hr], by unfold linksE; rw [hr]⟩
    have HBD := Lib.hid (nodesT_bd T)
    obtain ⟨ws, hws⟩ : ∃ ws, r.2 = ws := ⟨_, rfl⟩
    rw [hws] at HZ
    have hn0 : (nodesL ws).length ≠ 0 := fun e => nodesL_ne ws (List.eq_nil_of_length_eq_zero e)
    rw [HZ.out.1] at HC HBD
    obtain ⟨n, hn⟩ : ∃ n, (nodesL ws).length = n := ⟨_, rfl⟩
    rw [hn] at HC HBD hn0
    have HNN := Lib.hid hn
    have hn4 := HBD.out.1
    have e0 : ((n : Int) == 0) = false := by simp; omega
    have e0' : (n == 0) = false := by simp; omega
    have hnp : 0 < n := by omega
    clear hr hws hn hn0
    go_enter Tryz.func30, Tryz.ntmps30
    go_upto_region 1 with fail
    rw [← hW]
    clear hW
    go_wp2_with fail
    refine HC.out.mono ?_
    rintro e w1 ⟨na, nc, rfl, hnc, hN, hb1⟩
    have HN := Lib.hid hN
    have HB1 := Lib.hid (hB.trans (hb1.mono hB.size))
    clear c0 c1 c2 c3 hO hB hb1 HC hN
    go_wp2
    go_loopw [5, 6] (fun s5 s6 wr => ∃ (i : Nat) (v5 : Value), i ≤ n ∧ v5 = s5 ∧ s6 = .int .i64 i ∧ wr.ownsRow w1.heap.size 3 1 v5 i (((linksP ws).take i).map (Value.int .i64)) ∧ RowKit.Below w1.heap.size w1 wr) (fun _ s _ => n - (intOf s).toNat)
    case atStart => exact ⟨0, _, Nat.zero_le _, rfl, rfl, World.ownsRow_nil _ _ _ _, RowKit.Below.refl _ _⟩
    case round =>
      obtain ⟨i, v5, hin, rfl, rfl, hOW, hBe⟩ := hrel
      by_cases hil : i < n
      · have hd : decide ((i : Int) < n) = true := by simp; omega
        obtain ⟨b, o, ai, li, ci, x, rfl, hbl, hcx, hx, hXi, hlci⟩ := HN.out.at_ hil
        have hbx : b < w1.heap.size := hbl
        have fx : wr.cell? ⟨b, o + i, none⟩ = some (.slice ai li ci) := (hBe.cell (p := ⟨b, o + i, none⟩) hbl).trans hcx
        have hli : li ≤ 32 := by have := HBD.out.2 x (List.mem_of_getElem? hx); rw [hXi.len] at this; exact this
        have h8 := rlongest8_any (some ⟨b, o, none⟩) ai n nc li ci (nodesL ws) x 1 wr (HN.out.below hBe) (hXi.below hBe) (by omega) (by omega) hlci (place0 ws)
        rw [link_drop] at h8
        have HQ := Lib.hid h8
        have i1 : (0 : Int) ≤ (i : Int) := by omega
        have i2 : (i : Int) < (n : Int) := by omega
        have HLP := Lib.hid (linksP_at hx)
        have HOW := Lib.hid hOW
        obtain ⟨z, hz⟩ : ∃ z, linkI ws x = z := ⟨_, rfl⟩
        rw [hz] at HQ HLP
        clear hcx hx hXi h8 hz hOW
        go_wp2_with fail
        refine HQ.out.mono ?_
        rintro e w2 ⟨rfl, hb2⟩
        have hB2 := hBe.trans (hb2.mono hBe.size)
        have hsz := hB2.size
        have hrow := row_below HOW.out hb2
        clear fx HQ
        go_wp2_with (at_builtin; refine wpList_append_own _ rfl _ _ 25 rfl w1.heap.size 3 i0 (.int .i64 0) 1 8 Tryz.underlying25 hi hz0 hz2 hz3 rfl (by decide) _ _ _ rfl (hrow.alloc _) ⟨w2.heap.size, 0, none⟩ 1 1 [.int .i64 z] rfl rfl (cells_new _ _ (by simp)) (by simp [Value.oneCell']) (by unfold maxLen; omega) (by omega) (by simp; omega) ?_; intro v' w9 hown' hgrow hat)
        have hB9 := (hB2.alloc hsz (.cells #[.int .i64 z] 3)).grown hgrow (by simp; omega) (fun j hj => (row_lt hrow j hj).1)
        have hO9 : w9.ownsRow w1.heap.size 3 1 v' (i + 1) (((linksP ws).take (i + 1)).map (Value.int .i64)) := by
          rw [take_step HLP.out, List.map_append]
          exact hown'
        clear hrow hown'
        go_roundw
        case rel => exact ⟨i + 1, _, by omega, rfl, by go_num, hO9, hB9⟩
        case measure => simp [intOf]; omega
      · obtain rfl : i = n := by omega
        have hd : decide ((i : Int) < i) = false := by simp
        have HLL : Hid ((linksP ws).length = i) := by rw [Hid]; unfold linksP; rw [List.length_map, HNN.out]
        go_wp2
        go_ret2
        refine ⟨v5, by rw [HZ.out.2.2]; rfl, ?_, HB1.out.trans (hBe.mono HB1.out.size)⟩
        rw [HZ.out.2.1]
        unfold OwnI
        rw [HLL.out]
        rw [List.take_of_length_le (by rw [HLL.out]; exact Nat.le_refl _)] at hOW
        exact row_mono hOW HB1.out.size

set_option maxRecDepth 100000 in
set_option maxHeartbeats 4000000 in
theorem rright8_any (t : TV) (T : TrieT) (a : Option Addr) (la ca : Nat) (l : List Int) (w : World) (hT : Tri w t T) (hb : Bd4 t) (hA : Sl1 (Value.int .i64) w a la l) :
    Calls Tryz.prog 39 #[.agg t.cells, .slice a la ca] w fun e w' => e = .returned (.bool (rightL8 T l)) ∧ Below w.heap.size w w' := by
  obtain ⟨ua, un, uc, da, dn, dc, xa, xn, xc, ba, bn, bc⟩ := t
  obtain ⟨W, hW⟩ : ∃ W, W = w.alloc (.cells #[.slice ua un uc, .slice da dn dc, .slice xa xn xc, .slice ba bn bc] 28) := ⟨_, rfl⟩
  have hB : Below w.heap.size w W := by rw [hW]; exact below_alloc _ _
  have hO : Bx w.heap.size [.cells #[.slice ua un uc, .slice da dn dc, .slice xa xn xc, .slice ba bn bc] 28] W := by rw [hW]; exact (Bx.nil _ w).snoc _ rfl
  have c0 : W.cell? ⟨w.heap.size, 0, none⟩ = some (.slice ua un uc) := hO.cell (i := 0) rfl rfl
  have c1 : W.cell? ⟨w.heap.size, 1, none⟩ = some (.slice da dn dc) := hO.cell (i := 0) rfl rfl
  have c2 : W.cell? ⟨w.heap.size, 2, none⟩ = some (.slice xa xn xc) := hO.cell (i := 0) rfl rfl
  have c3 : W.cell? ⟨w.heap.size, 3, none⟩ = some (.slice ba bn bc) := hO.cell (i := 0) rfl rfl
  have HC := Lib.hid (rlinks8_any _ T W (hT.below hB) hb)
  have HA := Lib.hid hA
  clear hT hb hA
  cases hr : readP T with
  | none =>
    have HZ : Hid (linksE T = 2 ∧ rightL8 T l = false) := ⟨by unfold linksE; rw [hr], by unfold rightL8; rw [hr]⟩
    rw [HZ.out.1] at HC
    clear hr
    go_enter Tryz.func39, Tryz.ntmps39
    go_upto_region 1 with fail
    rw [← hW]
    clear hW
    go_wp2_with fail
    refine HC.out.mono ?_
    rintro e w1 ⟨v, rfl, _, hb1⟩
    go_wp2
    go_ret
    exact ⟨by rw [HZ.out.2]; rfl, hB.trans (hb1.mono hB.size)⟩
  | some r =>
    have HZ : Hid (linksE T = 0 ∧ rightL8 T l = decide (linksT T = l)) := ⟨by unfold linksE; rw [hr], by unfold rightL8 linksT; rw [hr]⟩
    have HLN : Hid ((linksT T).length ≤ 400) := by
      have h1 := (nodesT_bd T).1
      rw [nodesT_some hr] at h1
      unfold Hid linksT
      rw [hr]
      unfold linksP
      rw [List.length_map]
      exact h1
    rw [HZ.out.1] at HC
    clear hr
    go_enter Tryz.func39, Tryz.ntmps39
    go_upto_region 1 with fail
    rw [← hW]
    clear hW
    go_wp2_with fail
    refine HC.out.mono ?_
    rintro e w1 ⟨v, rfl, hv, hb1⟩
    obtain ⟨av, cv, rfl, _, hs⟩ := own_sl1 (enc := Value.int .i64) hv
    have hB1 := hB.trans (hb1.mono hB.size)
    have hln := HLN.out
    have HI := Lib.hid (rints_any av a (linksT T).length cv la ca _ l w1 hs (HA.out.below hB1) (by omega))
    clear hs hv
    go_wp2_with fail
    refine HI.out.mono ?_
    rintro e w2 ⟨rfl, hb2⟩
    have hB2 := hB1.trans (hb2.mono hB1.size)
    obtain ⟨D, hD⟩ : ∃ D, decide (linksT T = l) = D := ⟨_, rfl⟩
    have HZ2 : Hid (rightL8 T l = D) := by rw [Hid, HZ.out.2, hD]
    rw [hD]
    clear hD
    cases D
    all_goals
      go_wp2
      go_ret
      exact ⟨by rw [HZ2.out]; rfl, hB2⟩
end Go.Proofs.YtifcoalhkcflnaaGreat

/- The document's links (layer 8): chains, the deepest node, a step; walked. -/

namespace Go.Proofs.YtifcoalhkcflnaaGreat
open Go.RowKit Go.Sort
set_option linter.unusedVariables false
set_option linter.unusedSimpArgs false

theorem chN_len2 (L : List Int) : ∀ f z, (chN L f z).length ≤ f + 1
  | 0, z => by simp [chN]
  | f + 1, z => by
    rw [chN_succ]
    split
    · simp
    · have := chN_len2 L f ((L[z]?).getD 0).toNat
      simp
      omega
theorem chainT8_len (T : TrieT) (node : Int) : (chainT8 T node).length ≤ 401 := by
  unfold chainT8
  cases h : readP T with
  | none => simp
  | some r =>
    have h1 := (nodesT_bd T).1
    rw [nodesT_some h] at h1
    unfold chainI
    dsimp only
    split
    · rename_i hh
      have := chN_len2 (linksP r.2) node.toNat node.toNat
      rw [List.length_map]
      omega
    · simp

set_option maxRecDepth 100000 in
set_option maxHeartbeats 4000000 in
theorem rchain8_any (t : TV) (T : TrieT) (node : Int) (w : World) (hT : Tri w t T) (hb : Bd4 t) :
    Calls Tryz.prog 37 #[.agg t.cells, .int .i64 node] w fun e w' => ∃ v, e = .returned v ∧ OwnI w' w.heap.size v (chainT8 T node) ∧ Below w.heap.size w w' := by
  obtain ⟨i0, hi, hz0, hz2, hz3⟩ := info_parts i64_info7
  obtain ⟨ua, un, uc, da, dn, dc, xa, xn, xc, ba, bn, bc⟩ := t
  obtain ⟨W, hW⟩ : ∃ W, W = w.alloc (.cells #[.slice ua un uc, .slice da dn dc, .slice xa xn xc, .slice ba bn bc] 28) := ⟨_, rfl⟩
  have hB : Below w.heap.size w W := by rw [hW]; exact below_alloc _ _
  have hO : Bx w.heap.size [.cells #[.slice ua un uc, .slice da dn dc, .slice xa xn xc, .slice ba bn bc] 28] W := by rw [hW]; exact (Bx.nil _ w).snoc _ rfl
  have c0 : W.cell? ⟨w.heap.size, 0, none⟩ = some (.slice ua un uc) := hO.cell (i := 0) rfl rfl
  have c1 : W.cell? ⟨w.heap.size, 1, none⟩ = some (.slice da dn dc) := hO.cell (i := 0) rfl rfl
  have c2 : W.cell? ⟨w.heap.size, 2, none⟩ = some (.slice xa xn xc) := hO.cell (i := 0) rfl rfl
  have c3 : W.cell? ⟨w.heap.size, 3, none⟩ = some (.slice ba bn bc) := hO.cell (i := 0) rfl rfl
  have HC := Lib.hid (rnodes8_any _ T W (hT.below hB) hb)
  have HBD := Lib.hid (nodesT_bd T)
  clear hT hb
  by_cases hin : 0 ≤ node ∧ node < ((nodesT T).length : Int)
  · obtain ⟨z0, rfl⟩ := Int.eq_ofNat_of_zero_le hin.1
    obtain ⟨ws, hN, hch⟩ : ∃ ws, nodesT T = nodesL ws ∧ chainT8 T (z0 : Int) = (chN (linksP ws) z0 z0).map fun z : Nat => (z : Int) := by
      cases hr : readP T with
      | none => rw [nodesT_none hr] at hin; simp at hin; omega
      | some r =>
        refine ⟨r.2, nodesT_some hr, ?_⟩
        rw [nodesT_some hr] at hin
        unfold chainT8 chainI
        rw [hr]
        dsimp only
        rw [if_pos hin, Int.toNat_natCast]
    have HCH := Lib.hid hch
    rw [hN] at HC HBD hin
    obtain ⟨n, hn⟩ : ∃ n, (nodesL ws).length = n := ⟨_, rfl⟩
    rw [hn] at HC HBD hin
    have HNN := Lib.hid hn
    have hn4 := HBD.out.1
    have hz0n : z0 < n := by omega
    have d1 : decide ((z0 : Int) < 0) = false := by simp
    have d2 : decide ((n : Int) ≤ (z0 : Int)) = false := by simp; omega
    have d2' : decide (n ≤ z0) = false := by simp; omega
    have HLK := Lib.hid (fun (z : Nat) (h : z < n) => links_lk ws (n := n) hn h)
    clear hch hN hn hin
    go_enter Tryz.func37, Tryz.ntmps37
    go_upto_region 1 with fail
    rw [← hW]
    clear hW
    go_wp2_with fail
    refine HC.out.mono ?_
    rintro e w1 ⟨na, nc, rfl, hnc, hND, hb1⟩
    have HN := Lib.hid hND
    have HB1 := Lib.hid (hB.trans (hb1.mono hB.size))
    have hlit := World.ownsRow_lit (base := w1.heap.size) (size := 1) (e := 3) w1 #[.int .i64 (z0 : Int)] 1 (Nat.le_refl _) (by unfold maxLen; omega) (by simp)
    clear c0 c1 c2 c3 hO hB hb1 HC hND
    go_wp2
    go_loopw [1, 6] (fun s1 s6 wr => ∃ (z f : Nat) (P : List Nat) (v6 : Value), z < n ∧ z ≤ f ∧ P.length + f ≤ z0 ∧ v6 = s6 ∧ s1 = .int .i64 z ∧ Hid (chN (linksP ws) z0 z0 = P ++ chN (linksP ws) f z) ∧ wr.ownsRow w1.heap.size 3 1 v6 (P.length + 1) (((P ++ [z]).map fun z : Nat => (z : Int)).map (Value.int .i64)) ∧ RowKit.Below w1.heap.size w1 wr) (fun s _ _ => (intOf s).toNat)
    case atStart => exact ⟨z0, z0, [], _, hz0n, Nat.le_refl _, by simp, rfl, rfl, rfl, hlit, below_alloc _ _⟩
    case round =>
      clear hlit d1 d2 d2'
      obtain ⟨z, f, P, v6, hzn, hzf, hPf, rfl, rfl, HP, hOW, hBe⟩ := hrel
      by_cases hz : z = 0
      · subst hz
        have e1 : ((0 : Int) != 0) = false := by decide
        have HE : Hid (chainT8 T (z0 : Int) = (P ++ [0]).map fun z : Nat => (z : Int)) := by rw [Hid, HCH.out, HP.out, chN_zero]
        go_wp2
        go_ret
        refine ⟨v6, rfl, ?_, HB1.out.trans (hBe.mono HB1.out.size)⟩
        rw [HE.out]
        unfold OwnI
        rw [List.length_map, List.length_append]
        exact row_mono hOW HB1.out.size
      · have e1 : ((z : Int) != 0) = true := by simp; omega
        have e1' : (z != 0) = true := by simp; omega
        obtain ⟨b, o, ai, li, ci, x, rfl, hbl, hcx, hx, hXi, hlci⟩ := HN.out.at_ hzn
        have fx : wr.cell? ⟨b, o + z, none⟩ = some (.slice ai li ci) := (hBe.cell (p := ⟨b, o + z, none⟩) hbl).trans hcx
        have hli : li ≤ 32 := by have := HBD.out.2 x (List.mem_of_getElem? hx); rw [hXi.len] at this; exact this
        have h8 := rlongest8_any (some ⟨b, o, none⟩) ai n nc li ci (nodesL ws) x 1 wr (HN.out.below hBe) (hXi.below hBe) (by omega) (by omega) hlci (place0 ws)
        rw [link_drop] at h8
        obtain ⟨k, hk1, hk2⟩ := HLK.out z hzn z (by omega) (Nat.le_refl _)
        have hk3 := linksP_at hx
        rw [hk1] at hk3
        rw [← Option.some.inj hk3] at h8
        have HQ := Lib.hid h8
        have i1 : (0 : Int) ≤ (z : Int) := by omega
        have i2 : (z : Int) < (n : Int) := by omega
        obtain ⟨f', rfl⟩ : ∃ f', f = f' + 1 := ⟨f - 1, by omega⟩
        have HP2 : Hid (chN (linksP ws) z0 z0 = (P ++ [z]) ++ chN (linksP ws) f' k) := by
          rw [Hid, HP.out, chN_succ, if_neg hz, hk1, Option.getD_some, Int.toNat_natCast, List.append_assoc]
          rfl
        have HOW := Lib.hid hOW
        clear hcx hx hXi h8 hk1 hk3 hz hOW HP
        go_wp2_with fail
        refine HQ.out.mono ?_
        rintro e w2 ⟨rfl, hb2⟩
        have hB2 := hBe.trans (hb2.mono hBe.size)
        have hsz := hB2.size
        have hrow := row_below HOW.out hb2
        clear fx HQ
        go_wp2_with (at_builtin; refine wpList_append_own _ rfl _ _ 25 rfl w1.heap.size 3 i0 (.int .i64 0) 1 8 Tryz.underlying25 hi hz0 hz2 hz3 rfl (by decide) _ _ _ rfl (hrow.alloc _) ⟨w2.heap.size, 0, none⟩ 1 1 [.int .i64 (k : Int)] rfl rfl (cells_new _ _ (by simp)) (by simp [Value.oneCell']) (by unfold maxLen; omega) (by omega) (by simp; omega) ?_; intro v' w9 hown' hgrow hat)
        have hB9 := (hB2.alloc hsz (.cells #[.int .i64 (k : Int)] 3)).grown hgrow (by simp; omega) (fun j hj => (row_lt hrow j hj).1)
        have hO9 : w9.ownsRow w1.heap.size 3 1 v' ((P ++ [z]).length + 1) (((P ++ [z] ++ [k]).map fun z : Nat => (z : Int)).map (Value.int .i64)) := by
          rw [List.map_append, List.map_append, List.length_append]
          exact hown'
        clear hrow hown'
        go_roundw
        case rel => exact ⟨k, f', P ++ [z], _, by omega, by omega, by simp; omega, rfl, rfl, HP2, hO9, hB9⟩
        case measure => simp [intOf]; omega
  · have hch : chainT8 T node = [] := by
      unfold chainT8
      cases hr : readP T with
      | none => rfl
      | some r =>
        rw [nodesT_some hr] at hin
        dsimp only
        unfold chainI
        rw [if_neg hin]
    have HCH := Lib.hid hch
    obtain ⟨n, hn⟩ : ∃ n, (nodesT T).length = n := ⟨_, rfl⟩
    rw [hn] at HC hin
    clear hch hn
    have e0 : decide (node < 0) = true ∨ (decide (node < 0) = false ∧ decide ((n : Int) ≤ node) = true) := by
      by_cases h0 : node < 0
      · exact .inl (by simpa using h0)
      · exact .inr ⟨by simpa using h0, by simp; omega⟩
    clear hin
    rcases e0 with e1 | ⟨e1, e2⟩
    all_goals
      go_enter Tryz.func37, Tryz.ntmps37
      go_upto_region 1 with fail
      rw [← hW]
      clear hW
      go_wp2_with fail
      refine HC.out.mono ?_
      rintro e w1 ⟨na, nc, rfl, hnc, hND, hb1⟩
      go_wp2
      go_ret
      rw [HCH.out]
      exact ⟨_, rfl, World.ownsRow_nil _ _ _ _, hB.trans (hb1.mono hB.size)⟩

set_option maxRecDepth 100000 in
set_option maxHeartbeats 4000000 in
theorem rdeep8_any (t : TV) (T : TrieT) (b : Option Addr) (lb cb : Nat) (x : List Int) (w : World) (hT : Tri w t T) (hb : Bd4 t) (hX : Bys w b lb x) (hlb : lb ≤ 1000000) (hcb : lb ≤ cb) :
    Calls Tryz.prog 32 #[.agg t.cells, .slice b lb cb] w fun e w' => e = .returned (.tuple #[.int .i64 (deepT T x).1, .bool (deepT T x).2]) ∧ Below w.heap.size w w' := by
  obtain ⟨ua, un, uc, da, dn, dc, xa, xn, xc, ba, bn, bc⟩ := t
  obtain ⟨W, hW⟩ : ∃ W, W = w.alloc (.cells #[.slice ua un uc, .slice da dn dc, .slice xa xn xc, .slice ba bn bc] 28) := ⟨_, rfl⟩
  have hB : Below w.heap.size w W := by rw [hW]; exact below_alloc _ _
  have hO : Bx w.heap.size [.cells #[.slice ua un uc, .slice da dn dc, .slice xa xn xc, .slice ba bn bc] 28] W := by rw [hW]; exact (Bx.nil _ w).snoc _ rfl
  have c0 : W.cell? ⟨w.heap.size, 0, none⟩ = some (.slice ua un uc) := hO.cell (i := 0) rfl rfl
  have c1 : W.cell? ⟨w.heap.size, 1, none⟩ = some (.slice da dn dc) := hO.cell (i := 0) rfl rfl
  have c2 : W.cell? ⟨w.heap.size, 2, none⟩ = some (.slice xa xn xc) := hO.cell (i := 0) rfl rfl
  have c3 : W.cell? ⟨w.heap.size, 3, none⟩ = some (.slice ba bn bc) := hO.cell (i := 0) rfl rfl
  have HC := Lib.hid (rnodes8_any _ T W (hT.below hB) hb)
  have HBD := Lib.hid (nodesT_bd T)
  have HX := Lib.hid (hX.below hB)
  clear hT hb hX
  cases hr : readP T with
  | none =>
    have HZ : Hid (nodesT T = [] ∧ deepT T x = (0, false)) := ⟨nodesT_none hr, by unfold deepT; rw [hr]⟩
    have HC2 := HC.out
    rw [HZ.out.1] at HC2
    have HC3 := Lib.hid HC2
    clear hr HC2
    go_enter Tryz.func32, Tryz.ntmps32
    go_upto_region 1 with fail
    rw [← hW]
    clear hW
    go_wp2_with fail
    refine HC3.out.mono ?_
    rintro e w1 ⟨a1, c1, rfl, _, _, hb1⟩
    go_wp2
    go_ret2
    exact ⟨by rw [HZ.out.2]; rfl, hB.trans (hb1.mono hB.size)⟩
  | some r =>
    obtain ⟨ws, hws⟩ : ∃ ws, r.2 = ws := ⟨_, rfl⟩
    have HZ : Hid (nodesT T = nodesL ws ∧ deepT T x = (placeS (nodesL ws) (lsf (nodesL ws) x), true)) := ⟨by rw [nodesT_some hr, hws], by unfold deepT; rw [hr]; dsimp only; rw [hws]⟩
    have hn0 : (nodesL ws).length ≠ 0 := fun e => nodesL_ne ws (List.eq_nil_of_length_eq_zero e)
    rw [HZ.out.1] at HC HBD
    have HLD := Lib.hid (lsf_drop (N := nodesL ws) (M := 32) (nodes_pre ws).1 HBD.out.2 x)
    obtain ⟨n, hn⟩ : ∃ n, (nodesL ws).length = n := ⟨_, rfl⟩
    rw [hn] at HC HBD hn0
    have hn4 := HBD.out.1
    have e0 : ((n : Int) == 0) = false := by simp; omega
    have e0' : (n == 0) = false := by simp; omega
    have hmx : max ((lb : Int) - 32) 0 = ((lb - 32 : Nat) : Int) := by omega
    clear hr hws hn hn0
    go_enter Tryz.func32, Tryz.ntmps32
    go_upto_region 1 with fail
    rw [← hW]
    clear hW
    go_wp2_with fail
    refine HC.out.mono ?_
    rintro e w1 ⟨na, nc, rfl, hnc, hN, hb1⟩
    have h8 := rlongest8_any na b n nc lb cb (nodesL ws) x (lb - 32) w1 hN (HX.out.below hb1) (by omega) hlb hcb (place0 ws)
    rw [show lb - 32 = x.length - 32 by rw [HX.out.len], HLD.out, HX.out.len] at h8
    have HQ := Lib.hid h8
    clear h8 hN c0 c1 c2 c3
    go_wp2_with fail
    refine HQ.out.mono ?_
    rintro e w2 ⟨rfl, hb2⟩
    have hB1 := hB.trans (hb1.mono hB.size)
    have hB2 := hB1.trans (hb2.mono hB1.size)
    go_wp2
    go_ret2
    exact ⟨by rw [HZ.out.2]; rfl, hB2⟩
end Go.Proofs.YtifcoalhkcflnaaGreat

/- The document's links (layer 8): a step; walked; contracts brought together. -/


namespace Go.Proofs.YtifcoalhkcflnaaGreat
open Go.RowKit Go.Sort
set_option linter.unusedVariables false
set_option linter.unusedSimpArgs false

set_option maxRecDepth 100000 in
set_option maxHeartbeats 4000000 in
theorem rstep8_any (t : TV) (T : TrieT) (node c : Int) (w : World) (hT : Tri w t T) (hb : Bd4 t) (hc : 0 ≤ c ∧ c ≤ 255) :
    Calls Tryz.prog 34 #[.agg t.cells, .int .i64 node, .int .u8 c] w fun e w' => e = .returned (.tuple #[.int .i64 (stepT T node c).1, .bool (stepT T node c).2]) ∧ Below w.heap.size w w' := by
  obtain ⟨iU, hj, hy0, hy1, hy2⟩ := info_parts u8_info7
  obtain ⟨ua, un, uc, da, dn, dc, xa, xn, xc, ba, bn, bc⟩ := t
  obtain ⟨W, hW⟩ : ∃ W, W = w.alloc (.cells #[.slice ua un uc, .slice da dn dc, .slice xa xn xc, .slice ba bn bc] 28) := ⟨_, rfl⟩
  have hB : Below w.heap.size w W := by rw [hW]; exact below_alloc _ _
  have hO : Bx w.heap.size [.cells #[.slice ua un uc, .slice da dn dc, .slice xa xn xc, .slice ba bn bc] 28] W := by rw [hW]; exact (Bx.nil _ w).snoc _ rfl
  have c0 : W.cell? ⟨w.heap.size, 0, none⟩ = some (.slice ua un uc) := hO.cell (i := 0) rfl rfl
  have c1 : W.cell? ⟨w.heap.size, 1, none⟩ = some (.slice da dn dc) := hO.cell (i := 0) rfl rfl
  have c2 : W.cell? ⟨w.heap.size, 2, none⟩ = some (.slice xa xn xc) := hO.cell (i := 0) rfl rfl
  have c3 : W.cell? ⟨w.heap.size, 3, none⟩ = some (.slice ba bn bc) := hO.cell (i := 0) rfl rfl
  have HC := Lib.hid (rnodes8_any _ T W (hT.below hB) hb)
  have HBD := Lib.hid (nodesT_bd T)
  have HCB := Lib.hid hc
  clear hT hb hc
  by_cases hin : 0 ≤ node ∧ node < ((nodesT T).length : Int)
  · obtain ⟨z, rfl⟩ := Int.eq_ofNat_of_zero_le hin.1
    obtain ⟨ws, hN, hst⟩ : ∃ ws, nodesT T = nodesL ws ∧ ∀ x, (nodesL ws)[z]? = some x → stepT T (z : Int) c = (placeS (nodesL ws) (lsf (nodesL ws) (x ++ [c])), true) := by
      cases hr : readP T with
      | none => rw [nodesT_none hr] at hin; simp at hin; omega
      | some r =>
        refine ⟨r.2, nodesT_some hr, fun x hx => ?_⟩
        rw [nodesT_some hr] at hin
        unfold stepT
        rw [hr]
        dsimp only
        rw [if_pos hin, Int.toNat_natCast, hx, Option.getD_some]
    have HST := Lib.hid hst
    rw [hN] at HC HBD hin
    obtain ⟨n, hn⟩ : ∃ n, (nodesL ws).length = n := ⟨_, rfl⟩
    rw [hn] at HC HBD hin
    have hn4 := HBD.out.1
    have hzn : z < n := by omega
    have d1 : decide ((z : Int) < 0) = false := by simp
    have d2 : decide ((n : Int) ≤ (z : Int)) = false := by simp; omega
    have d2' : decide (n ≤ z) = false := by simp; omega
    clear hst hN hn hin
    go_enter Tryz.func34, Tryz.ntmps34
    go_upto_region 1 with fail
    rw [← hW]
    clear hW
    go_wp2_with fail
    refine HC.out.mono ?_
    rintro e w1 ⟨na, nc, rfl, hnc, hND, hb1⟩
    have HN := Lib.hid hND
    have HB1 := Lib.hid (hB.trans (hb1.mono hB.size))
    obtain ⟨b, o, ai, li, ci, x, rfl, hbl, hcx, hx, hXi, hlci⟩ := hND.at_ hzn
    have HS := Lib.hid (HST.out x hx)
    have hli : li ≤ 32 := by have := HBD.out.2 x (List.mem_of_getElem? hx); rw [hXi.len] at this; exact this
    have hl1 := lit_nil w1 5 (Nat.le_refl w1.heap.size)
    have HXL := Lib.hid hXi.len
    have HXB := Lib.hid hXi.2
    have hXA := hXi.1.below (below_alloc w1 (.cells #[] 5))
    have i1 : (0 : Int) ≤ (z : Int) := by omega
    have i2 : (z : Int) < (n : Int) := by omega
    have fx : (w1.alloc (.cells #[] 5)).cell? ⟨b, o + z, none⟩ = some (.slice ai li ci) := by rw [World.cell?_alloc_lt _ _ _ hbl]; exact hcx
    clear c0 c1 c2 c3 hO hB hb1 HC hND hx hXi HST hcx
    go_wp2_with (first
      | (at_builtin; refine wpList_append_sl1 rfl _ _ 26 rfl u8_one w1.heap.size 5 iU (.int .u8 0) 1 Tryz.underlying26 hj hy0 hy1 hy2 rfl _ 0 [] rfl hl1 ai li ci x rfl hXA (by unfold maxLen; omega) (by omega) (by simp) ?_; intro v1 w2 hown1 hg1 hat1; have hsz2 := hg1.size; simp only [World.size_alloc] at hsz2)
      | (at_builtin; refine wpList_append_own _ rfl _ _ 26 rfl w1.heap.size 5 iU (.int .u8 0) 1 1 Tryz.underlying26 hj hy0 hy1 hy2 rfl (by decide) _ _ _ rfl (hown1.alloc _) ⟨w2.heap.size, 0, none⟩ 1 1 [.int .u8 c] rfl rfl (cells_new _ _ (by simp)) (by simp [Value.oneCell']) (by unfold maxLen; omega) (by omega) (by simp; omega) ?_; intro v2 w3 hown2 hg2 hat2
         have hB2 := ((below_alloc w1 (.cells #[] 5)).grown hg1 (by simp) (fun j hj => by injection hj with hj; subst hj; exact Nat.le_refl _))
         have hB3 := (hB2.alloc hB2.size (.cells #[.int .u8 c] 5)).grown hg2 (by simp; omega) (fun j hj => (row_lt hown1 j hj).1)
         have hown3 : w3.ownsRow w1.heap.size 5 1 v2 (li + 1) ((x ++ [c]).map (Value.int .u8)) := by
           have h := hown2
           rw [Nat.zero_add, List.nil_append] at h
           rw [List.map_append]
           exact h
         obtain ⟨a3, c3, rfl, hc3, hs3⟩ := own_sl1 hown3
         have HQ := Lib.hid (rlongest8_any (some ⟨b, o, none⟩) a3 n nc (li + 1) c3 (nodesL ws) (x ++ [c]) 0 w3 (HN.out.below hB3) ⟨hs3, fun y hy => by
           rw [List.mem_append, List.mem_singleton] at hy
           rcases hy with hy | rfl
           · exact HXB.out y hy
           · exact HCB.out⟩ (by omega) (by omega) hc3 (place0 ws))
         clear hs3 hown3 hown2 hown1))
    refine HQ.out.mono ?_
    rintro e w4 ⟨rfl, hb4⟩
    have hB4 := hB3.trans (hb4.mono hB3.size)
    go_wp2
    go_ret2
    rw [HS.out]
    exact ⟨rfl, HB1.out.trans (hB4.mono HB1.out.size)⟩
  · have hst : stepT T node c = (0, false) := by
      unfold stepT
      cases hr : readP T with
      | none => rfl
      | some r =>
        rw [nodesT_some hr] at hin
        dsimp only
        rw [if_neg hin]
    have HS := Lib.hid hst
    obtain ⟨n, hn⟩ : ∃ n, (nodesT T).length = n := ⟨_, rfl⟩
    rw [hn] at HC hin
    clear hst hn
    have e0 : decide (node < 0) = true ∨ (decide (node < 0) = false ∧ decide ((n : Int) ≤ node) = true) := by
      by_cases h0 : node < 0
      · exact .inl (by simpa using h0)
      · exact .inr ⟨by simpa using h0, by simp; omega⟩
    clear hin
    rcases e0 with e1 | ⟨e1, e2⟩
    all_goals
      go_enter Tryz.func34, Tryz.ntmps34
      go_upto_region 1 with fail
      rw [← hW]
      clear hW
      go_wp2_with fail
      refine HC.out.mono ?_
      rintro e w1 ⟨na, nc, rfl, hnc, hND, hb1⟩
      go_wp2
      go_ret2
      exact ⟨by rw [HS.out]; rfl, hB.trans (hb1.mono hB.size)⟩

theorem flinks_uni (t : TV) (T : TrieT) (w : World) (hT : Tri w t T) (hb : Bd4 t) :
    Calls Tryz.prog 29 #[.agg t.cells] w fun e w' => ∃ a n c, e = .returned (.tuple #[.slice a n c, .int .i64 (linksE T)]) ∧ Sl1 (Value.int .i64) w' a n (linksT T) ∧ Below w.heap.size w w' := by
  unfold linksE linksT
  cases hr : readP T with
  | none =>
    refine (links8_no t T w hT hb.1 hr).mono ?_
    rintro e w' ⟨rfl, h⟩
    exact ⟨none, 0, 0, rfl, ⟨rfl, .inl rfl⟩, h⟩
  | some r =>
    refine (links8_yes t T r.1 r.2 w hT hb.1 hr).mono ?_
    rintro e w' ⟨q, rfl, h1, _, h⟩
    refine ⟨_, _, _, rfl, ?_, h⟩
    have := h1.sl1
    rwa [linksP_len] at this
end Go.Proofs.YtifcoalhkcflnaaGreat

/- The law FailTells (layer 8): walked. Printed by exp.py. -/




namespace Go.Proofs.YtifcoalhkcflnaaGreat
open Go.RowKit Go.Sort
set_option linter.unusedVariables false
set_option linter.unusedSimpArgs false

set_option maxRecDepth 100000 in
set_option maxHeartbeats 16000000 in
theorem failTells_walk (t : TV) (T : TrieT) (a : Option Addr) (la ca : Nat) (l : List Int) (node : Int) (b : Option Addr) (nb cb : Nat) (x : List Int) (c : Int) (w : World) (hT : Tri w t T) (hA : Sl1 (Value.int .i64) w a la l) (hX : Bys w b nb x) (hcb : nb ≤ cb) (hc : 0 ≤ c ∧ c ≤ 255) :
    Calls Tryz.prog 4 #[.agg t.cells, .slice a la ca, .int .i64 node, .slice b nb cb, .int .u8 c] w fun e w' => e = .returned (.bool true) ∧ Below w.heap.size w w' := by
  obtain ⟨ua, un, uc, da, dn, dc, xa, xn, xc, ba, bn, bc⟩ := t
  obtain ⟨W, hW⟩ : ∃ W, W = w.alloc (.cells #[.slice ua un uc, .slice da dn dc, .slice xa xn xc, .slice ba bn bc] 28) := ⟨_, rfl⟩
  have hB : Below w.heap.size w W := by rw [hW]; exact below_alloc _ _
  have hO1 : Bx w.heap.size [.cells #[.slice ua un uc, .slice da dn dc, .slice xa xn xc, .slice ba bn bc] 28] W := by rw [hW]; exact (Bx.nil _ w).snoc _ rfl
  have CE : Hid (∀ V, RowKit.Below W.heap.size W V → V.cell? ⟨w.heap.size, 0, none⟩ = some (.slice ua un uc) ∧ V.cell? ⟨w.heap.size, 1, none⟩ = some (.slice da dn dc) ∧ V.cell? ⟨w.heap.size, 2, none⟩ = some (.slice xa xn xc) ∧ V.cell? ⟨w.heap.size, 3, none⟩ = some (.slice ba bn bc)) := fun V hV =>
    have h := hO1.below hV
    ⟨h.cell (i := 0) rfl rfl, h.cell (i := 0) rfl rfl, h.cell (i := 0) rfl rfl, h.cell (i := 0) rfl rfl⟩
  have HT := Lib.hid (hT.below hB)
  have HA := Lib.hid (hA.below hB)
  have HX := Lib.hid (hX.below hB)
  have HC := Lib.hid hc
  clear hT hA hX hc hO1
  obtain ⟨t0, t1, t2, t3⟩ := CE.out W (Below.refl _ _)
  by_cases ht5 : un ≤ 500 ∧ dn ≤ 500 ∧ xn ≤ 500 ∧ bn ≤ 500
  · have HG := Lib.hid (rgreat7_no ⟨ua, un, uc, da, dn, dc, xa, xn, xc, ba, bn, bc⟩ W ht5)
    go_enter Tryz.func4, Tryz.ntmps4
    go_upto_region 1 with fail
    rw [← hW]
    clear hW
    go_wp2_with fail
    refine HG.out.mono ?_
    rintro e w1 ⟨rfl, hb1⟩
    clear t0 t1 t2 t3
    clear HG
    by_cases hla : la ≤ 500
    · have d1 : decide ((500 : Int) < (la : Int)) = false := by simp; omega
      have d1' : decide (500 < la) = false := by simp; omega
      by_cases hnb : nb ≤ 300
      · have d2 : decide ((300 : Int) < (nb : Int)) = false := by simp; omega
        have d2' : decide (300 < nb) = false := by simp; omega
        have hBT : Bd4 ⟨ua, un, uc, da, dn, dc, xa, xn, xc, ba, bn, bc⟩ := ⟨by show un ≤ _; omega, by show dn ≤ _; omega, by show xn ≤ _; omega, by show bn ≤ _; omega⟩
        have HBT := Lib.hid hBT
        clear hBT ht5
        obtain ⟨le, hle⟩ : ∃ e, linksE T = e := ⟨_, rfl⟩
        have hl1 := flinks_uni ⟨ua, un, uc, da, dn, dc, xa, xn, xc, ba, bn, bc⟩ T w1 (HT.out.below hb1) HBT.out
        rw [hle] at hl1
        have HL1 := Lib.hid hl1
        have HLE := Lib.hid hle
        clear hl1 hle
        obtain ⟨t0, t1, t2, t3⟩ := CE.out w1 hb1
        go_wp2_with fail
        refine HL1.out.mono ?_
        rintro e w2 ⟨a2, n2, c2, rfl, hs2, hb2'⟩
        have hb2 := hb1.trans (hb2'.mono hb1.size)
        have hl2 := rlinks8_any ⟨ua, un, uc, da, dn, dc, xa, xn, xc, ba, bn, bc⟩ T w2 (HT.out.below hb2) HBT.out
        rw [HLE.out] at hl2
        have HL2 := Lib.hid hl2
        clear t0 t1 t2 t3
        clear HL1 hb2' hb1 hl2 HLE d1 d1' d2 d2'
        obtain ⟨t0, t1, t2, t3⟩ := CE.out w2 hb2
        go_wp2_with fail
        refine HL2.out.mono ?_
        rintro e w3 ⟨v3, rfl, hv3, hb3'⟩
        obtain ⟨a3, c3, rfl, _, hs3⟩ := own_sl1 (enc := Value.int .i64) hv3
        have hb3 := hb2.trans (hb3'.mono hb2.size)
        have hs2' := hs2.below hb3'
        clear t0 t1 t2 t3
        clear HL2 hb3' hb2 hs2 hv3
        have hll : (linksT T).length ≤ 400 := by
          unfold linksT
          cases hr : readP T with
          | none => simp
          | some r =>
            have h1 := (nodesT_bd T).1
            rw [nodesT_some hr] at h1
            dsimp only
            unfold linksP
            rw [List.length_map]
            exact h1
        have hn2 : n2 = (linksT T).length := hs2'.1.symm
        obtain ⟨m3, hm3⟩ : ∃ m, (linksT T).length = m := ⟨_, rfl⟩
        rw [hm3] at hn2 hs3 hll ⊢
        subst hn2
        have HS2 := Lib.hid hs2'
        have HS3 := Lib.hid hs3
        clear hm3 hs2' hs3
        obtain ⟨⟨p1, p2⟩, hp⟩ : ∃ p, deepT T x = p := ⟨_, rfl⟩
        have hd1 := deep8_any ⟨ua, un, uc, da, dn, dc, xa, xn, xc, ba, bn, bc⟩ T b nb cb x w3 (HT.out.below hb3) HBT.out.1 (HX.out.below hb3) (by omega)
        rw [hp] at hd1
        dsimp only at hd1
        have HD1 := Lib.hid hd1
        have HP := Lib.hid hp
        clear hd1 hp
        obtain ⟨t0, t1, t2, t3⟩ := CE.out w3 hb3
        go_wp2_with fail
        refine HD1.out.mono ?_
        rintro e w4 ⟨rfl, hb4'⟩
        have hb4 := hb3.trans (hb4'.mono hb3.size)
        have hs24 := HS2.out.below hb4'
        have hs34 := HS3.out.below hb4'
        have hd2 := rdeep8_any ⟨ua, un, uc, da, dn, dc, xa, xn, xc, ba, bn, bc⟩ T b nb cb x w4 (HT.out.below hb4) HBT.out (HX.out.below hb4) (by omega) hcb
        rw [HP.out] at hd2
        dsimp only at hd2
        have HD2 := Lib.hid hd2
        clear t0 t1 t2 t3
        clear HD1 HS2 HS3 HP hd2 hb3 hb4'
        obtain ⟨t0, t1, t2, t3⟩ := CE.out w4 hb4
        go_wp2_with fail
        refine HD2.out.mono ?_
        rintro e w5 ⟨rfl, hb5'⟩
        have hb5 := hb4.trans (hb5'.mono hb4.size)
        have hs25 := hs24.below hb5'
        have hs35 := hs34.below hb5'
        clear t0 t1 t2 t3
        clear HD2 hb4 hb5' hs24 hs34
        obtain ⟨⟨r1, r2⟩, hr⟩ : ∃ p, stepT T node c = p := ⟨_, rfl⟩
        have hk1 := fstep8_any ⟨ua, un, uc, da, dn, dc, xa, xn, xc, ba, bn, bc⟩ T node c w5 (HT.out.below hb5) HBT.out.1 HC.out
        rw [hr] at hk1
        dsimp only at hk1
        have HK1 := Lib.hid hk1
        have HR := Lib.hid hr
        clear hk1 hr
        obtain ⟨t0, t1, t2, t3⟩ := CE.out w5 hb5
        go_wp2_with fail
        refine HK1.out.mono ?_
        rintro e w6 ⟨rfl, hb6'⟩
        have hb6 := hb5.trans (hb6'.mono hb5.size)
        have hs26 := hs25.below hb6'
        have hs36 := hs35.below hb6'
        have hk2 := rstep8_any ⟨ua, un, uc, da, dn, dc, xa, xn, xc, ba, bn, bc⟩ T node c w6 (HT.out.below hb6) HBT.out HC.out
        rw [HR.out] at hk2
        dsimp only at hk2
        have HK2 := Lib.hid hk2
        clear t0 t1 t2 t3
        clear HK1 HR hk2 hb5 hb6' hs25 hs35
        obtain ⟨t0, t1, t2, t3⟩ := CE.out w6 hb6
        go_wp2_with fail
        refine HK2.out.mono ?_
        rintro e w7 ⟨rfl, hb7'⟩
        have hb7 := hb6.trans (hb7'.mono hb6.size)
        have hi := rints_any a2 a3 n2 c2 n2 c3 _ _ w7 (hs26.below hb7') (hs36.below hb7') (by omega)
        rw [decide_eq_true (rfl : linksT T = linksT T)] at hi
        have HI := Lib.hid hi
        clear t0 t1 t2 t3
        clear HK2 hb6 hb7' hs26 hs36 hi
        have n1 : ((p1 : Int) != p1) = false := by simp
        have n2' : ((r1 : Int) != r1) = false := by simp
        have n3 : ((le : Int) != le) = false := by simp
        go_wp2_with fail
        refine HI.out.mono ?_
        rintro e w8 ⟨rfl, hb8'⟩
        have hb8 := hb7.trans (hb8'.mono hb7.size)
        clear HI hb7 hb8'
        go_upto_region 11 with fail
        clear n1 n2' n3
        obtain ⟨V0, rfl⟩ : ∃ V, V = w8 := ⟨_, rfl⟩
        have HB0 := Lib.hid hb8
        have CV : Hid (∀ V, RowKit.Below V0.heap.size V0 V → RowKit.Below W.heap.size W V) := fun V hV => HB0.out.trans (hV.mono HB0.out.size)
        clear hb8
        have hcl := chainT8_len T node
        obtain ⟨R, hRR⟩ : ∃ R, rightL8 T l = R := ⟨_, rfl⟩
        have HRR := Lib.hid hRR
        clear hRR
        have k2 : Hid (∀ V, RowKit.Below V0.heap.size V0 V → Calls Tryz.prog 38 #[.agg (TV.cells ⟨ua, un, uc, da, dn, dc, xa, xn, xc, ba, bn, bc⟩), .slice a la ca] V fun e w' => e = .returned (.bool R) ∧ RowKit.Below V.heap.size V w') := fun V hV => by
          have h := fright8_any ⟨ua, un, uc, da, dn, dc, xa, xn, xc, ba, bn, bc⟩ T a la ca l V (HT.out.below (CV.out V hV)) HBT.out.1 (HA.out.below (CV.out V hV))
          rwa [HRR.out] at h
        have k3 : Hid (∀ V, RowKit.Below V0.heap.size V0 V → Calls Tryz.prog 39 #[.agg (TV.cells ⟨ua, un, uc, da, dn, dc, xa, xn, xc, ba, bn, bc⟩), .slice a la ca] V fun e w' => e = .returned (.bool R) ∧ RowKit.Below V.heap.size V w') := fun V hV => by
          have h := rright8_any ⟨ua, un, uc, da, dn, dc, xa, xn, xc, ba, bn, bc⟩ T a la ca l V (HT.out.below (CV.out V hV)) HBT.out (HA.out.below (CV.out V hV))
          rwa [HRR.out] at h
        have k8 : Hid (∀ V, RowKit.Below V0.heap.size V0 V → Calls Tryz.prog 28 #[] V fun e w' => e = .returned (.bool true) ∧ RowKit.Below V.heap.size V w') := fun V hV => wakes8 V
        obtain ⟨ch, hch⟩ : ∃ ch, chainT8 T node = ch := ⟨_, rfl⟩
        have HCH := Lib.hid hch
        rw [hch] at hcl
        clear hch HRR
        have kf : Hid (∀ V, RowKit.Below V0.heap.size V0 V → Calls Tryz.prog 36 #[.agg (TV.cells ⟨ua, un, uc, da, dn, dc, xa, xn, xc, ba, bn, bc⟩), .int .i64 node] V fun e w' => ∃ v, e = .returned v ∧ OwnI w' V.heap.size v ch ∧ RowKit.Below V.heap.size V w') := fun V hV => by
          have h := fchain8_any ⟨ua, un, uc, da, dn, dc, xa, xn, xc, ba, bn, bc⟩ T node V (HT.out.below (CV.out V hV)) HBT.out.1
          rwa [HCH.out] at h
        have kr : Hid (∀ V, RowKit.Below V0.heap.size V0 V → Calls Tryz.prog 37 #[.agg (TV.cells ⟨ua, un, uc, da, dn, dc, xa, xn, xc, ba, bn, bc⟩), .int .i64 node] V fun e w' => ∃ v, e = .returned v ∧ OwnI w' V.heap.size v ch ∧ RowKit.Below V.heap.size V w') := fun V hV => by
          have h := rchain8_any ⟨ua, un, uc, da, dn, dc, xa, xn, xc, ba, bn, bc⟩ T node V (HT.out.below (CV.out V hV)) HBT.out
          rwa [HCH.out] at h
        clear HCH
        refine wp_region_noPanic ?_
        refine wp_region_held_drew (S := RowKit.Below V0.heap.size V0) (by kernel_rfl) (bel_drewN V0 1) (fun hHeld => ?_)
        refine wpAnyH_take (i := 0) (v := ?_) (by simp only [List.getElem?_toArray, List.getElem?_cons_zero, List.getElem?_cons_succ]; rfl) (by as_aux_lemma => kernel_rfl) (by as_aux_lemma => kernel_rfl) (by as_aux_lemma => kernel_rfl) (fun _ _ _ h => h) (Or.inl ⟨by rfl, ?_⟩) (by assumption) ?_
        rotate_left
        · intro V hV
          obtain ⟨t0, t1, t2, t3⟩ := CE.out _ (CV.out V hV)
          first | (go_simp; done) | (go_simp; with_reducible rfl)
        try simp only [Act.put, List.setIfInBounds_toArray, List.set_cons_zero, List.set_cons_succ]
        refine wpAnyH_take (i := 1) (v := ?_) (by simp only [List.getElem?_toArray, List.getElem?_cons_zero, List.getElem?_cons_succ]; rfl) (by as_aux_lemma => kernel_rfl) (by as_aux_lemma => kernel_rfl) (by as_aux_lemma => kernel_rfl) (fun _ _ _ h => h) (Or.inl ⟨by rfl, ?_⟩) (by assumption) ?_
        rotate_left
        · intro V hV
          first | (go_simp; done) | (go_simp; with_reducible rfl)
        try simp only [Act.put, List.setIfInBounds_toArray, List.set_cons_zero, List.set_cons_succ]
        refine wpAnyH_take (i := 3) (v := ?_) (by simp only [List.getElem?_toArray, List.getElem?_cons_zero, List.getElem?_cons_succ]; rfl) (by as_aux_lemma => kernel_rfl) (by as_aux_lemma => kernel_rfl) (by as_aux_lemma => kernel_rfl) (fun _ _ _ h => h) (Or.inl ⟨by rfl, ?_⟩) (by assumption) ?_
        rotate_left
        · intro V hV
          obtain ⟨t0, t1, t2, t3⟩ := CE.out _ (CV.out V hV)
          first | (go_simp; done) | (go_simp; with_reducible rfl)
        try simp only [Act.put, List.setIfInBounds_toArray, List.set_cons_zero, List.set_cons_succ]
        refine wpAnyH_take (i := 4) (v := ?_) (by simp only [List.getElem?_toArray, List.getElem?_cons_zero, List.getElem?_cons_succ]; rfl) (by as_aux_lemma => kernel_rfl) (by as_aux_lemma => kernel_rfl) (by as_aux_lemma => kernel_rfl) (fun _ _ _ h => h) (Or.inl ⟨by rfl, ?_⟩) (by assumption) ?_
        rotate_left
        · intro V hV
          first | (go_simp; done) | (go_simp; with_reducible rfl)
        try simp only [Act.put, List.setIfInBounds_toArray, List.set_cons_zero, List.set_cons_succ]
        refine wpAnyH_ready (rs := [2]) (by as_aux_lemma => kernel_rfl) (by simp) ?_
        refine AllReadyH.cons (by simp only [List.getElem?_toArray, List.getElem?_cons_zero, List.getElem?_cons_succ]; rfl) (fun K hK => ?_) AllReadyH.nil
        go_simp
        go_at_call 36; refine (kf.out _ hHeld).mono ?_; rintro e w20 ⟨v20, rfl, hv20, hb20⟩
        obtain ⟨a20, c20, rfl, _, hs20⟩ := own_sl1 (enc := Value.int .i64) hv20
        have hB20 := hHeld.trans (hb20.mono hHeld.size)
        refine hK.out _ _ hB20 (fun hNew => ?_)
        clear hK K hHeld
        have hHeld := hNew
        clear hNew hv20
        try simp only [Act.put, List.setIfInBounds_toArray, List.set_cons_zero, List.set_cons_succ]
        refine wpAnyH_ready (rs := [5]) (by as_aux_lemma => kernel_rfl) (by simp) ?_
        refine AllReadyH.cons (by simp only [List.getElem?_toArray, List.getElem?_cons_zero, List.getElem?_cons_succ]; rfl) (fun K hK => ?_) AllReadyH.nil
        go_simp
        go_at_call 37; refine (kr.out _ hHeld).mono ?_; rintro e w21 ⟨v21, rfl, hv21, hb21⟩
        obtain ⟨a21, c21, rfl, _, hs21⟩ := own_sl1 (enc := Value.int .i64) hv21
        have hB21 := hHeld.trans (hb21.mono hHeld.size)
        have hic := rints_any a20 a21 ch.length c20 ch.length c21 ch ch w21 (hs20.below hb21) hs21 (by omega)
        rw [decide_eq_true (rfl : ch = ch)] at hic
        have HIC := Lib.hid hic
        refine hK.out _ _ hB21 (fun hNew => ?_)
        clear hK K hHeld
        have hHeld := hNew
        clear hNew hv21 hs20 hs21 hic
        try simp only [Act.put, List.setIfInBounds_toArray, List.set_cons_zero, List.set_cons_succ]
        refine wpAnyH_ready (rs := [6]) (by as_aux_lemma => kernel_rfl) (by simp) ?_
        refine AllReadyH.cons (by simp only [List.getElem?_toArray, List.getElem?_cons_zero, List.getElem?_cons_succ]; rfl) (fun K hK => ?_) AllReadyH.nil
        go_simp
        go_at_call 35; refine HIC.out.mono ?_; rintro e w22 ⟨rfl, hb22⟩
        refine hK.out _ _ (hHeld.trans (hb22.mono hHeld.size)) (fun hNew => ?_)
        clear hK K hHeld
        have hHeld := hNew
        clear hNew
        try simp only [Act.put, List.setIfInBounds_toArray, List.set_cons_zero, List.set_cons_succ]
        refine wpAnyH_take (i := 7) (v := ?_) (by simp only [List.getElem?_toArray, List.getElem?_cons_zero, List.getElem?_cons_succ]; rfl) (by as_aux_lemma => kernel_rfl) (by as_aux_lemma => kernel_rfl) (by as_aux_lemma => kernel_rfl) (fun _ _ _ h => h) (Or.inl ⟨by rfl, ?_⟩) (by assumption) ?_
        rotate_left
        · intro V hV
          first | (go_simp; done) | (go_simp; with_reducible rfl)
        try simp only [Act.put, List.setIfInBounds_toArray, List.set_cons_zero, List.set_cons_succ]
        refine wpAnyH_take (i := 8) (v := ?_) (by simp only [List.getElem?_toArray, List.getElem?_cons_zero, List.getElem?_cons_succ]; rfl) (by as_aux_lemma => kernel_rfl) (by as_aux_lemma => kernel_rfl) (by as_aux_lemma => kernel_rfl) (fun _ _ _ h => h) (Or.inl ⟨by rfl, ?_⟩) (by assumption) ?_
        rotate_left
        · intro V hV
          obtain ⟨t0, t1, t2, t3⟩ := CE.out _ (CV.out V hV)
          first | (go_simp; done) | (go_simp; with_reducible rfl)
        try simp only [Act.put, List.setIfInBounds_toArray, List.set_cons_zero, List.set_cons_succ]
        refine wpAnyH_take (i := 9) (v := ?_) (by simp only [List.getElem?_toArray, List.getElem?_cons_zero, List.getElem?_cons_succ]; rfl) (by as_aux_lemma => kernel_rfl) (by as_aux_lemma => kernel_rfl) (by as_aux_lemma => kernel_rfl) (fun _ _ _ h => h) (Or.inl ⟨by rfl, ?_⟩) (by assumption) ?_
        rotate_left
        · intro V hV
          first | (go_simp; done) | (go_simp; with_reducible rfl)
        try simp only [Act.put, List.setIfInBounds_toArray, List.set_cons_zero, List.set_cons_succ]
        refine wpAnyH_take (i := 11) (v := ?_) (by simp only [List.getElem?_toArray, List.getElem?_cons_zero, List.getElem?_cons_succ]; rfl) (by as_aux_lemma => kernel_rfl) (by as_aux_lemma => kernel_rfl) (by as_aux_lemma => kernel_rfl) (fun _ _ _ h => h) (Or.inl ⟨by rfl, ?_⟩) (by assumption) ?_
        rotate_left
        · intro V hV
          obtain ⟨t0, t1, t2, t3⟩ := CE.out _ (CV.out V hV)
          first | (go_simp; done) | (go_simp; with_reducible rfl)
        try simp only [Act.put, List.setIfInBounds_toArray, List.set_cons_zero, List.set_cons_succ]
        refine wpAnyH_take (i := 12) (v := ?_) (by simp only [List.getElem?_toArray, List.getElem?_cons_zero, List.getElem?_cons_succ]; rfl) (by as_aux_lemma => kernel_rfl) (by as_aux_lemma => kernel_rfl) (by as_aux_lemma => kernel_rfl) (fun _ _ _ h => h) (Or.inl ⟨by rfl, ?_⟩) (by assumption) ?_
        rotate_left
        · intro V hV
          first | (go_simp; done) | (go_simp; with_reducible rfl)
        try simp only [Act.put, List.setIfInBounds_toArray, List.set_cons_zero, List.set_cons_succ]
        refine wpAnyH_one (i := 10) (vi := .bool R) (by simp only [List.getElem?_toArray, List.getElem?_cons_zero, List.getElem?_cons_succ]; rfl) (by as_aux_lemma => kernel_rfl) ?_ ?_ _ hHeld
        · intro V hV K hK
          try simp only [Act.put, List.setIfInBounds_toArray, List.set_cons_zero, List.set_cons_succ] at hK
          go_simp
          go_at_call 38; refine (k2.out V hV).mono ?_; rintro e w2 ⟨rfl, hb2⟩; exact hK _ (hV.trans (hb2.mono hV.size))
        clear hHeld
        intro V1 hHeld
        try simp only [Act.put, List.setIfInBounds_toArray, List.set_cons_zero, List.set_cons_succ]
        refine wpAnyH_one (i := 13) (vi := .bool R) (by simp only [List.getElem?_toArray, List.getElem?_cons_zero, List.getElem?_cons_succ]; rfl) (by as_aux_lemma => kernel_rfl) ?_ ?_ _ hHeld
        · intro V hV K hK
          try simp only [Act.put, List.setIfInBounds_toArray, List.set_cons_zero, List.set_cons_succ] at hK
          go_simp
          go_at_call 39; refine (k3.out V hV).mono ?_; rintro e w2 ⟨rfl, hb2⟩; exact hK _ (hV.trans (hb2.mono hV.size))
        clear hHeld
        intro V1 hHeld
        try simp only [Act.put, List.setIfInBounds_toArray, List.set_cons_zero, List.set_cons_succ]
        refine wpAnyH_take (i := 14) (v := ?_) (by simp only [List.getElem?_toArray, List.getElem?_cons_zero, List.getElem?_cons_succ]; rfl) (by as_aux_lemma => kernel_rfl) (by as_aux_lemma => kernel_rfl) (by as_aux_lemma => kernel_rfl) (fun _ _ _ h => h) (Or.inl ⟨by rfl, ?_⟩) (by assumption) ?_
        rotate_left
        · intro V hV
          first | (go_simp; done) | (go_simp; with_reducible rfl)
        try simp only [Act.put, List.setIfInBounds_toArray, List.set_cons_zero, List.set_cons_succ]
        refine wpAnyH_take (i := 15) (v := ?_) (by simp only [List.getElem?_toArray, List.getElem?_cons_zero, List.getElem?_cons_succ]; rfl) (by as_aux_lemma => kernel_rfl) (by as_aux_lemma => kernel_rfl) (by as_aux_lemma => kernel_rfl) (fun _ _ _ h => h) (Or.inl ⟨by rfl, ?_⟩) (by assumption) ?_
        rotate_left
        · intro V hV
          first | (go_simp; done) | (go_simp; with_reducible rfl)
        try simp only [Act.put, List.setIfInBounds_toArray, List.set_cons_zero, List.set_cons_succ]
        refine wpAnyH_take (i := 16) (v := ?_) (by simp only [List.getElem?_toArray, List.getElem?_cons_zero, List.getElem?_cons_succ]; rfl) (by as_aux_lemma => kernel_rfl) (by as_aux_lemma => kernel_rfl) (by as_aux_lemma => kernel_rfl) (fun _ _ _ h => h) (Or.inl ⟨by rfl, ?_⟩) (by assumption) ?_
        rotate_left
        · intro V hV
          first | (go_simp; done) | (go_simp; with_reducible rfl)
        try simp only [Act.put, List.setIfInBounds_toArray, List.set_cons_zero, List.set_cons_succ]
        refine wpAnyH_one (i := 17) (vi := .bool true) (by simp only [List.getElem?_toArray, List.getElem?_cons_zero, List.getElem?_cons_succ]; rfl) (by as_aux_lemma => kernel_rfl) ?_ ?_ _ hHeld
        · intro V hV K hK
          try simp only [Act.put, List.setIfInBounds_toArray, List.set_cons_zero, List.set_cons_succ] at hK
          go_simp
          go_at_call 28; refine (k8.out V hV).mono ?_; rintro e w2 ⟨rfl, hb2⟩; exact hK _ (hV.trans (hb2.mono hV.size))
        clear hHeld
        intro V1 hHeld
        try simp only [Act.put, List.setIfInBounds_toArray, List.set_cons_zero, List.set_cons_succ]
        refine wpAnyH_take (i := 18) (v := ?_) (by simp only [List.getElem?_toArray, List.getElem?_cons_zero, List.getElem?_cons_succ]; rfl) (by as_aux_lemma => kernel_rfl) (by as_aux_lemma => kernel_rfl) (by as_aux_lemma => kernel_rfl) (fun _ _ _ h => h) (Or.inl ⟨by rfl, ?_⟩) (by assumption) ?_
        rotate_left
        · intro V hV
          first | (go_simp; done) | (go_simp; with_reducible rfl)
        try simp only [Act.put, List.setIfInBounds_toArray, List.set_cons_zero, List.set_cons_succ]
        refine wpAnyH_take (i := 19) (v := ?_) (by simp only [List.getElem?_toArray, List.getElem?_cons_zero, List.getElem?_cons_succ]; rfl) (by as_aux_lemma => kernel_rfl) (by as_aux_lemma => kernel_rfl) (by as_aux_lemma => kernel_rfl) (fun _ _ _ h => h) (Or.inl ⟨by rfl, ?_⟩) (by assumption) ?_
        rotate_left
        · intro V hV
          first | (go_simp; done) | (go_simp; with_reducible rfl)
        try simp only [Act.put, List.setIfInBounds_toArray, List.set_cons_zero, List.set_cons_succ]
        refine wpAnyH_done (by kernel_rfl) ?_ _
        refine NoPanic.normal ?_
        go_wp2
        go_ret
        exact ⟨rfl, hB.trans ((CV.out _ hHeld).mono hB.size)⟩
      · have d2 : decide ((300 : Int) < (nb : Int)) = true := by simp; omega
        have d2' : decide (300 < nb) = true := by simp; omega
        go_wp2_with fail
        refine (wakes8 _).mono ?_
        rintro e w4 ⟨rfl, hb4⟩
        have hB4 := hB.trans ((hb1.trans (hb4.mono hb1.size)).mono hB.size)
        go_wp2
        go_ret
        exact ⟨rfl, hB4⟩
    · have d1 : decide ((500 : Int) < (la : Int)) = true := by simp; omega
      have d1' : decide (500 < la) = true := by simp; omega
      go_wp2_with fail
      refine (wakes8 _).mono ?_
      rintro e w4 ⟨rfl, hb4⟩
      have hB4 := hB.trans ((hb1.trans (hb4.mono hb1.size)).mono hB.size)
      go_wp2
      go_ret
      exact ⟨rfl, hB4⟩
  · have HG := Lib.hid (rgreat7_yes ⟨ua, un, uc, da, dn, dc, xa, xn, xc, ba, bn, bc⟩ W ht5)
    go_enter Tryz.func4, Tryz.ntmps4
    go_upto_region 1 with fail
    rw [← hW]
    clear hW
    go_wp2_with fail
    refine HG.out.mono ?_
    rintro e w1 ⟨rfl, hb1⟩
    clear t0 t1 t2 t3
    go_wp2_with fail
    refine (wakes8 _).mono ?_
    rintro e w4 ⟨rfl, hb4⟩
    have hB4 := hB.trans ((hb1.trans (hb4.mono hb1.size)).mono hB.size)
    go_wp2
    go_ret
    exact ⟨rfl, hB4⟩

end Go.Proofs.YtifcoalhkcflnaaGreat
